/- What is proved: a part of the way to the statement: AcJ. No conditions. -/
import Derived.Test.YtneeejngeoaaoaaQ3
import Derived.Test.YtneeejngeoaaoaaQ6
import Derived.Test.YtneeejngeoaaoaaQ2
import Derived.Test.YtneeejngeoaaoaaQ4
import Derived.KernelRfl
import Derived.Lib.Bytealg
set_option linter.unusedVariables false
set_option linter.unusedSimpArgs false
set_option maxRecDepth 100000
namespace Go.Ab
open List
structure Part where
 Item:List UInt8
 Qty:Int
 deriving DecidableEq
theorem u8_eq(a b:UInt8):decide ((a.toNat:Int)=b.toNat)=decide (a=b):=by
 rw[decide_eq_decide];constructor
 ·intro h;exact UInt8.toNat_inj.1 (by omega)
 ·intro h;rw[h]
def bS:Scal UInt8 where
 c b:= .int .u8 b.toNat
 cell _:=rfl
 eql a b:=by rw[V.zf3,u8_eq]
 neq a b:=by rw[V.bin_neq,u8_eq]
abbrev bc:UInt8->List za:=bS.cs
def tS:Scal (List UInt8) where
 c b:= .str b
 cell _:=rfl
 eql a b:=by rw[V.bin_seql]
 neq a b:=by rw[V.bin_sneq]
abbrev tc:List UInt8->List za:=tS.cs
def iS:Scal Int where
 c b:= .int .i64 b
 cell _:=rfl
 eql a b:=by rw[V.zf3]
 neq a b:=by rw[V.bin_neq]
theorem wrap_u8(n:Int):IntKind.u8.wrap n=n % 256:=by
 simp[IntKind.wrap,IntKind.bits,IntKind.signed]
def byt(m:Int):UInt8:=UInt8.ofNat (m % 256).toNat
theorem byt_nat(m:Int):((byt m).toNat:Int)=m % 256:=by
 have h1:=Int.emod_nonneg m (show (256:Int)≠0 by omega);have h2:=Int.emod_lt_of_pos m (show (0:Int)<256 by omega);simp[byt];omega
theorem u8_byt(m:Int):IntKind.u8.wrap m=((byt m).toNat:Int):=by rw[wrap_u8,byt_nat]
theorem bin_shr{k j:IntKind}{a b:Int}(h0:0 <= b)(h1:b<k.bits):V.bin .shr (.int k a) (.int j b)=some (.int k (a.fdiv (2 ^ b.toNat))):=by
 simp only[V.bin,V.shift];rw[if_neg (by omega),Nat.min_eq_left (by omega)]
theorem wrap_u64(n:Int):IntKind.u64.wrap n=n % 18446744073709551616:=by
 simp[IntKind.wrap,IntKind.bits,IntKind.signed]
theorem zsj:∀s:List UInt8,V.zjt (s.map bc).flatten=some s
 | []=>rfl
 | a::r=>by
  have:=zsj r
  simp only[map_cons,flatten_cons,cons_append,nil_append]at this ⊢
  simp only[V.zjt,this]
  simp[V.byteOf?,bS]
theorem bytesStr_bc{h:zb}{x:za}{s:List UInt8}{R:List (List za)}(hx:SlX h 1 x (s.map bc) R)(K:za->Prop):(B.ze0 h x K:Prop)=K (.str s):=by
 have h1:=hx.zgt;have h2:=hx.rdv;rw[length_map]at h1 h2;simp only[B.ze0,A.ze0,h1,h2,zsj]
variable{C:z5}{N:zN}
theorem zq4{s:List UInt8}{k:Nat}{b:UInt8}(hb:s[k]?=some b):V.zii (.str s) (.int .i64 (k:Int))=some (.int .u8 b.toNat):=by
 simp[V.zii,hb]
theorem SlX.zoc{T:Type}{h:zb}{es:Nat}{x:za}{f:T->List za}{L:List T}{R:List (List za)}(hs:SlX h es x (L.map f) R)(hes:0<es){lo hi:Nat}{a b:Option za}(ha:a=none /\ lo=0 \/ ∃k,a=some (.int k lo))(hb:b=none /\ hi=L.length \/ ∃k,b=some (.int k hi))(h1:lo <= hi)(h2:hi <= L.length):
  ∃x' R',V.zh9 es x a b=some x' /\ SlX h es x' (((L.take hi).drop lo).map f) R' /\ zhy x'=zhy x:=by
 obtain⟨x',e1,e2,e3⟩:=hs.slice hes ha (by simpa using hb) h1 (by simp;omega);refine⟨x',(L.map f++R).drop hi,e1,?_,e3⟩
 rwa [take_append_of_le_length (by simpa using h2),<-map_take,<-map_drop]at e2
variable{C:z5}{N:zN}
def be(n:Int):Nat->List UInt8|0=>[]|k+1=>byt (n.fdiv (2 ^ (8*k)))::be n k
@[simp] theorem be_len(n:Int):∀k,(be n k).length=k
 | 0=>rfl
 | k+1=>by simp[be,be_len n k]
variable{C:z5}{N:zN}
theorem bin_shl{k j:IntKind}{a b:Int}(h0:0 <= b)(h1:b<k.bits):V.bin .shl (.int k a) (.int j b)=some (.int k (k.wrap (a*2 ^ b.toNat))):=by
 simp only[V.bin,V.shift];rw[if_neg (by omega),Nat.min_eq_left (by omega)]
variable{C:z5}{N:zN}
theorem V.bin_xor(k:IntKind)(a b:Int):V.bin .xor (.int k a) (.int k b)=some (.int k (k.wrap (BitVec.ofInt k.bits a ^^^ BitVec.ofInt k.bits b).toNat)):=by simp[V.bin,V.arith]
theorem V.bin_and(k:IntKind)(a b:Int):V.bin .and (.int k a) (.int k b)=some (.int k (k.wrap (BitVec.ofInt k.bits a &&& BitVec.ofInt k.bits b).toNat)):=by simp[V.bin,V.arith]
theorem wrapU{n:Nat}(h:n<18446744073709551616):IntKind.u64.wrap (n:Int)=n:=by rw[wrap_u64];omega
theorem toUN{n:Nat}(h:n<18446744073709551616):V.toInt .u64 (.int .i64 (n:Int))=some (.int .u64 (n:Int)):=by rw[V.toInt_int,wrapU h]
theorem toIN{k:IntKind}{n:Nat}(h:n<4611686018427387904):V.toInt .i64 (.int k (n:Int))=some (.int .i64 (n:Int)):=by rw[V.toInt_int,wrap_i64 (by omega) (by omega)]
theorem and_le{z:Int}{m:Nat}(h:m<4611686018427387904):∃o:Nat,o <= m /\ V.bin .and (.int .u64 z) (.int .u64 (m:Int))=some (.int .u64 (o:Int)):=by
 refine⟨(BitVec.ofInt 64 z &&& BitVec.ofInt 64 (m:Int)).toNat,?_,?_⟩
 ·rw[BitVec.toNat_and]
  refine Nat.le_trans Nat.and_le_right ?_;rw[BitVec.toNat_ofInt];omega
 ·rw[V.bin_and]
  show some (za.int .u64 (IntKind.u64.wrap ((BitVec.ofInt 64 z &&& BitVec.ofInt 64 (m:Int)).toNat:Int)))=_;rw[wrapU (BitVec.isLt _)]
def lenT:List UInt8:=[0,1,2,2,3,3,3,3,4,4,4,4,4,4,4,4,5,5,5,5,5,5,5,5,5,5,5,5,5,5,5,5,6,6,6,6,6,6,6,6,6,6,6,6,6,6,6,6,6,6,6,6,6,6,6,6,6,6,6,6,6,6,6,6,7,7,7,7,7,7,7,7,7,7,7,7,7,7,7,7,7,7,7,7,7,7,7,7,7,7,7,7,7,7,7,7,7,7,7,7,7,7,7,7,7,7,7,7,7,7,7,7,7,7,7,7,7,7,7,7,7,7,7,7,7,7,7,7,8,8,8,8,8,8,8,8,8,8,8,8,8,8,8,8,8,8,8,8,8,8,8,8,8,8,8,8,8,8,8,8,8,8,8,8,8,8,8,8,8,8,8,8,8,8,8,8,8,8,8,8,8,8,8,8,8,8,8,8,8,8,8,8,8,8,8,8,8,8,8,8,8,8,8,8,8,8,8,8,8,8,8,8,8,8,8,8,8,8,8,8,8,8,8,8,8,8,8,8,8,8,8,8,8,8,8,8,8,8,8,8,8,8,8,8,8,8,8,8,8,8,8,8,8,8,8,8]
theorem idxStr_u8{s:List UInt8}{k:Nat}{b:UInt8}(hb:s[k]?=some b):V.zii (.str s) (.int .u8 (k:Int))=some (.int .u8 b.toNat):=by
 simp[V.zii,hb]
theorem lenT_all:∀k:Fin 256,∃b:Fin 9,lenT[k.val]?=some (UInt8.ofNat b.val) /\ (0<k.val->2 ^ b.val <= 2*k.val):=by decide +kernel
theorem lenTab{k:Nat}(h:k<256):∃b:Nat,V.zii (.str lenT) (.int .u8 (k:Int))=some (.int .u8 (b:Int)) /\ b <= 8 /\ (0<k->2 ^ b <= 2*k):=by
 obtain⟨b,e,hb⟩:=lenT_all ⟨k,h⟩;have hb9:=b.isLt;refine⟨b.val,?_,by omega,hb⟩;rw[idxStr_u8 e];congr 2;rw[UInt8.toNat_ofNat',Nat.mod_eq_of_lt (by omega)]
theorem Len64_k1{Q:zQ}{v0 v2:za}{h:zb}:zbi.k1 C N Q v0 v2 h=(B.pv (V.toInt .u8 v0) λv21=>B.pv (V.zii (.str lenT) v21) λv22=>B.pv (V.toInt .i64 v22) λv23=>B.pv (V.bin .add v2 v23) λv24=>Q v24 h):=rfl
theorem Len64_spec{x:Nat}(hx:x <= 100000000){h:zb}{Q:zQ}(hq:∀r:Nat,r <= 32->(0<x->2 ^ r <= 2*x)->Q (.int .i64 (r:Int)) h):zbi.cps C N (.int .u64 (x:Int)) h Q:=by
 have fin:∀(y s:Nat),y<256->s <= 24->(0<x->0<y)->2 ^ s*y <= x->zbi.k1 C N Q (.int .u64 (y:Int)) (.int .i64 (s:Int)) h:=λy s hy hs h0 hle=>by
  obtain⟨b,e,hb,hp⟩:=lenTab hy;have e1:V.toInt .u8 (.int .u64 (y:Int))=some (.int .u8 (y:Int)):=by rw[V.toInt_int,wrap_u8];congr 2;omega
  rw[Len64_k1];simp -dsimp only[e1,B.ze,e,toIN (show b<4611686018427387904 by omega),zpv (show s+b<4611686018427387904 by omega)];refine hq (s+b) (by omega) λhx0=>?_;have h1:=hp (h0 hx0);have h2:2 ^ s*2 ^ b <= 2 ^ s*(2*y):=Nat.mul_le_mul_left _ h1;rw[Nat.pow_add];have h3:2 ^ s*(2*y)=2*(2 ^ s*y):=by rw[Nat.mul_left_comm]
  omega
 have sh:∀(y j:Nat),j<64->V.bin .shr (.int .u64 (y:Int)) (.int .u64 (j:Int))=some (.int .u64 ((y / 2 ^ j:Nat):Int)):=λy j hj=>by
  rw[bin_shr (by omega) (by simp[IntKind.bits];omega),Int.toNat_natCast];congr 2;rw[Int.fdiv_eq_ediv_of_nonneg _ (by exact_mod_cast Nat.zero_le (2 ^ j))];simp
 have g3:V.bin .geq (.int .u64 (x:Int)) (.int .u64 4294967296)=some (.bool false):=by rw[V.znd];simp;omega
 have gk:∀y m:Nat,V.bin .geq (.int .u64 (y:Int)) (.int .u64 (m:Int))=some (.bool (decide (m <= y))):=λy m=>by rw[V.znd];congr 3;exact propext (by omega)
 have low:∀(y s:Nat),y<65536->s <= 16->(0<x->0<y)->2 ^ s*y <= x->zbi.k2 C N Q (.int .u64 (y:Int)) (.int .i64 (s:Int)) h:=λy s hy hs h0 hle=>by
  have g1:V.bin .geq (.int .u64 (y:Int)) (.int .u64 256)=some (.bool (decide (256 <= y))):=gk y 256;have s1:V.bin .shr (.int .u64 (y:Int)) (.int .u64 8)=some (.int .u64 ((y / 2 ^ 8:Nat):Int)):=sh y 8 (by omega);have a1:V.bin .add (.int .i64 (s:Int)) (.int .i64 8)=some (.int .i64 ((s+8:Nat):Int)):=zpv (a:=s) (b:=8) (by omega);simp -dsimp only[zbi.k2,g1,B.ze];refine B.zbe (λhd=>?_) (λhd=>?_)
  ·rw[decide_eq_true_eq]at hd
   simp -dsimp only[s1,a1,B.ze];refine fin (y / 2 ^ 8) (s+8) (by omega) (by omega) (λ_=>by omega) ?_;rw[Nat.pow_add,Nat.mul_assoc];refine Nat.le_trans (Nat.mul_le_mul_left _ ?_) hle;omega
  ·rw[decide_eq_false_iff_not]at hd
   exact fin y s (by omega) (by omega) h0 hle
 have g2:V.bin .geq (.int .u64 (x:Int)) (.int .u64 65536)=some (.bool (decide (65536 <= x))):=gk x 65536;have s2:V.bin .shr (.int .u64 (x:Int)) (.int .u64 16)=some (.int .u64 ((x / 2 ^ 16:Nat):Int)):=sh x 16 (by omega);simp -dsimp only[zbi.cps,zbi.k4,zbi.k3,g3,g2,s2,B.ze,B.cond_false];refine B.zbe (λhd=>?_) (λhd=>?_)
 ·rw[decide_eq_true_eq]at hd
  simp -dsimp only[s2,show V.bin .add (.int .i64 0) (.int .i64 16)=some (.int .i64 ((16:Nat):Int)) from rfl,B.ze];exact low (x / 2 ^ 16) 16 (by omega) (by omega) (λ_=>by omega) (by omega)
 ·rw[decide_eq_false_iff_not]at hd
  exact low x 0 (by omega) (by omega) id (by simp)
theorem Len_spec(i:zbi.Imp C N){x:Nat}(hx:x <= 100000000){h:zb}{Q:zQ}(hq:∀r:Nat,r <= 32->(0<x->2 ^ r <= 2*x)->Q (.int .i64 (r:Int)) h):zdx.cps C N (.int .u64 (x:Int)) h Q:=by
 simp -dsimp only[zdx.cps,zdx.k1,B.cond_false];exact i _ _ _ (Len64_spec hx λr h1 h2=>zbh (hq r h1 h2))
def LenI(C:z5)(f:Nat):Prop:=∀(x:Nat)(h:zb)(Q:zQ),x <= 100000000->(∀r:Nat,r <= 32->(0<x->2 ^ r <= 2*x)->Q (.int .i64 (r:Int)) h)->C f [.int .u64 (x:Int)] h Q
theorem zdx.spec(i:zdx.Imp C N)(i2:zbi.Imp C N):LenI C (N 287):=λx h Q hx hq=>i _ _ _ (Len_spec i2 hx λr h1 h2=>zbh (hq r h1 h2))
def PowI(C:z5)(f:Nat):Prop:=∀(n:Nat)(h:zb)(Q:zQ),0<n->n <= 100000000->(∀m:Nat,0<m->m <= 2*n->Q (.int .u64 (m:Int)) h)->C f [.int .i64 (n:Int)] h Q
theorem zc5.spec(i:zc5.Imp C N)(hl:LenI C (N 287)):PowI C (N 299):=λn h Q h0 hn hq=>by
 apply i;simp -dsimp only[zc5.cps,toUN (show n<18446744073709551616 by omega),B.ze];refine hl n h _ hn λr hr hp=>?_;have e:V.bin .shl (.int .u64 1) (.int .i64 (r:Int))=some (.int .u64 ((2 ^ r:Nat):Int)):=by
  rw[bin_shl (by omega) (by simp[IntKind.bits];omega),Int.toNat_natCast];have:(1:Int)*2 ^ r=((2 ^ r:Nat):Int):=by simp
  rw[this,wrapU];have:=hp h0;omega
 simp -dsimp only[e,B.ze];exact zbh (hq (2 ^ r) (Nat.pos_of_ne_zero (by simp)) (hp h0))
def NextI(C:z5)(f:Nat):Prop:=∀(h0 h:zb)(p:za)(n:Int)(Q:zQ),zc6 h0 h [.box p [.int .u64 n]]->(∀m m' h',zc6 h0 h' [.box p [.int .u64 m']]->Q (.int .u64 m) h')->C f [p] h Q
theorem zci.spec(i:zci.Imp C N):NextI C (N 298):=λh0 h p n Q ho hq=>by
 have key:∀{h:zb}{n:Int},zc6 h0 h [.box p [.int .u64 n]]->∃id,p= .ptr id 0 0 /\ A.ldv h (.ptr id 0 0)=some (.int .u64 n):=λ{h n} ho=>by
  obtain⟨id,rfl,hb⟩:=ho.zrt 0 rfl
  exact⟨id,rfl,by rw[ldv_at hb];rfl⟩
 apply i
 obtain⟨id,rfl,ld⟩:=key ho
 simp -dsimp only[zci.cps,zci.k1,B.zb3,B.zeh,ld,B.ze,bin_shl (k:= .u64) (j:= .u64) (b:=13) (by omega) (by simp[IntKind.bits]),V.bin_xor]
 refine ho.boxSt 0 (off:=0) rfl rfl (by simp) λh1 o1 _=>?_
 simp only[set_cons_zero]at o1
 obtain⟨id1,e,ld1⟩:=key o1
 cases e
 simp -dsimp only[B.zb3,B.zeh,ld1,B.ze,bin_shr (k:= .u64) (j:= .u64) (b:=7) (by omega) (by simp[IntKind.bits]),V.bin_xor]
 refine o1.boxSt 0 (off:=0) rfl rfl (by simp) λh2 o2 _=>?_
 simp only[set_cons_zero]at o2
 obtain⟨id2,e,ld2⟩:=key o2
 cases e
 simp -dsimp only[B.zb3,B.zeh,ld2,B.ze,bin_shl (k:= .u64) (j:= .u64) (b:=17) (by omega) (by simp[IntKind.bits]),V.bin_xor]
 refine o2.boxSt 0 (off:=0) rfl rfl (by simp) λh3 o3 _=>?_
 simp only[set_cons_zero]at o3
 obtain⟨id3,e,ld3⟩:=key o3
 cases e
 simp -dsimp only[B.zb3,B.zeh,ld3,B.ze]
 exact zbh (hq _ _ _ o3)
section
variable{E:zbc}{X:Type}{cs:X->List za}{v:X->za}{h0 h:zb}{x f:za}{G:List X}{R:List (List za)}{Q:zQ}{a b:Nat}
end
variable{C:z5}
section
variable{X:Type}{c:X->X->Int}{a b m A0 Z0:Nat}{G G':List X}
theorem le_of(W:zne (zex c)){x y z:X}(h1:¬ c x y<0)(h2:¬ c y z<0):¬ c x z<0:=by
 have:=W.zo7 (a:=x) (b:=y) (c:=z) (by unfold zex;exact decide_eq_false h1) (by unfold zex;exact decide_eq_false h2);unfold zex at this;exact of_decide_eq_false this
theorem nlt_of(W:zne (zex c)){x y:X}(h:c x y<0):¬ c y x<0:=by
 have:=W.asym (a:=x) (b:=y) (by unfold zex;exact decide_eq_true h);unfold zex at this;exact of_decide_eq_false this
theorem le_self(W:zne (zex c))(x:X):¬ c x x<0:=by
 have:=W.irr x;unfold zex at this;exact of_decide_eq_false this
theorem zju.pair(W:zne (zex c))(x:zju c a b m G){p q:Nat}(h1:a <= p)(h2:p<q)(h3:q<b)(h4:p <= m)(h5:m <= q)(hp:p<G.length)(hq:q<G.length):¬ c G[q] G[p]<0:=by
 have hm:m<G.length:=by omega
 have e1:p<m->¬ c G[m] G[p]<0:=λk=>nlt_of W (x.lo p hp hm h1 k);have e2:m<q->¬ c G[q] G[m]<0:=λk=>x.hi q hq hm k h3;by_cases k1:p=m
 ·subst k1;exact e2 (by omega)
 ·by_cases k2:q=m
  ·subst k2;exact e1 (by omega)
  ·exact le_of W (e2 (by omega)) (e1 (by omega))
theorem zju.left(W:zne (zex c))(x:zju c a b m G)(w:zdi a m G G'):zju c a b m G':=by
 have hl:=w.len;refine⟨x.ge,x.lt,by have:=x.hb;omega,λk h hm h1 h2=>?_,λk h hm h1 h2=>?_⟩
 ·obtain⟨k',k1,k2,k3,e⟩:=w.mem h1 h2 h
  rw[e,w.same (k:=m) (.inr (by omega)) hm (by omega)];exact x.lo k' k3 _ k1 k2
 ·rw[w.same (k:=m) (.inr (by omega)) hm (by omega),w.same (k:=k) (.inr (by omega)) h (by omega)]
  exact x.hi k _ _ h1 h2
theorem zju.right(W:zne (zex c))(x:zju c a b m G)(w:zdi (m+1) b G G'):zju c a b m G':=by
 have hl:=w.len;refine⟨x.ge,x.lt,by have:=x.hb;omega,λk h hm h1 h2=>?_,λk h hm h1 h2=>?_⟩
 ·rw[w.same (k:=m) (.inl (by omega)) hm (by omega),w.same (k:=k) (.inl (by omega)) h (by omega)]
  exact x.lo k _ _ h1 h2
 ·obtain⟨k',k1,k2,k3,e⟩:=w.mem (k:=k) (by omega) h2 h
  rw[e,w.same (k:=m) (.inl (by omega)) hm (by omega)];exact x.hi k' k3 _ (by omega) k2
theorem Cut.left(W:zne (zex c))(x:Cut c A0 Z0 a b G)(p:zju c a b m G)(s:Srt c a m G):Cut c A0 Z0 (m+1) b G:=λi j h1 h2 h3 h4 h5 h6=>by
 by_cases k:i<a \/ b <= j
 ·exact x i j h1 h2 h3 k h5 h6
 ·by_cases k2:j<m
  ·exact s i j (by omega) h2 k2 h5 h6
  ·exact p.pair W (by omega) h2 (by omega) (by omega) (by omega) h5 h6
theorem Cut.right(W:zne (zex c))(x:Cut c A0 Z0 a b G)(p:zju c a b m G)(s:Srt c (m+1) b G):Cut c A0 Z0 a m G:=λi j h1 h2 h3 h4 h5 h6=>by
 by_cases k:i<a \/ b <= j
 ·exact x i j h1 h2 h3 k h5 h6
 ·by_cases k2:m<i
  ·exact s i j (by omega) h2 (by omega) h5 h6
  ·exact p.pair W (by omega) h2 (by omega) (by omega) (by omega) h5 h6
theorem Cut.pre(x:Cut c A0 Z0 a b G)(h:A0<a)(hb:b <= Z0):Pre c a b G:=λh0 i h1 h2 h3 h4=>x (a-1) i (by omega) (by omega) (by omega) (.inl (by omega)) h4 h3
theorem Pre.sub(x:Pre c a b G)(h:m <= b):Pre c a m G:=λh0 i h1 h2 h3 h4=>x h0 i h1 (by omega) h3 h4
theorem Cut.equal(W:zne (zex c)){i j:Nat}(x:Cut c A0 Z0 a b G)(p:EInv c a b G i j)(hji:j<i)(ha:0<a)(hp:Pre c a b G)(hlt:a<b)(hd:∀(h1:a-1<G.length)(h2:a<G.length),¬ c G[a-1] G[a]<0):Cut c A0 Z0 i b G:=λs t h1 h2 h3 h4 h5 h6=>by
 have e:=p.hij;have e3:=p.hi;by_cases k:s<a \/ b <= t
 ·exact x s t h1 h2 h3 k h5 h6
 ·have la:a<G.length:=by omega
  have sp:¬ c G[a] G[s]<0:=by
   by_cases k3:s=a
   ·subst k3;exact le_self W _
   ·exact p.lo s h5 la (by omega) (by omega)
  by_cases k2:t<i
  ·have t1:=hp ha t (by omega) (by omega) h6 (by omega)
   exact le_of W (le_of W t1 (hd (by omega) la)) sp
  ·exact le_of W (nlt_of W (p.hi2 t h6 la (by omega) (by omega))) sp
end
abbrev I5(F:za->za->za->za->za->zb->(zQ)->Prop)(C:z5)(n:Nat):Prop:=∀(v0 v1 v2 v3 v4:za)(h:zb)(Q:zQ),F v0 v1 v2 v3 v4 h (dn Q)->C n [v0,v1,v2,v3,v4] h Q
abbrev I4(F:za->za->za->za->zb->(zQ)->Prop)(C:z5)(n:Nat):Prop:=∀(v0 v1 v2 v3:za)(h:zb)(Q:zQ),F v0 v1 v2 v3 h (dn Q)->C n [v0,v1,v2,v3] h Q
section
variable{E:zbc}{X:Type}{cs:X->List za}{v:X->za}{h0 h:zb}{x f:za}{G:List X}{R:List (List za)}{c:X->X->Int}{Q:zQ}{Y:zL}{f1 f2 f3 f4 f5 f6 f7 f8 f9 g1 g2 g3 g4 g5 g6:Nat}
structure PS(E:zbc){X:Type}(cs:X->List za)(h0:zb)(x:za)(R:List (List za))(c:X->X->Int)(A0 Z0:Nat)(G0:List X)(a b:Nat)(G:List X)(h:zb):Prop where
 hA:A0 <= a
 hab:a <= b
 hB:b <= Z0
 W:zdi A0 Z0 G0 G
 cut:Cut c A0 Z0 a b G
 pre:Pre c a b G
 o:Rw E cs h0 h x G R
theorem PS.zhe{A0 Z0 a b:Nat}{G0 G':List X}{h':zb}(p:PS E cs h0 x R c A0 Z0 G0 a b G h)(w:zdi a b G G')(o:Rw E cs h0 h' x G' R):PS E cs h0 x R c A0 Z0 G0 a b G' h':=⟨p.hA,p.hab,p.hB,p.W.trans (w.mono p.hA p.hB),p.cut.within w p.hA p.hB,p.pre.within w,o⟩
abbrev Go1(E:zbc){X:Type}(cs:X->List za)(h0:zb)(x:za)(R:List (List za))(c:X->X->Int)(A0 Z0:Nat)(G0:List X)(n:Nat)(Y:zL):Prop:=∀a b (lim:Int) w1 w2 G h,b-a<n->PS E cs h0 x R c A0 Z0 G0 a b G h->Y [.int .i64 (a:Int),.int .i64 (b:Int),.int .i64 lim,.bool w1,.bool w2] h
end
end Go.Ab
namespace Go.Ab.Ord
open List
open Go.Ab
structure zeu(C:z5){X:Type}(v:X->za)(c:X->X->Int)(fL:Nat)(h0:zb):Prop where
 call:∀(h:zb)(a b:X)(K:zQ),h0.le h->K (.bool (decide (c a b<0))) h->B.call C fL [v a,v b] h K
variable{C C0:z5}{fL:Nat}
variable{C C0:z5}{fL:Nat}{N:zN}
section
variable{E:zbc}{X:Type}{cs:X->List za}{v:X->za}{h0 h:zb}{x:za}{G:List X}{R:List (List za)}
end
section
variable{E:zbc}{T:Type}{cs:T->List za}{v:T->za}{c:T->T->Int}{h0 h:zb}{x f:za}{R:List (List za)}{Q:zQ}
theorem zn2(S:zea E cs v)(W:zne (zex c)){P M U:List (T×Nat)}(hlen:(P++(M++U)).length <= 100000000)(ht:M.Pairwise λa b=>a.2<b.2)
  (hc:zeu C0 v c fL h0) {a b:Nat} (ha:a=P.length) (hb:b=P.length+M.length) (ho:Rw E (λp:T×Nat=>cs p.1) h0 h x (P++(M++U)) R)
  (hq:∀h' M',M'.Perm M->M'.Pairwise (lt' (zex c))->Rw E (λp:T×Nat=>cs p.1) h0 h' x (P++(M'++U)) R->Q (.tup []) h'):
  zcy.cps C E C0 fL x (.int .i64 (a:Int)) (.int .i64 (b:Int)) f h Q:=by
 have S':=S.comp (λp:T×Nat=>p.1);subst ha;have hlen':P.length+M.length+U.length <= 100000000:=by simpa[Nat.add_assoc]using hlen
 simp -dsimp only[zcy.cps,zgm (show P.length<4611686018427387904 by omega),B.ze];cases M with
 | nil=>
  intro Y hY;refine hY _ _ ?_;simp -dsimp only[zcy.l3,zoq,B.ze];rw[show decide (P.length+1<b)=false by simp at hb ⊢;omega,B.cond_false];exact hq h [] (List.Perm.refl _) .nil ho
 | cons m M1=>
 simp only[length_cons]at hlen' hb;rw[pairwise_cons]at ht;refine z0.intro (λt vs hh=>∃(i:Nat)(L M2:List (T×Nat)),t=M2.length /\ vs=[.int .i64 i] /\ i=P.length+L.length /\ i+M2.length=b /\ Rw E (λp:T×Nat=>cs p.1) h0 hh x (P++(L++(M2++U))) R /\
  (L++M2).Perm (m::M1) /\ L.Pairwise (lt' (zex c)) /\ M2.Pairwise (λa b=>a.2<b.2) /\ ∀p∈L,∀q∈M2,p.2<q.2) M1.length ?_
  ⟨P.length+1,[m],M1,rfl,rfl,by simp,by omega,by simpa using ho,List.Perm.refl _,pairwise_singleton ..,ht.2,by simpa using ht.1⟩
 rintro Y t vs hh ⟨i,L,M2,rfl,rfl,hi,hib,o,hp,hs,ht2,htt⟩ hY;simp -dsimp only[zcy.l3,zoq,B.ze];cases M2 with
 | nil=>
  rw[show decide (i<b)=false by simp at hib ⊢;omega,B.cond_false];rw[append_nil]at hp;exact hq hh L hp hs o
 | cons x0 M2=>
  simp only[length_cons]at hib;rw[show decide (i<b)=true by simp;omega,B.cond_true];rw[pairwise_cons]at ht2;have hll:P.length+(L.length+(M2.length+1))=b:=by omega
  refine z0.intro (λt vs h2=>∃(L1 L2:List (T×Nat)),t=L1.length /\ vs=[.int .i64 ((P.length+L1.length:Nat):Int)] /\ L=L1++L2 /\ Rw E (λp:T×Nat=>cs p.1) h0 h2 x (P++(L1++x0::(L2++(M2++U)))) R /\
   ∀q∈L2,lt' (zex c) x0 q) L.length ?_ ⟨L,[],rfl,by rw[hi],by simp,by simpa using o,by simp⟩
  rintro Z t vs h2 ⟨L1,L2,rfl,rfl,rfl,o2,hx⟩ hZ;rw[pairwise_append]at hs;have fin:(L1=[] \/ ∃L0 y,L1=L0++[y] /\ lt' (zex c) y x0)->Y [.int .i64 ((i+1:Nat):Int)] h2:=λhz=>by
   have hlow:∀p∈L1,lt' (zex c) p x0:=by
    rcases hz with rfl|⟨L0,y,rfl,hy⟩
    ·simp
    ·intro p hpm
     rcases mem_append.1 hpm with h1|h1
     ·exact lt'_trans W ((pairwise_append.1 hs.1).2.2 p h1 y (by simp)) hy
     ·rw[mem_singleton.1 h1];exact hy
   refine hY M2.length _ _ (by simp) ⟨i+1,L1++x0::L2,M2,rfl,rfl,by simp at hi ⊢;omega,by omega,by simpa using o2,?_,?_,ht2.2,?_⟩
   ·refine List.Perm.trans ?_ hp
    simp only[append_assoc,cons_append];refine List.Perm.append_left _ ?_;exact(perm_middle (l₁:=L2) (l₂:=M2) (a:=x0)).symm
   ·rw[pairwise_append,pairwise_cons]
    refine⟨hs.1,⟨hx,hs.2.1⟩,λp h1 q h2=>?_⟩;rcases mem_cons.1 h2 with rfl|h2
    ·exact hlow p h1
    ·exact hs.2.2 p h1 q h2
   ·intro p h1 q h2
    rcases mem_append.1 h1 with h1|h1
    ·exact htt p (mem_append_left _ h1) q (mem_cons_of_mem _ h2)
    ·rcases mem_cons.1 h1 with rfl|h1
     ·exact ht2.1 q h2
     ·exact htt p (mem_append_right _ h1) q (mem_cons_of_mem _ h2)
  have hll2:i=P.length+(L1.length+L2.length):=by simpa using hi
  simp -dsimp only[zcy.l2,zcy.k1,gtrN,B.ze];obtain rfl|⟨L0,y,rfl⟩:=nil_or_snoc L1
  ·simp -dsimp[zgm (show i<4611686018427387904 by omega)]
   exact fin (.inl rfl)
  ·have hyx:y.2<x0.2:=htt y (by simp) x0 (by simp)
   have o2':=o2;simp only[append_assoc,cons_append,nil_append]at o2';simp only[length_append,length_singleton]at hll2 hlen' hll;have hj:P.length+(L0++[y]).length=P.length+L0.length+1:=by simp[Nat.add_assoc]
   rw[show decide (P.length<P.length+(L0++[y]).length)=true by simp];rw[hj];simp -dsimp only[B.zfl,B.gdb_pure,B.z7,zou,sub1 (show 1 <= P.length+L0.length+1 by omega) (by omega),Nat.add_sub_cancel,o2.idx (i:=P.length+L0.length+1) (by simp;omega),o2.idx (i:=P.length+L0.length) (by simp),B.ze];have o3:Rw E (λp:T×Nat=>cs p.1) h0 h2 x ((P++L0)++y::([]++x0::(L2++(M2++U)))) R:=by simpa using o2
   have gy:((P++L0)++y::([]++x0::(L2++(M2++U))))[P.length+L0.length]?=some y:=get_mid (by simp);have gx:((P++L0)++y::([]++x0::(L2++(M2++U))))[P.length+L0.length+1]?=some x0:=get_mid2 (by simp);refine o3.ld S' gx ?_;refine o3.ld S' gy ?_;refine hc.call _ _ _ _ o2.le ?_;simp -dsimp only[B.zfl,B.gdb_pure,B.z7,zou,V.zey,B.ze,B.zek];refine B.zbe (λhb2=>?_) (λhb2=>?_)
   ·simp -dsimp only[sub1 (show 1 <= P.length+L0.length+1 by omega) (by omega),Nat.add_sub_cancel,o2.idx (i:=P.length+L0.length+1) (by simp;omega),o2.idx (i:=P.length+L0.length) (by simp),B.ze]
    refine o3.ld S' gy ?_;refine o3.ld S' gx ?_;refine o3.swapDn S' (by simp) (by simp) λh4 o4=>?_;refine hZ L0.length _ _ (by simp) ⟨L0,y::L2,rfl,rfl,by simp,by simpa using o4,?_⟩;intro q hq2;rcases mem_cons.1 hq2 with rfl|hq2
    ·exact(lt'_gt hyx).2 hb2
    ·exact hx q hq2
   ·simp -dsimp only[zgm (show i<4611686018427387904 by omega),B.ze]
    exact fin (.inr ⟨L0,y,rfl,(lt'_le W hyx).2 hb2⟩)
end
section
variable{E:zbc}{X:Type}{cs:X->List za}{v:X->za}{h0 h:zb}{x f:za}{G:List X}{R:List (List za)}{c:X->X->Int}
theorem zm6(S:zea E cs v)(hx:SlX h0 E.es x (G.map cs) R)(hc:zeu C0 v c fL h0){p:za}{n:Int}(ho:zc6 h0 h [.box p [.int .i64 n]]){i j:Nat}(hi:i<G.length)(hj:j<G.length){Q:zQ}
  (hq:∀(i' j':Nat) (n':Int) h',(i'=i \/ i'=j)->(j'=i \/ j'=j)->zc6 h0 h' [.box p [.int .i64 n']]->Q (.tup [.int .i64 (i':Int),.int .i64 (j':Int)]) h'):zft.cps C E C0 fL x (.int .i64 (i:Int)) (.int .i64 (j:Int)) p f h Q:=by
 have hxx:=hx.mono ho.le;have ii:V.zda E.es x (.int .i64 (i:Int))=some (elp E.es x i 0):=hxx.zmq (by simpa using hi);have ij:V.zda E.es x (.int .i64 (j:Int))=some (elp E.es x j 0):=hxx.zmq (by simpa using hj);have gi:(G.map cs)[i]?=some (cs G[i]):=by rw[getElem?_map,getElem?_eq_getElem hi];rfl
 have gj:(G.map cs)[j]?=some (cs G[j]):=by rw[getElem?_map,getElem?_eq_getElem hj];rfl
 obtain⟨id,rfl,hb⟩:=ho.zrt 0 rfl;have ld:A.ldv h (.ptr id 0 0)=some (.int .i64 n):=by rw[ldv_at hb];rfl
 simp -dsimp only[zft.cps,zft.k1,ij,B.ze];refine S.ld hxx gj ?_;simp -dsimp only[ii,B.ze];refine S.ld hxx gi ?_;refine hc.call _ _ _ _ ho.le ?_;refine B.zbe (λhd=>?_) (λhd=>?_)
 ·simp -dsimp only[B.zb3,B.zeh,ld,V.zia,B.ze]
  refine ho.boxSt 0 (off:=0) rfl rfl (by simp) λh2 o2 _=>?_;exact hq j i _ h2 (.inr rfl) (.inl rfl) (by simpa using o2)
 ·exact hq i j n h (.inl rfl) (.inr rfl) ho
abbrev O2I(C:z5)(E:zbc)(C0:z5)(fL:Nat)(f1:Nat):Prop:=∀(v0 v1 v2 v3 v4:za)(h:zb)(Q:zQ),zft.cps C E C0 fL v0 v1 v2 v3 v4 h (dn Q)->C f1 [v0,v1,v2,v3,v4] h Q
abbrev MedI(C:z5)(E:zbc)(C0:z5)(fL:Nat)(f1 f2:Nat):Prop:=∀(v0 v1 v2 v3 v4 v5:za)(h:zb)(Q:zQ),zfu.cps C E C0 fL f1 v0 v1 v2 v3 v4 v5 h (dn Q)->C f2 [v0,v1,v2,v3,v4,v5] h Q
abbrev AdjI(C:z5)(E:zbc)(C0:z5)(fL:Nat)(f2 f3:Nat):Prop:=∀(v0 v1 v2 v3:za)(h:zb)(Q:zQ),zef.cps C E C0 fL f2 v0 v1 v2 v3 h (dn Q)->C f3 [v0,v1,v2,v3] h Q
theorem zm9{f1:Nat}(io:O2I C E C0 fL f1)(S:zea E cs v)(hx:SlX h0 E.es x (G.map cs) R)(hc:zeu C0 v c fL h0){p:za}{n:Int}(ho:zc6 h0 h [.box p [.int .i64 n]]){i j k:Nat}(hi:i<G.length)(hj:j<G.length)(hk:k<G.length){Q:zQ}
  (hq:∀(m:Nat) (n':Int) h',(m=i \/ m=j \/ m=k)->zc6 h0 h' [.box p [.int .i64 n']]->Q (.int .i64 (m:Int)) h'):zfu.cps C E C0 fL f1 x (.int .i64 (i:Int)) (.int .i64 (j:Int)) (.int .i64 (k:Int)) p f h Q:=by
 simp -dsimp only[zfu.cps,zfu.k1];refine io _ _ _ _ _ _ _ (zm6 S hx hc ho hi hj λa b n1 h1 ha hb o1=>zbh ?_);simp -dsimp only[V.zg9,getElem?_cons_zero,getElem?_cons_succ,B.ze];have la:a<G.length:=by rcases ha with rfl|rfl<;>assumption
 have lb:b<G.length:=by rcases hb with rfl|rfl<;>assumption
 refine io _ _ _ _ _ _ _ (zm6 S hx hc o1 lb hk λa2 b2 n2 h2 ha2 hb2 o2=>zbh ?_);simp -dsimp only[V.zg9,getElem?_cons_zero,getElem?_cons_succ,B.ze];have la2:a2<G.length:=by rcases ha2 with rfl|rfl<;>assumption
 refine io _ _ _ _ _ _ _ (zm6 S hx hc o2 la la2 λa3 b3 n3 h3 ha3 hb3 o3=>zbh ?_);simp -dsimp only[V.zg9,getElem?_cons_zero,getElem?_cons_succ,B.ze];refine hq b3 n3 h3 ?_ o3;omega
theorem zg7{f1 f2:Nat}(io:O2I C E C0 fL f1)(im:MedI C E C0 fL f1 f2)(S:zea E cs v)(hx:SlX h0 E.es x (G.map cs) R)(hc:zeu C0 v c fL h0){p:za}{n:Int}(ho:zc6 h0 h [.box p [.int .i64 n]]){i:Nat}(hi:0<i)(hi2:i+1<G.length)(hl:G.length<4611686018427387904){Q:zQ}
  (hq:∀(m:Nat) (n':Int) h',i-1 <= m->m <= i+1->zc6 h0 h' [.box p [.int .i64 n']]->Q (.int .i64 (m:Int)) h'):zef.cps C E C0 fL f2 x (.int .i64 (i:Int)) p f h Q:=by
 have e1:V.bin .sub (.int .i64 (i:Int)) (.int .i64 1)=some (.int .i64 ((i-1:Nat):Int)):=by
  rw[V.zjc,wrap_i64 (by omega) (by omega)];congr 2;omega
 simp -dsimp only[zef.cps,zef.k1,e1,zgm (show i<4611686018427387904 by omega),B.ze];exact im _ _ _ _ _ _ _ _ (zm9 io S hx hc ho (by omega) (by omega) hi2 λm n' h' hm o'=>zbh (hq m n' h' (by omega) (by omega) o'))
theorem zof(S:zea E cs v)(hl:G.length<4611686018427387904)(ho:Rw E cs h0 h x G R){a b:Nat}(hab:a<b)(hb:b <= G.length){Q:zQ}(hq:∀h' G',zdi a b G G'->Rw E cs h0 h' x G' R->Q (.tup []) h'):
  zdy.cps C E C0 fL x (.int .i64 (a:Int)) (.int .i64 (b:Int)) f h Q:=by
 have e1:V.bin .sub (.int .i64 (b:Int)) (.int .i64 1)=some (.int .i64 ((b-1:Nat):Int)):=by
  rw[V.zjc,wrap_i64 (by omega) (by omega)];congr 2;omega
 simp -dsimp only[zdy.cps,e1,B.ze];refine z0.intro (λt vs hh=>∃(i j:Nat)(G':List X),t=j /\ vs=[.int .i64 (i:Int),.int .i64 (j:Int)] /\ a <= i /\ j<b /\ zdi a b G G' /\ Rw E cs h0 hh x G' R) (b-1) ?_ ⟨a,b-1,G,rfl,rfl,Nat.le_refl _,by omega,zdi.refl _ _ _,ho⟩;rintro Y j vs hh ⟨i,_,G',rfl,rfl,hi,hj,W,o⟩ hY;simp -dsimp only[zdy.l2,zdy.k1,zoq,B.ze];have hlen:=W.len;refine B.zbe (λhc=>?_) (λhc=>hq hh G' W o);rw[decide_eq_true_eq]at hc;have li:i<G'.length:=by omega
 have lj:j<G'.length:=by omega
 simp -dsimp only[o.idx lj,B.ze];refine o.ld S (getElem?_eq_getElem lj) ?_;simp -dsimp only[o.idx li,B.ze];refine o.ld S (getElem?_eq_getElem li) ?_;have ij:=o.idx lj;refine o.st S (t:=G'[j]) li λh1 o1=>?_;simp -dsimp only[ij,B.ze];refine o1.st S (t:=G'[i]) (by simpa using lj) λh2 o2=>?_;have e2:V.bin .sub (.int .i64 (j:Int)) (.int .i64 1)=some (.int .i64 ((j-1:Nat):Int)):=by
  rw[V.zjc,wrap_i64 (by omega) (by omega)];congr 2;omega
 simp -dsimp only[zgm (show i<4611686018427387904 by omega),e2,B.ze];exact hY (j-1) _ _ (by omega) ⟨i+1,j-1,_,rfl,rfl,by omega,by omega,W.trans (zfb li lj hi (by omega) (by omega) hj),o2⟩
theorem zpu{f1 f2 f3:Nat}(io:O2I C E C0 fL f1)(im:MedI C E C0 fL f1 f2)(ia:AdjI C E C0 fL f2 f3)(S:zea E cs v)(hx:SlX h E.es x (G.map cs) R)(h0le:h0.le h)(hc:zeu C0 v c fL h0)(hl:G.length <= 100000000){a b:Nat}(hab:a+8 <= b)(hb:b <= G.length){Q:zQ}
  (hq:∀(m:Nat) (hint:Int) h',a <= m->m<b->h.le h'->Q (.tup [.int .i64 (m:Int),.int .i64 hint]) h'):zbb.cps C E C0 fL f2 f3 x (.int .i64 (a:Int)) (.int .i64 (b:Int)) f h Q:=by
 have e1:=zj2 (a:=b) (b:=a) (by omega) (by omega);simp -dsimp only[zbb.cps,e1,B.ze];intro id hid;have o:=(zc6.start h).zns hid [.int .i64 0];simp only[nil_append]at o;have q4:=quo4 (a:=b-a) (by omega);have m1:=mulN (a:=(b-a) / 4) (b:=1) (by omega);have m2:=mulN (a:=(b-a) / 4) (b:=2) (by omega);have m3:=mulN (a:=(b-a) / 4) (b:=3) (by omega);have a1:=zpv (a:=a) (b:=(b-a) / 4*1) (by omega);have a2:=zpv (a:=a) (b:=(b-a) / 4*2) (by omega);have a3:=zpv (a:=a) (b:=(b-a) / 4*3) (by omega);have g8:V.bin .geq (.int .i64 ((b-a:Nat):Int)) (.int .i64 8)=some (.bool true):=by rw[V.znd,decide_eq_true (by omega)]
 have hc':zeu C0 v c fL h:=⟨λh2 s t K hle hk=>hc.call h2 s t K (zb.le_trans h0le hle) hk⟩;simp -dsimp only[zbb.k6,zbb.k5,zbb.k4,zbb.k3,q4,B.ze];have m1':V.bin .mul (.int .i64 (((b-a) / 4:Nat):Int)) (.int .i64 1)=some (.int .i64 (((b-a) / 4*1:Nat):Int)):=m1;have m2':V.bin .mul (.int .i64 (((b-a) / 4:Nat):Int)) (.int .i64 2)=some (.int .i64 (((b-a) / 4*2:Nat):Int)):=m2;have m3':V.bin .mul (.int .i64 (((b-a) / 4:Nat):Int)) (.int .i64 3)=some (.int .i64 (((b-a) / 4*3:Nat):Int)):=m3;simp -dsimp only[q4,m1',m2',m3',a1,a2,a3,g8,B.cond_true,zbb.k5,zbb.k4,zbb.k3,zbb.k2,B.ze];have fin:∀(m:Nat) (n':Int) h',a <= m->m<b->zc6 h h' [.box (.ptr id 0 0) [.int .i64 n']]->zbb.k1 C E C0 fL f2 f3 Q (.ptr id 0 0) (.int .i64 (m:Int)) h':=λm n' h' k1 k2 o'=>by
  obtain⟨id',e,hb'⟩:=o'.zrt 0 rfl;cases e;have ld:A.ldv h' (.ptr id 0 0)=some (.int .i64 n'):=by rw[ldv_at hb'];rfl
  simp -dsimp only[zbb.k1,B.zeh,ld,V.zf3,B.ze];refine B.zbe (λ_=>hq m _ h' k1 k2 o'.le) (λ_=>?_);refine B.zbe (λ_=>hq m _ h' k1 k2 o'.le) (λ_=>hq m _ h' k1 k2 o'.le)
 have g50:V.bin .geq (.int .i64 ((b-a:Nat):Int)) (.int .i64 50)=some (.bool (decide (50 <= b-a))):=geqN (b:=50);simp -dsimp only[g50,B.ze];refine B.zbe (λhd=>?_) (λhd=>?_)
 ·rw[decide_eq_true_eq]at hd
  refine ia _ _ _ _ _ _ (zg7 io im S hx hc' o (by omega) (by omega) (by omega) λi n1 h1 i1 i2 o1=>zbh ?_);refine ia _ _ _ _ _ _ (zg7 io im S hx hc' o1 (by omega) (by omega) (by omega) λj n2 h2 j1 j2 o2=>zbh ?_);refine ia _ _ _ _ _ _ (zg7 io im S hx hc' o2 (by omega) (by omega) (by omega) λk n3 h3 k1 k2 o3=>zbh ?_);refine im _ _ _ _ _ _ _ _ (zm9 io S hx hc' o3 (by omega) (by omega) (by omega) λm n4 h4 hm o4=>zbh ?_);exact fin m n4 h4 (by omega) (by omega) o4
 ·refine im _ _ _ _ _ _ _ _ (zm9 io S hx hc' o (by omega) (by omega) (by omega) λm n4 h4 hm o4=>zbh ?_)
  exact fin m n4 h4 (by omega) (by omega) o4
end
section
variable{E:zbc}{X:Type}{cs:X->List za}{v:X->za}{h0 h:zb}{x f:za}{G:List X}{R:List (List za)}{c:X->X->Int}{Q:zQ}{Y1:zL}{a b i j:Nat}
theorem part_j(S:zea E cs v)(hc:zeu C0 v c fL h0)(ho:Rw E cs h0 h x G R)(hl:G.length<4611686018427387904)(hab:a<b)(p:zru c a b G i j)(hi0:j<i \/ ∀(h1:i<G.length)(h2:a<G.length),¬ c G[i] G[a]<0)
  (done:∀h' j',zru c a b G i j'->j'<i->Rw E cs h0 h' x G R->zl.k1 C E C0 fL Q x (.int .i64 (a:Int)) (.int .i64 (j':Int)) h')
  (next:∀h' j' (hi:i<G.length) (hj:j'<G.length) ,zru c a b (swp G i j' hi hj) (i+1) (j'-1)->i<j'->j'<b->Rw E cs h0 h' x (swp G i j' hi hj) R->Y1 [.int .i64 ((i+1:Nat):Int),.int .i64 ((j'-1:Nat):Int)] h'):
  z0 (zl.l4 C E C0 fL Q Y1 x (.int .i64 (a:Int)) f (.int .i64 (i:Int))) [.int .i64 (j:Int)] h:=by
 refine z0.intro (λt vs hh=>hh=h /\ ∃j':Nat,t=j' /\ vs=[.int .i64 (j':Int)] /\ zru c a b G i j' /\ (j'<i \/ ∀(h1:i<G.length)(h2:a<G.length),¬ c G[i] G[a]<0)) j ?_ ⟨rfl,j,rfl,rfl,p,hi0⟩;rintro Y j' vs hh ⟨rfl,_,rfl,rfl,p,hi0⟩ hY;have k1:=p.hi;have k2:=p.hij;have k3:=p.hj;have k4:=p.hb;have la:a<G.length:=by omega
 have lj:j'<G.length:=by omega
 simp -dsimp only[zl.l4,zl.k3,leqN,B.ze];by_cases hle:i <= j'
 ·have li:i<G.length:=by omega
  simp -dsimp only[hle,decide_true,B.zfl,B.z7,ho.idx lj,ho.idx la,B.ze];refine ho.ld S (getElem?_eq_getElem lj) ?_;refine ho.ld S (getElem?_eq_getElem la) ?_;refine hc.call _ _ _ _ ho.le ?_;simp -dsimp only[hle,decide_true,B.zfl,B.z7,V.zey,V.zfn,B.zek,B.ze];refine B.zbe (λhd=>?_) (λhd=>?_)
  ·have hd':¬ c G[j'] G[a]<0:=by simpa using hd
   have e1:=zj2 (a:=j') (b:=1) (by omega) (by omega);have e1':V.bin .sub (.int .i64 (j':Int)) (.int .i64 1)=some (.int .i64 ((j'-1:Nat):Int)):=e1;simp -dsimp only[e1',B.ze];refine hY (j'-1) _ _ (by omega) ⟨rfl,j'-1,rfl,rfl,⟨k4,k1,by omega,by omega,p.lo,λk hk ha q1 q2=>?_⟩,?_⟩
   ·by_cases e:k=j'
    ·subst e;exact hd'
    ·exact p.hi2 k hk ha (by omega) q2
   ·rcases hi0 with h|h
    ·omega
    ·exact .inr h
  ·have hd':c G[j'] G[a]<0:=by simpa using hd
   have hni:¬ c G[i] G[a]<0:=by
    rcases hi0 with h|h
    ·omega
    ·exact h li la
   simp -dsimp only[zl.k2,gtrN,show ¬ j'<i by omega,decide_false,B.cond_false,ho.idx lj,ho.idx li,B.ze];refine ho.ld S (getElem?_eq_getElem lj) ?_;refine ho.ld S (getElem?_eq_getElem li) ?_;refine ho.st S (t:=G[j']) li λh1 o1=>?_;refine o1.st S (t:=G[i]) (by simpa using lj) λh2 o2=>?_;have e1':V.bin .sub (.int .i64 (j':Int)) (.int .i64 1)=some (.int .i64 ((j'-1:Nat):Int)):=zj2 (a:=j') (b:=1) (by omega) (by omega);simp -dsimp only[zgm (show i<4611686018427387904 by omega),e1',B.ze];have hne:i≠j':=λe=>by subst e;exact hni hd'
   exact next h2 j' li lj (p.swap hle li lj la hni hd') (by omega) k3 o2
 ·simp -dsimp only[hle,decide_false,B.zfl,B.zfj,B.zf9,B.cond_false,zl.k2,gtrN,show j'<i by omega,decide_true,B.cond_true,B.ze]
  exact done hh j' p (by omega) ho
theorem part_i(S:zea E cs v)(hc:zeu C0 v c fL h0)(ho:Rw E cs h0 h x G R)(hl:G.length<4611686018427387904)(hab:a<b)(p:zru c a b G i j)
  (done:∀h' i' j',zru c a b G i' j'->j'<i'->Rw E cs h0 h' x G R->zl.k1 C E C0 fL Q x (.int .i64 (a:Int)) (.int .i64 (j':Int)) h')
  (next:∀h' i' j' (hi:i'<G.length) (hj:j'<G.length),zru c a b (swp G i' j' hi hj) (i'+1) (j'-1)->a<i'->i <= i'->i'<j'->j'<b->Rw E cs h0 h' x (swp G i' j' hi hj) R->Y1 [.int .i64 ((i'+1:Nat):Int),.int .i64 ((j'-1:Nat):Int)] h'):
  z0 (zl.l6 C E C0 fL Q Y1 x (.int .i64 (a:Int)) f (.int .i64 (j:Int))) [.int .i64 (i:Int)] h:=by
 refine z0.intro (λt vs hh=>hh=h /\ ∃i':Nat,i'+t=b /\ i <= i' /\ vs=[.int .i64 (i':Int)] /\ zru c a b G i' j) (b-i) ?_ ⟨rfl,i,by have:=p.hij;have:=p.hj;omega,Nat.le_refl _,rfl,p⟩;rintro Y t vs hh ⟨rfl,i',hit,hii,rfl,p⟩ hY;have k1:=p.hi;have k2:=p.hij;have k3:=p.hj;have k4:=p.hb;have la:a<G.length:=by omega
 simp -dsimp only[zl.l6,zl.k5,leqN,B.ze];by_cases hle:i' <= j
 ·have li:i'<G.length:=by omega
  simp -dsimp only[hle,decide_true,B.zfl,B.z7,ho.idx li,ho.idx la,B.ze];refine ho.ld S (getElem?_eq_getElem li) ?_;refine ho.ld S (getElem?_eq_getElem la) ?_;refine hc.call _ _ _ _ ho.le ?_;simp -dsimp only[hle,decide_true,B.zfl,B.z7,V.zey,B.zek,B.ze];refine B.zbe (λhd=>?_) (λhd=>?_)
  ·have hd':c G[i'] G[a]<0:=by simpa using hd
   simp -dsimp only[zgm (show i'<4611686018427387904 by omega),B.ze];refine hY (b-(i'+1)) _ _ (by omega) ⟨rfl,i'+1,by omega,by omega,rfl,⟨k4,by omega,k3,by omega,λk hk ha q1 q2=>?_,p.hi2⟩⟩;by_cases e:k=i'
   ·subst e;exact hd'
   ·exact p.lo k hk ha q1 (by omega)
  ·have hd':¬ c G[i'] G[a]<0:=by simpa using hd
   exact part_j S hc ho hl hab p (.inr λ_ _=>hd') (λh' j' p' hlt o'=>done h' i' j' p' hlt o') λh' j' hi hj p' h1 h2 o'=>next h' i' j' hi hj p' k1 hii h1 h2 o'
 ·simp -dsimp only[hle,decide_false,B.zfl,B.zfj,B.zf9,B.cond_false]
  exact part_j S hc ho hl hab p (.inl (by omega)) (λh' j' p' hlt o'=>done h' i' j' p' hlt o') λh' j' hi hj p' h1 h2 o'=>next h' i' j' hi hj p' k1 hii h1 h2 o'
theorem part_end(S:zea E cs v)(ho:Rw E cs h0 h x G R)(hab:a<b)(p:zru c a b G i j)(hlt:j<i)(hq:∀h' m G',zju c a b m G'->zdi a b G G'->Rw E cs h0 h' x G' R->Q (.tup [.int .i64 (m:Int),.bool false]) h'):
  zl.k1 C E C0 fL Q x (.int .i64 (a:Int)) (.int .i64 (j:Int)) h:=by
 have k1:=p.hi;have k2:=p.hij;have k3:=p.hj;have k4:=p.hb;have la:a<G.length:=by omega
 have lj:j<G.length:=by omega
 simp -dsimp only[zl.k1,ho.idx lj,ho.idx la,B.ze];refine ho.ld S (getElem?_eq_getElem la) ?_;refine ho.ld S (getElem?_eq_getElem lj) ?_;refine ho.st S (t:=G[a]) lj λh1 o1=>?_;refine o1.st S (t:=G[j]) (by simpa using la) λh2 o2=>?_;exact hq h2 j _ (p.done hab hlt lj la) (zfb lj la (by omega) k3 (Nat.le_refl _) hab) o2
theorem part_main(S:zea E cs v)(hc:zeu C0 v c fL h0)(ho:Rw E cs h0 h x G R)(hl:G.length<4611686018427387904)(hab:a<b)(p:zru c a b G i j)
  (hq:∀h' m G',zju c a b m G'->zdi a b G G'->Rw E cs h0 h' x G' R->Q (.tup [.int .i64 (m:Int),.bool false]) h'):
  z0 (zl.l7 C E C0 fL Q x (.int .i64 (a:Int)) f) [.int .i64 (i:Int),.int .i64 (j:Int)] h:=by
 refine z0.intro (λt vs hh=>∃(i' j':Nat)(G':List X),i'+t=b /\ vs=[.int .i64 (i':Int),.int .i64 (j':Int)] /\ zdi a b G G' /\ zru c a b G' i' j' /\ Rw E cs h0 hh x G' R) (b-i) ?_ ⟨i,j,G,by have:=p.hij;have:=p.hj;omega,rfl,zdi.refl _ _ _,p,ho⟩;rintro Y t vs hh ⟨i',j',G',hit,rfl,W,p,o⟩ hY;have hlen:=W.len;simp -dsimp only[zl.l7];refine part_i S hc o (by omega) hab p (λh' i2 j2 p2 hlt o2=>part_end S o2 hab p2 hlt λh3 m G3 P3 W3 o3=>hq h3 m G3 P3 (W.trans W3) o3) λh' i2 j2 hi hj p2 h1 h2 h3 h4 o2=>?_;exact hY (b-(i2+1)) _ _ (by omega) ⟨i2+1,j2-1,_,by omega,rfl,W.trans (zfb hi hj (by omega) (by omega) (by omega) h4),p2,o2⟩
end
section
variable{E:zbc}{X:Type}{cs:X->List za}{v:X->za}{h0 h:zb}{x f:za}{G:List X}{R:List (List za)}{c:X->X->Int}{Q:zQ}{a b i j:Nat}
theorem part_k10(S:zea E cs v)(hc:zeu C0 v c fL h0)(ho:Rw E cs h0 h x G R)(hl:G.length<4611686018427387904)(hab:a<b)(p:zru c a b G i j)
  (hd:j<i \/ ∃(h1:i<G.length)(h2:a<G.length)(h3:j<G.length),i <= j /\ ¬ c G[i] G[a]<0 /\ c G[j] G[a]<0) (hq:PartQ E cs h0 x c a b R G Q):
  zl.k10 C E C0 fL Q x (.int .i64 (a:Int)) f (.int .i64 (i:Int)) (.int .i64 (j:Int)) h:=by
 have k1:=p.hi;have k2:=p.hij;have k3:=p.hj;have k4:=p.hb;have la:a<G.length:=by omega
 have lj:j<G.length:=by omega
 rcases hd with hlt|⟨li,_,_,hle,n1,n2⟩
 ·simp -dsimp only[zl.k10,gtrN,hlt,decide_true,B.cond_true,ho.idx lj,ho.idx la,B.ze]
  refine ho.ld S (getElem?_eq_getElem la) ?_;refine ho.ld S (getElem?_eq_getElem lj) ?_;refine ho.st S (t:=G[a]) lj λh1 o1=>?_;refine o1.st S (t:=G[j]) (by simpa using la) λh2 o2=>?_;exact hq h2 j _ true (p.done hab hlt lj la) (zfb lj la (by omega) k3 (Nat.le_refl _) hab) o2
 ·simp -dsimp only[zl.k10,zl.k9,gtrN,show ¬ j<i by omega,decide_false,B.cond_false,ho.idx lj,ho.idx li,B.ze]
  refine ho.ld S (getElem?_eq_getElem lj) ?_;refine ho.ld S (getElem?_eq_getElem li) ?_;refine ho.st S (t:=G[j]) li λh1 o1=>?_;refine o1.st S (t:=G[i]) (by simpa using lj) λh2 o2=>?_;have hne:i≠j:=λe=>by subst e;exact n1 n2
  have e1':V.bin .sub (.int .i64 (j:Int)) (.int .i64 1)=some (.int .i64 ((j-1:Nat):Int)):=zj2 (a:=j) (b:=1) (by omega) (by omega);simp -dsimp only[zl.k8,zgm (show i<4611686018427387904 by omega),e1',B.ze];have W:=zfb li lj (by omega) (by omega) (by omega:a <= j) k3;exact part_main S hc (G:=swp G i j li lj) o2 (by rw[zjw li lj];omega) hab (p.swap hle li lj la n1 n2) λh' m G' P' W' o'=>hq h' m G' false P' (W.trans W') o'
theorem part_j1(S:zea E cs v)(hc:zeu C0 v c fL h0)(ho:Rw E cs h0 h x G R)(hl:G.length<4611686018427387904)(hab:a<b)(p:zru c a b G i j)(hi0:j<i \/ ∀(h1:i<G.length)(h2:a<G.length),¬ c G[i] G[a]<0)(hq:PartQ E cs h0 x c a b R G Q):
  z0 (zl.l12 C E C0 fL Q x (.int .i64 (a:Int)) f (.int .i64 (i:Int))) [.int .i64 (j:Int)] h:=by
 refine z0.intro (λt vs hh=>hh=h /\ ∃j':Nat,t=j' /\ vs=[.int .i64 (j':Int)] /\ zru c a b G i j' /\ (j'<i \/ ∀(h1:i<G.length)(h2:a<G.length),¬ c G[i] G[a]<0)) j ?_ ⟨rfl,j,rfl,rfl,p,hi0⟩;rintro Y j' vs hh ⟨rfl,_,rfl,rfl,p,hi0⟩ hY;have k1:=p.hi;have k2:=p.hij;have k3:=p.hj;have k4:=p.hb;have la:a<G.length:=by omega
 have lj:j'<G.length:=by omega
 simp -dsimp only[zl.l12,zl.k11,leqN,B.ze];by_cases hle:i <= j'
 ·have li:i<G.length:=by omega
  simp -dsimp only[hle,decide_true,B.zfl,B.z7,ho.idx lj,ho.idx la,B.ze];refine ho.ld S (getElem?_eq_getElem lj) ?_;refine ho.ld S (getElem?_eq_getElem la) ?_;refine hc.call _ _ _ _ ho.le ?_;simp -dsimp only[hle,decide_true,B.zfl,B.z7,V.zey,V.zfn,B.zek,B.ze];refine B.zbe (λhd=>?_) (λhd=>?_)
  ·have hd':¬ c G[j'] G[a]<0:=by simpa using hd
   have e1':V.bin .sub (.int .i64 (j':Int)) (.int .i64 1)=some (.int .i64 ((j'-1:Nat):Int)):=zj2 (a:=j') (b:=1) (by omega) (by omega);simp -dsimp only[e1',B.ze];refine hY (j'-1) _ _ (by omega) ⟨rfl,j'-1,rfl,rfl,⟨k4,k1,by omega,by omega,p.lo,λk hk ha q1 q2=>?_⟩,?_⟩
   ·by_cases e:k=j'
    ·subst e;exact hd'
    ·exact p.hi2 k hk ha (by omega) q2
   ·rcases hi0 with h|h
    ·omega
    ·exact .inr h
  ·have hd':c G[j'] G[a]<0:=by simpa using hd
   have hni:¬ c G[i] G[a]<0:=by
    rcases hi0 with h|h
    ·omega
    ·exact h li la
   exact part_k10 S hc ho hl hab p (.inr ⟨li,la,lj,hle,hni,hd'⟩) hq
 ·simp -dsimp only[hle,decide_false,B.zfl,B.zfj,B.zf9,B.cond_false]
  exact part_k10 S hc ho hl hab p (.inl (by omega)) hq
theorem part_i1(S:zea E cs v)(hc:zeu C0 v c fL h0)(ho:Rw E cs h0 h x G R)(hl:G.length<4611686018427387904)(hab:a<b)(p:zru c a b G i j)(hq:PartQ E cs h0 x c a b R G Q):
  z0 (zl.l14 C E C0 fL Q x (.int .i64 (a:Int)) f (.int .i64 (j:Int))) [.int .i64 (i:Int)] h:=by
 refine z0.intro (λt vs hh=>hh=h /\ ∃i':Nat,i'+t=b /\ vs=[.int .i64 (i':Int)] /\ zru c a b G i' j) (b-i) ?_ ⟨rfl,i,by have:=p.hij;have:=p.hj;omega,rfl,p⟩;rintro Y t vs hh ⟨rfl,i',hit,rfl,p⟩ hY;have k1:=p.hi;have k2:=p.hij;have k3:=p.hj;have k4:=p.hb;have la:a<G.length:=by omega
 simp -dsimp only[zl.l14,zl.k13,leqN,B.ze];by_cases hle:i' <= j
 ·have li:i'<G.length:=by omega
  simp -dsimp only[hle,decide_true,B.zfl,B.z7,ho.idx li,ho.idx la,B.ze];refine ho.ld S (getElem?_eq_getElem li) ?_;refine ho.ld S (getElem?_eq_getElem la) ?_;refine hc.call _ _ _ _ ho.le ?_;simp -dsimp only[hle,decide_true,B.zfl,B.z7,V.zey,B.zek,B.ze];refine B.zbe (λhd=>?_) (λhd=>?_)
  ·have hd':c G[i'] G[a]<0:=by simpa using hd
   simp -dsimp only[zgm (show i'<4611686018427387904 by omega),B.ze];refine hY (b-(i'+1)) _ _ (by omega) ⟨rfl,i'+1,by omega,rfl,⟨k4,by omega,k3,by omega,λk hk ha q1 q2=>?_,p.hi2⟩⟩;by_cases e:k=i'
   ·subst e;exact hd'
   ·exact p.lo k hk ha q1 (by omega)
  ·have hd':¬ c G[i'] G[a]<0:=by simpa using hd
   exact part_j1 S hc ho hl hab p (.inr λ_ _=>hd') hq
 ·simp -dsimp only[hle,decide_false,B.zfl,B.zfj,B.zf9,B.cond_false]
  exact part_j1 S hc ho hl hab p (.inl (by omega)) hq
theorem zrk(S:zea E cs v)(hc:zeu C0 v c fL h0)(ho:Rw E cs h0 h x G R)(hl:G.length<4611686018427387904){pv:Nat}(hp1:a <= pv)(hp2:pv<b)(hb:b <= G.length)(hq:PartQ E cs h0 x c a b R G Q):
  zl.cps C E C0 fL x (.int .i64 (a:Int)) (.int .i64 (b:Int)) (.int .i64 (pv:Int)) f h Q:=by
 have la:a<G.length:=by omega
 have lp:pv<G.length:=by omega
 simp -dsimp only[zl.cps,zl.k16,ho.idx lp,ho.idx la,B.ze];refine ho.ld S (getElem?_eq_getElem lp) ?_;refine ho.ld S (getElem?_eq_getElem la) ?_;refine ho.st S (t:=G[pv]) la λh1 o1=>?_;refine o1.st S (t:=G[a]) (by simpa using lp) λh2 o2=>?_;have e1':V.bin .sub (.int .i64 (b:Int)) (.int .i64 1)=some (.int .i64 ((b-1:Nat):Int)):=zj2 (a:=b) (b:=1) (by omega) (by omega);simp -dsimp only[zl.k15,zgm (show a<4611686018427387904 by omega),e1',B.ze];have W:=zfb la lp (Nat.le_refl _) (by omega) hp1 hp2;have hsl:=zjw la lp;refine part_i1 S hc (G:=swp G a pv la lp) o2 (by omega) (by omega) ⟨by omega,by omega,by omega,by omega,λk _ _ q1 q2=>by omega,λk _ _ q1 q2=>by omega⟩ λh' m G' t P' W' o'=>hq h' m G' t P' (W.trans W') o'
end
section
variable{E:zbc}{X:Type}{cs:X->List za}{v:X->za}{h0 h:zb}{x f:za}{G:List X}{R:List (List za)}{c:X->X->Int}{Q:zQ}{Y1:zL}{a b i j:Nat}
theorem eq_j(S:zea E cs v)(hc:zeu C0 v c fL h0)(ho:Rw E cs h0 h x G R)(hl:G.length<4611686018427387904)(hab:a<b)(p:EInv c a b G i j)(hi0:j<i \/ ∀(h1:i<G.length)(h2:a<G.length),c G[a] G[i]<0)
  (done:∀h' j',EInv c a b G i j'->j'<i->Rw E cs h0 h' x G R->Q (.int .i64 (i:Int)) h')
  (next:∀h' j' (hi:i<G.length) (hj:j'<G.length),EInv c a b (swp G i j' hi hj) (i+1) (j'-1)->i<j'->j'<b->Rw E cs h0 h' x (swp G i j' hi hj) R->Y1 [.int .i64 ((i+1:Nat):Int),.int .i64 ((j'-1:Nat):Int)] h'):
  z0 (zt.l3 C E C0 fL Q Y1 x (.int .i64 (a:Int)) f (.int .i64 (i:Int))) [.int .i64 (j:Int)] h:=by
 refine z0.intro (λt vs hh=>hh=h /\ ∃j':Nat,t=j' /\ vs=[.int .i64 (j':Int)] /\ EInv c a b G i j' /\ (j'<i \/ ∀(h1:i<G.length)(h2:a<G.length),c G[a] G[i]<0)) j ?_ ⟨rfl,j,rfl,rfl,p,hi0⟩;rintro Y j' vs hh ⟨rfl,_,rfl,rfl,p,hi0⟩ hY;have k1:=p.hi;have k2:=p.hij;have k3:=p.hj;have k4:=p.hb;have la:a<G.length:=by omega
 have lj:j'<G.length:=by omega
 simp -dsimp only[zt.l3,zt.k2,leqN,B.ze];by_cases hle:i <= j'
 ·have li:i<G.length:=by omega
  simp -dsimp only[hle,decide_true,B.zfl,B.z7,ho.idx lj,ho.idx la,B.ze];refine ho.ld S (getElem?_eq_getElem la) ?_;refine ho.ld S (getElem?_eq_getElem lj) ?_;refine hc.call _ _ _ _ ho.le ?_;simp -dsimp only[hle,decide_true,B.zfl,B.z7,V.zey,B.zek,B.ze];refine B.zbe (λhd=>?_) (λhd=>?_)
  ·have hd':c G[a] G[j']<0:=by simpa using hd
   have e1':V.bin .sub (.int .i64 (j':Int)) (.int .i64 1)=some (.int .i64 ((j'-1:Nat):Int)):=zj2 (a:=j') (b:=1) (by omega) (by omega);simp -dsimp only[e1',B.ze];refine hY (j'-1) _ _ (by omega) ⟨rfl,j'-1,rfl,rfl,⟨k4,k1,by omega,by omega,p.lo,λk hk ha q1 q2=>?_⟩,?_⟩
   ·by_cases e:k=j'
    ·subst e;exact hd'
    ·exact p.hi2 k hk ha (by omega) q2
   ·rcases hi0 with h|h
    ·omega
    ·exact .inr h
  ·have hd':¬ c G[a] G[j']<0:=by simpa using hd
   have hni:c G[a] G[i]<0:=by
    rcases hi0 with h|h
    ·omega
    ·exact h li la
   simp -dsimp only[zt.k1,gtrN,show ¬ j'<i by omega,decide_false,B.cond_false,ho.idx lj,ho.idx li,B.ze];refine ho.ld S (getElem?_eq_getElem lj) ?_;refine ho.ld S (getElem?_eq_getElem li) ?_;refine ho.st S (t:=G[j']) li λh1 o1=>?_;refine o1.st S (t:=G[i]) (by simpa using lj) λh2 o2=>?_;have e1':V.bin .sub (.int .i64 (j':Int)) (.int .i64 1)=some (.int .i64 ((j'-1:Nat):Int)):=zj2 (a:=j') (b:=1) (by omega) (by omega);simp -dsimp only[zgm (show i<4611686018427387904 by omega),e1',B.ze];have hne:i≠j':=λe=>by subst e;exact hd' hni
   exact next h2 j' li lj (p.swap hle li lj la hni hd') (by omega) k3 o2
 ·simp -dsimp only[hle,decide_false,B.zfl,B.zfj,B.zf9,B.cond_false,zt.k1,gtrN,show j'<i by omega,decide_true,B.cond_true,B.ze]
  exact done hh j' p (by omega) ho
theorem eq_i(S:zea E cs v)(hc:zeu C0 v c fL h0)(ho:Rw E cs h0 h x G R)(hl:G.length<4611686018427387904)(hab:a<b)(p:EInv c a b G i j)
  (done:∀h' i' j',EInv c a b G i' j'->j'<i'->Rw E cs h0 h' x G R->Q (.int .i64 (i':Int)) h')
  (next:∀h' i' j' (hi:i'<G.length) (hj:j'<G.length),EInv c a b (swp G i' j' hi hj) (i'+1) (j'-1)->a<i'->i <= i'->i'<j'->j'<b->Rw E cs h0 h' x (swp G i' j' hi hj) R->Y1 [.int .i64 ((i'+1:Nat):Int),.int .i64 ((j'-1:Nat):Int)] h'):
  z0 (zt.l5 C E C0 fL Q Y1 x (.int .i64 (a:Int)) f (.int .i64 (j:Int))) [.int .i64 (i:Int)] h:=by
 refine z0.intro (λt vs hh=>hh=h /\ ∃i':Nat,i'+t=b /\ i <= i' /\ vs=[.int .i64 (i':Int)] /\ EInv c a b G i' j) (b-i) ?_ ⟨rfl,i,by have:=p.hij;have:=p.hj;omega,Nat.le_refl _,rfl,p⟩;rintro Y t vs hh ⟨rfl,i',hit,hii,rfl,p⟩ hY;have k1:=p.hi;have k2:=p.hij;have k3:=p.hj;have k4:=p.hb;have la:a<G.length:=by omega
 simp -dsimp only[zt.l5,zt.k4,leqN,B.ze];by_cases hle:i' <= j
 ·have li:i'<G.length:=by omega
  simp -dsimp only[hle,decide_true,B.zfl,B.z7,ho.idx li,ho.idx la,B.ze];refine ho.ld S (getElem?_eq_getElem la) ?_;refine ho.ld S (getElem?_eq_getElem li) ?_;refine hc.call _ _ _ _ ho.le ?_;simp -dsimp only[hle,decide_true,B.zfl,B.z7,V.zey,V.zfn,B.zek,B.ze];refine B.zbe (λhd=>?_) (λhd=>?_)
  ·have hd':¬ c G[a] G[i']<0:=by simpa using hd
   simp -dsimp only[zgm (show i'<4611686018427387904 by omega),B.ze];refine hY (b-(i'+1)) _ _ (by omega) ⟨rfl,i'+1,by omega,by omega,rfl,⟨k4,by omega,k3,by omega,λk hk ha q1 q2=>?_,p.hi2⟩⟩;by_cases e:k=i'
   ·subst e;exact hd'
   ·exact p.lo k hk ha q1 (by omega)
  ·have hd':c G[a] G[i']<0:=by simpa using hd
   exact eq_j S hc ho hl hab p (.inr λ_ _=>hd') (λh' j' p' hlt o'=>done h' i' j' p' hlt o') λh' j' hi hj p' h1 h2 o'=>next h' i' j' hi hj p' k1 hii h1 h2 o'
 ·simp -dsimp only[hle,decide_false,B.zfl,B.zfj,B.zf9,B.cond_false]
  exact eq_j S hc ho hl hab p (.inl (by omega)) (λh' j' p' hlt o'=>done h' i' j' p' hlt o') λh' j' hi hj p' h1 h2 o'=>next h' i' j' hi hj p' k1 hii h1 h2 o'
theorem eq_main(S:zea E cs v)(hc:zeu C0 v c fL h0)(ho:Rw E cs h0 h x G R)(hl:G.length<4611686018427387904)(hab:a<b)(p:EInv c a b G i j)
  (hq:∀h' i' j' G',EInv c a b G' i' j'->j'<i'->zdi (a+1) b G G'->Rw E cs h0 h' x G' R->Q (.int .i64 (i':Int)) h'):
  z0 (zt.l6 C E C0 fL Q x (.int .i64 (a:Int)) f) [.int .i64 (i:Int),.int .i64 (j:Int)] h:=by
 refine z0.intro (λt vs hh=>∃(i' j':Nat)(G':List X),i'+t=b /\ vs=[.int .i64 (i':Int),.int .i64 (j':Int)] /\ zdi (a+1) b G G' /\ EInv c a b G' i' j' /\ Rw E cs h0 hh x G' R) (b-i) ?_ ⟨i,j,G,by have:=p.hij;have:=p.hj;omega,rfl,zdi.refl _ _ _,p,ho⟩;rintro Y t vs hh ⟨i',j',G',hit,rfl,W,p,o⟩ hY;have hlen:=W.len;simp -dsimp only[zt.l6];refine eq_i S hc o (by omega) hab p (λh' i2 j2 p2 hlt o2=>hq h' i2 j2 G' p2 hlt W o2) λh' i2 j2 hi hj p2 h1 h2 h3 h4 o2=>?_;exact hY (b-(i2+1)) _ _ (by omega) ⟨i2+1,j2-1,_,by omega,rfl,W.trans (zfb hi hj (by omega) (by omega) (by omega) h4),p2,o2⟩
theorem zm5(S:zea E cs v)(hc:zeu C0 v c fL h0)(ho:Rw E cs h0 h x G R)(hl:G.length<4611686018427387904){pv:Nat}(hp1:a <= pv)(hp2:pv<b)(hb:b <= G.length)
  (hq:∀h' i' j' G',EInv c a b G' i' j'->j'<i'->zdi a b G G'->(∀(h1:a<G'.length)(h2:pv<G.length),G'[a]=G[pv])->Rw E cs h0 h' x G' R->Q (.int .i64 (i':Int)) h'):
  zt.cps C E C0 fL x (.int .i64 (a:Int)) (.int .i64 (b:Int)) (.int .i64 (pv:Int)) f h Q:=by
 have la:a<G.length:=by omega
 have lp:pv<G.length:=by omega
 simp -dsimp only[zt.cps,zt.k8,ho.idx lp,ho.idx la,B.ze];refine ho.ld S (getElem?_eq_getElem lp) ?_;refine ho.ld S (getElem?_eq_getElem la) ?_;refine ho.st S (t:=G[pv]) la λh1 o1=>?_;refine o1.st S (t:=G[a]) (by simpa using lp) λh2 o2=>?_;have e1':V.bin .sub (.int .i64 (b:Int)) (.int .i64 1)=some (.int .i64 ((b-1:Nat):Int)):=zj2 (a:=b) (b:=1) (by omega) (by omega);simp -dsimp only[zt.k7,zgm (show a<4611686018427387904 by omega),e1',B.ze];have W:=zfb la lp (Nat.le_refl _) (by omega) hp1 hp2;have hsl:=zjw la lp;refine eq_main S hc (G:=swp G a pv la lp) o2 (by omega) (by omega) ⟨by omega,by omega,by omega,by omega,λk _ _ q1 q2=>by omega,λk _ _ q1 q2=>by omega⟩ λh' i' j' G' p' hlt W' o'=>hq h' i' j' G' p' hlt (W.trans (W'.mono (by omega) (Nat.le_refl _))) (λh1 h2=>?_) o';rw[W'.same (.inl (by omega)) h1 (by omega),zgs la lp (by omega) la];split
 ·rename_i e;simp only[e]
 ·rw[if_pos rfl]
end
section
variable{X:Type}{c:X->X->Int}{a n lo r ch:Nat}{G:List X}
end
section
variable{E:zbc}{X:Type}{cs:X->List za}{v:X->za}{h0 h:zb}{x f:za}{G:List X}{R:List (List za)}{c:X->X->Int}{Q:zQ}{Y1:zL}{a n lo r ch:Nat}
theorem sift_k1(S:zea E cs v)(W:zne (zex c))(hc:zeu C0 v c fL h0)(ho:Rw E cs h0 h x G R)(hl:G.length<1000000000)(p:SInv c a n lo r G)(hlo:lo <= r)(hch:ch<n)(hp:(ch-1) / 2=r)(hc0:0<ch)
  (hmax:∀k,0<k->k<n->(k-1) / 2=r->(h1:a+ch<G.length)->(h2:a+k<G.length)->¬ c G[a+ch] G[a+k]<0)
  (done:∀h',Heap c a n lo G->Rw E cs h0 h' x G R->Q (.tup []) h')
  (next:∀h' (hr:a+r<G.length) (hcl:a+ch<G.length),SInv c a n lo ch (swp G (a+r) (a+ch) hr hcl)->Rw E cs h0 h' x (swp G (a+r) (a+ch) hr hcl) R->Y1 [.int .i64 (ch:Int)] h'):
  zc8.k1 C E C0 fL Q Y1 x (.int .i64 (n:Int)) (.int .i64 (a:Int)) f (.int .i64 (r:Int)) (.int .i64 (ch:Int)) h:=by
 have hlen:=p.len;have lr:a+r<G.length:=by omega
 have lc:a+ch<G.length:=by omega
 have ar:=zpv (a:=a) (b:=r) (by omega);have ac:=zpv (a:=a) (b:=ch) (by omega);simp -dsimp only[zc8.k1,ar,ac,ho.idx lr,ho.idx lc,B.ze];refine ho.ld S (getElem?_eq_getElem lr) ?_;refine ho.ld S (getElem?_eq_getElem lc) ?_;refine hc.call _ _ _ _ ho.le ?_;simp -dsimp only[V.zey,V.zfn,B.ze];refine B.zbe (λhd=>?_) (λhd=>?_)
 ·have hd':¬ c G[a+r] G[a+ch]<0:=by simpa using hd
  refine done h (p.done λk k0 hk hkp h1 h2=>?_) ho;have:=W.zo7 (a:=G[a+r]) (b:=G[a+ch]) (c:=G[a+k]) (by unfold zex;exact decide_eq_false hd') (by unfold zex;exact decide_eq_false (hmax k k0 hk hkp lc h2));unfold zex at this;exact of_decide_eq_false this
 ·have hd':c G[a+r] G[a+ch]<0:=by simpa using hd
  simp -dsimp only[ar,ac,ho.idx lr,ho.idx lc,B.ze];refine ho.ld S (getElem?_eq_getElem lc) ?_;refine ho.ld S (getElem?_eq_getElem lr) ?_;refine ho.st S (t:=G[a+ch]) lr λh1 o1=>?_;refine o1.st S (t:=G[a+r]) (by simpa using lc) λh2 o2=>?_;exact next h2 lr lc (p.step W hlo hch hp hc0 lr lc hd' λk k0 hk hkp h2=>hmax k k0 hk hkp lc h2) o2
theorem znk(S:zea E cs v)(W:zne (zex c))(hc:zeu C0 v c fL h0)(ho:Rw E cs h0 h x G R)(hl:G.length<1000000000)(p:SInv c a n lo r G)(hlo:lo <= r)(hrn:r <= n){b:Nat}(hb:a+n <= b)
  (hq:∀h' G',Heap c a n lo G'->zdi a b G G'->Rw E cs h0 h' x G' R->Q (.tup []) h'):
  zc8.cps C E C0 fL x (.int .i64 (r:Int)) (.int .i64 (n:Int)) (.int .i64 (a:Int)) f h Q:=by
 simp -dsimp only[zc8.cps];refine z0.intro (λt vs hh=>∃(r':Nat)(G':List X),r'+t=n /\ vs=[.int .i64 (r':Int)] /\ lo <= r' /\ SInv c a n lo r' G' /\ zdi a b G G' /\ Rw E cs h0 hh x G' R) (n-r) ?_ ⟨r,G,by omega,rfl,hlo,p,zdi.refl _ _ _,ho⟩;rintro Y t vs hh ⟨r',G',hrt,rfl,hlo',p',W',o⟩ hY;have hlen:=W'.len;have pl:=p'.len;have e1:V.bin .mul (.int .i64 2) (.int .i64 (r':Int))=some (.int .i64 ((2*r':Nat):Int)):=mulN (a:=2) (b:=r') (by omega);simp -dsimp only[zc8.l4,zc8.k3,e1,zgm (show 2*r'<4611686018427387904 by omega),geqN,B.ze];refine B.zbe (λhd=>?_) (λhd=>?_)
 ·rw[decide_eq_true_eq]at hd
  exact hq hh G' (p'.done λk k0 hk hkp _ _=>by omega) W' o
 ·rw[decide_eq_false_iff_not]at hd
  have fin:∀ch,ch<n->(ch-1) / 2=r'->0<ch->(∀k,0<k->k<n->(k-1) / 2=r'->(h1:a+ch<G'.length)->(h2:a+k<G'.length)->¬ c G'[a+ch] G'[a+k]<0)->zc8.k1 C E C0 fL Q Y x (.int .i64 (n:Int)) (.int .i64 (a:Int)) f (.int .i64 (r':Int)) (.int .i64 (ch:Int)) hh:=λch c1 c2 c3 c4=>
   sift_k1 S W hc o (by omega) p' hlo' c1 c2 c3 c4 (λh' hp o'=>hq h' G' hp W' o') λh' hr hcl p2 o2=>hY (n-ch) _ _ (by omega) ⟨ch,_,by omega,rfl,by omega,p2,W'.trans (zfb hr hcl (by omega) (by omega) (by omega) (by omega)),o2⟩
  have irr:∀t:X,¬ c t t<0:=λt=>by
   have:=W.irr t;unfold zex at this;exact of_decide_eq_false this
  have a1:=zpv (a:=a) (b:=2*r'+1) (by omega);simp -dsimp only[zc8.k2,zgm (show 2*r'+1<4611686018427387904 by omega),zoq,B.ze];by_cases h2:2*r'+1+1<n
  ·have l1:a+(2*r'+1)<G'.length:=by omega
   have l2:a+(2*r'+1)+1<G'.length:=by omega
   simp -dsimp only[h2,decide_true,B.zfl,B.z7,a1,zgm (show a+(2*r'+1)<4611686018427387904 by omega),o.idx l1,o.idx l2,B.ze];refine o.ld S (getElem?_eq_getElem l1) ?_;refine o.ld S (getElem?_eq_getElem l2) ?_;refine hc.call _ _ _ _ o.le ?_;simp -dsimp only[h2,decide_true,B.zfl,B.z7,V.zey,B.zek,B.ze];refine B.zbe (λhf=>?_) (λhf=>?_)
   ·have hf':c G'[a+(2*r'+1)] G'[a+(2*r'+1)+1]<0:=by simpa using hf
    simp -dsimp only[zgm (show 2*r'+1<4611686018427387904 by omega),B.ze];refine fin (2*r'+1+1) h2 (by omega) (by omega) λk k0 hk hkp h1 h3=>?_;rcases (show k=2*r'+1 \/ k=2*r'+1+1 by omega) with rfl|rfl
    ·have:=W.asym (a:=G'[a+(2*r'+1)]) (b:=G'[a+(2*r'+1)+1]) (by unfold zex;exact decide_eq_true hf')
     unfold zex at this;exact of_decide_eq_false this
    ·exact irr _
   ·have hf':¬ c G'[a+(2*r'+1)] G'[a+(2*r'+1)+1]<0:=by simpa using hf
    refine fin (2*r'+1) (by omega) (by omega) (by omega) λk k0 hk hkp h1 h3=>?_;rcases (show k=2*r'+1 \/ k=2*r'+1+1 by omega) with rfl|rfl
    ·exact irr _
    ·exact hf'
  ·simp -dsimp only[h2,decide_false,B.zfl,B.zfj,B.zf9,B.cond_false]
   refine fin (2*r'+1) (by omega) (by omega) (by omega) λk k0 hk hkp h1 h3=>?_;have:k=2*r'+1:=by omega
   subst this;exact irr _
end
section
variable{X:Type}{c:X->X->Int}{a b n lo:Nat}{G G':List X}
end
abbrev SiftI(C:z5)(E:zbc)(C0:z5)(fL:Nat)(f1:Nat):Prop:=∀(v0 v1 v2 v3 v4:za)(h:zb)(Q:zQ),zc8.cps C E C0 fL v0 v1 v2 v3 v4 h (dn Q)->C f1 [v0,v1,v2,v3,v4] h Q
section
variable{E:zbc}{X:Type}{cs:X->List za}{v:X->za}{h0 h:zb}{x f:za}{G:List X}{R:List (List za)}{c:X->X->Int}{Q:zQ}{a b:Nat}
theorem insertion_srt(S:zea E cs v)(W:zne (zex c))(hc:zeu C0 v c fL h0)(ho:Rw E cs h0 h x G R)(hl:G.length <= 100000000)(hab:a <= b)(hb:b <= G.length)
  (hq:∀h' G',zdi a b G G'->Srt c a b G'->Rw E cs h0 h' x G' R->Q (.tup []) h'):zcy.cps C E C0 fL x (.int .i64 (a:Int)) (.int .i64 (b:Int)) f h Q:=by
 have e0:∀(L:List X),(L.map (λy=>(y,0))).map (λp:X×Nat=>cs p.1)=L.map cs:=λL=>by rw[map_map];rfl
 have e1:∀(L:List (X×Nat)),L.map (λp:X×Nat=>cs p.1)=(L.map (·.1)).map cs:=λL=>by rw[map_map];rfl
 have lt:(G.take a).length=a:=by rw[length_take];omega
 have lm:((G.take b).drop a).length=b-a:=by rw[length_drop,length_take];omega
 refine zn2 (P:=(G.take a).map (λy=>(y,0))) (M:=((G.take b).drop a).zipIdx) (U:=(G.drop b).map (λy=>(y,0))) S W ?_ ?_ hc ?_ ?_ ?_ ?_ (R:=R) (h0:=h0)
 ·simp only[length_append,length_map,length_zipIdx,lt,lm,length_drop];omega
 ·have:(((G.take b).drop a).zipIdx.map (·.2)).Pairwise (· < ·):=by
   rw[zipIdx_map_snd];exact pairwise_lt_range'
  rwa [pairwise_map]at this
 ·rw[length_map,lt]
 ·rw[length_map,length_zipIdx,lt,lm];omega
 ·unfold Rw
  rw[map_append,map_append,e0,e0,e1,zipIdx_map_fst,<-map_append,<-map_append,<-split3 hab G];exact ho
 ·intro h' M' hp hs ho'
  have hp':(M'.map (·.1)).Perm ((G.take b).drop a):=by
   have:=hp.map (·.1);rwa [zipIdx_map_fst]at this
  refine hq h' (G.take a++(M'.map (·.1)++G.drop b)) (within_mid hab hb hp') (srt_mid hab hb (by rw[hp'.length_eq,lm]) ?_) ?_
  ·rw[pairwise_map]
   refine hs.imp λ{x y} hxy=>?_;have hx:zex c y.1 x.1=false:=hxy.elim (λh=>W.asym h) λ⟨h,_⟩=>h;unfold zex at hx;exact of_decide_eq_false hx
  ·unfold Rw at ho' ⊢
   rw[map_append,map_append,e0,e0,e1]at ho'
   rwa [map_append,map_append]
theorem heapSort_spec{f1:Nat}(is:SiftI C E C0 fL f1)(S:zea E cs v)(W:zne (zex c))(hc:zeu C0 v c fL h0)(ho:Rw E cs h0 h x G R)(hl:G.length <= 100000000)(hab:a<b)(hb:b <= G.length)
  (hq:∀h' G',zdi a b G G'->Srt c a b G'->Rw E cs h0 h' x G' R->Q (.tup []) h'):zc9.cps C E C0 fL f1 x (.int .i64 (a:Int)) (.int .i64 (b:Int)) f h Q:=by
 have e1:=zj2 (a:=b) (b:=a) (by omega) (by omega);obtain⟨n,hn⟩:∃n,n=b-a:=⟨_,rfl⟩;have e2:V.bin .quo (.int .i64 ((n-1:Nat):Int)) (.int .i64 2)=some (.int .i64 (((n-1) / 2:Nat):Int)):=by
  rw[V.bin_quo _ _ _ (by omega),show ((n-1:Nat):Int).tdiv 2=(((n-1) / 2:Nat):Int) from rfl,wrap_i64 (by omega) (by omega)]
 have m1:∀k:Nat,k <= 100000000->V.bin .sub (.int .i64 (k:Int)) (.int .i64 1)=some (.int .i64 ((k:Int)-1)):=λk hk=>by
  rw[V.zjc,wrap_i64 (by omega) (by omega)]
 have m2:∀k:Nat,k <= 100000000->V.bin .sub (.int .i64 ((k+1:Nat)-1:Int)) (.int .i64 1)=some (.int .i64 ((k:Int)-1)):=λk hk=>by
  rw[V.zjc,wrap_i64 (by omega) (by omega)];congr 2;omega
 simp -dsimp only[zc9.cps,zc9.k5,e1,B.ze];rw[<-hn];simp -dsimp only[sub1 (show 1 <= n by omega) (by omega),e2,B.ze];refine z0.intro (λt vs hh=>∃(G':List X),vs=[.int .i64 ((t:Int)-1)] /\ t <= n /\ Heap c a n t G' /\ zdi a b G G' /\ Rw E cs h0 hh x G' R) ((n-1) / 2+1) ?_ ⟨G,by congr 2;omega,by omega,Heap.none_ (by omega),zdi.refl _ _ _,ho⟩;rintro Y t vs hh ⟨G1,rfl,htn,p1,W1,o1⟩ hY;have l1:=W1.len;simp -dsimp only[zc9.l4,zc9.k3,V.znd,B.ze];cases t with
 | succ k=>
  rw[show decide ((0:Int) <= ((k+1:Nat):Int)-1)=true by simp,B.cond_true,show (((k+1:Nat):Int)-1)=(k:Int) by omega];refine is _ _ _ _ _ _ _ (znk (b:=b) S W hc o1 (by omega) (p1.sinv (by omega)) (Nat.le_refl _) (by omega) (by omega) λh2 G2 p2 w2 o2=>zbh ?_);simp -dsimp only[m1 k (by omega),B.ze];exact hY k _ _ (by omega) ⟨G2,rfl,by omega,p2,W1.trans w2,o2⟩
 | zero=>
  rw[show decide ((0:Int) <= ((0:Nat):Int)-1)=false by simp,B.cond_false];simp -dsimp only[m1 n (by omega),B.ze];refine z0.intro (λt vs hh=>∃(G':List X),vs=[.int .i64 ((t:Int)-1)] /\ t <= n /\ Heap c a t 0 G' /\ Cut c a b a (a+t) G' /\ zdi a b G G' /\ Rw E cs h0 hh x G' R) n ?_ ⟨G1,rfl,Nat.le_refl _,p1,λp q _ _ h3 h4=>by omega,W1,o1⟩;rintro Z t vs hh ⟨G2,rfl,htn,p2,c2,W2,o2⟩ hZ;have l2:=W2.len;simp -dsimp only[zc9.l2,zc9.k1,V.znd,B.ze];cases t with
  | zero=>
   rw[show decide ((0:Int) <= ((0:Nat):Int)-1)=false by simp,B.cond_false];exact hq hh G2 W2 (c2.small (by omega)) o2
  | succ k=>
   rw[show decide ((0:Int) <= ((k+1:Nat):Int)-1)=true by simp,B.cond_true,show (((k+1:Nat):Int)-1)=(k:Int) by omega];have ac:=zpv (a:=a) (b:=k) (by omega);have la:a<G2.length:=by omega
   have lk:a+k<G2.length:=by omega
   simp -dsimp only[ac,o2.idx la,o2.idx lk,B.ze];refine o2.ld S (getElem?_eq_getElem lk) ?_;refine o2.ld S (getElem?_eq_getElem la) ?_;refine o2.swap S la lk λh3 o3=>?_;have hsl:=zjw la lk;have w3:zdi a (a+(k+1)) G2 (swp G2 a (a+k) la lk):=zfb la lk (by omega) (by omega) (by omega) (by omega);have c3:=c2.within w3 (Nat.le_refl _) (by omega);have c4:Cut c a b a (a+k) (swp G2 a (a+k) la lk):=λp q h1 h2 h3 h4 h5 h6=>by
    by_cases e:a+(k+1) <= q
    ·exact c3 p q h1 h2 h3 (.inr e) h5 h6
    ·have:q=a+k:=by omega
     subst this;rw[zgs la lk h6 (by omega),if_pos rfl,zgs la lk h5 (by omega),if_neg (by omega)];split
     ·exact p2.root W (by omega) k (by omega)
     ·have:=p2.root W (by omega) (p-a) (by omega)
      simpa only[show a+(p-a)=p by omega]using this
   have s3:SInv c a k 0 0 (swp G2 a (a+k) la lk):=⟨by omega,λj j0 hj _ hne h1 h2=>by
    rw[zgs la lk h1 (by omega),if_neg (by omega),if_neg (by omega),zgs la lk h2 (by omega),if_neg (by omega),if_neg (by omega)];exact p2 j j0 (by omega) (by omega) (by omega) (by omega),λ_ h=>by omega⟩
   refine is _ _ _ _ _ _ _ (znk (r:=0) (b:=a+k) S W hc o3 (by omega) s3 (Nat.le_refl _) (by omega) (by omega) λh4 G4 p4 w4 o4=>zbh ?_);simp -dsimp only[m1 k (by omega),B.ze];exact hZ k _ _ (by omega) ⟨G4,rfl,by omega,p4,c4.within w4 (Nat.le_refl _) (by omega),(W2.trans (w3.mono (Nat.le_refl _) (by omega))).trans (w4.mono (Nat.le_refl _) (by omega)),o4⟩
end
section
variable{X:Type}{c:X->X->Int}{A B j:Nat}{G:List X}
end
section
variable{E:zbc}{X:Type}{cs:X->List za}{v:X->za}{h0 h:zb}{x f:za}{G:List X}{R:List (List za)}{c:X->X->Int}{Q:zQ}{Y1:zL}{a b i s:Nat}
theorem pis_k3(S:zea E cs v)(hc:zeu C0 v c fL h0)(ho:Rw E cs h0 h x G R)(hl:G.length <= 100000000)(hi0:0<i)(hi:i<b)(hb:b <= G.length)(hs:s <= 5)
  (hY:∀h' G',zdi i b G G'->Rw E cs h0 h' x G' R->Y1 [.int .i64 (i:Int),.int .i64 ((s+1:Nat):Int)] h'):
  zh.k3 C E C0 fL Q Y1 x (.int .i64 (a:Int)) (.int .i64 (b:Int)) f (.int .i64 (i:Int)) (.int .i64 (s:Int)) h:=by
 have hge:V.bin .geq (.int .i64 ((b-i:Nat):Int)) (.int .i64 2)=some (.bool (decide (2 <= b-i))):=geqN (b:=2);simp -dsimp only[zh.k3,zj2 (show i <= b by omega) (by omega),hge,zgm (show s<4611686018427387904 by omega),zgm (show i<4611686018427387904 by omega),B.ze];refine B.zbe (λhd=>?_) (λhd=>?_)
 rotate_left
 ·simp -dsimp only[zgm (show s<4611686018427387904 by omega),B.ze]
  exact hY h G (zdi.refl _ _ _) ho
 rw[decide_eq_true_eq]at hd;simp -dsimp only[zgm (show i<4611686018427387904 by omega),B.ze];refine z0.intro (λt vs hh=>∃(j:Nat)(G':List X),j+t=b /\ vs=[.int .i64 (j:Int)] /\ i<j /\ zdi i b G G' /\ Rw E cs h0 hh x G' R) (b-(i+1)) ?_ ⟨i+1,G,by omega,rfl,by omega,zdi.refl _ _ _,ho⟩;rintro Y t vs hh ⟨j,G1,hjt,rfl,hij,W1,o⟩ hY2;have hlen:=W1.len;simp -dsimp only[zh.l2,zh.k1,zoq,B.ze];refine B.zbe (λhe=>?_) (λhe=>?_)
 ·rw[decide_eq_true_eq]at he
  have lj:j<G1.length:=by omega
  have lj1:j-1<G1.length:=by omega
  have sj:=sub1 (a:=j) (by omega) (by omega);simp -dsimp only[sj,o.idx lj,o.idx lj1,B.ze];refine o.ld S (getElem?_eq_getElem lj) ?_;refine o.ld S (getElem?_eq_getElem lj1) ?_;refine hc.call _ _ _ _ o.le ?_;simp -dsimp only[V.zey,V.zfn,B.ze];refine B.zbe (λhd=>?_) (λhd=>?_)
  ·simp -dsimp only[zgm (show s<4611686018427387904 by omega),B.ze]
   exact hY hh G1 W1 o
  ·simp -dsimp only[sj,o.idx lj,o.idx lj1,B.ze]
   refine o.ld S (getElem?_eq_getElem lj1) ?_;refine o.ld S (getElem?_eq_getElem lj) ?_;refine o.swap S lj lj1 λh2 o2=>?_;simp -dsimp only[zgm (show j<4611686018427387904 by omega),B.ze];exact hY2 (b-(j+1)) _ _ (by omega) ⟨j+1,_,by omega,rfl,by omega,W1.trans (zfb lj lj1 (by omega) (by omega) (by omega) (by omega)),o2⟩
 ·simp -dsimp only[zgm (show s<4611686018427387904 by omega),B.ze]
  exact hY hh G1 W1 o
theorem pis_k6(S:zea E cs v)(W:zne (zex c))(hc:zeu C0 v c fL h0)(ho:Rw E cs h0 h x G R)(hl:G.length <= 100000000)(hai:a<i)(hi:i<b)(hb:b <= G.length)(hs:s <= 5)(hp:Pre c a b G)(h1:But1 c a i (i-1) G)
  (hY:∀h' G',zdi a b G G'->Srt c a i G'->Rw E cs h0 h' x G' R->Y1 [.int .i64 (i:Int),.int .i64 ((s+1:Nat):Int)] h'):
  zh.k6 C E C0 fL Q Y1 x (.int .i64 (a:Int)) (.int .i64 (b:Int)) f (.int .i64 (i:Int)) (.int .i64 (s:Int)) h:=by
 have fin:∀{hh G1},Rw E cs h0 hh x G1 R->zdi a b G G1->Srt c a i G1->zh.k3 C E C0 fL Q Y1 x (.int .i64 (a:Int)) (.int .i64 (b:Int)) f (.int .i64 (i:Int)) (.int .i64 (s:Int)) hh:=λ{hh G1} o W1 s1=>by
  have l1:=W1.len;refine pis_k3 S hc o (by omega) (by omega) hi (by omega) hs λh2 G2 W2 o2=>hY h2 G2 (W1.trans (W2.mono (by omega) (Nat.le_refl _))) (λp q h1 h2 h3 h4 h5=>?_) o2;have l2:=W2.len;rw[W2.same (k:=p) (.inl (by omega)) h4 (by omega),W2.same (k:=q) (.inl (by omega)) h5 (by omega)];exact s1 p q h1 h2 h3 _ _
 have hge:V.bin .geq (.int .i64 ((i-a:Nat):Int)) (.int .i64 2)=some (.bool (decide (2 <= i-a))):=geqN (b:=2);simp -dsimp only[zh.k6,zj2 (show a <= i by omega) (by omega),hge,sub1 (show 1 <= i by omega) (by omega),B.ze];refine B.zbe (λhd=>?_) (λhd=>?_)
 ·simp -dsimp only[sub1 (show 1 <= i by omega) (show i<4611686018427387904 by omega),B.ze]
  refine z0.intro (λt vs hh=>∃(G':List X),vs=[.int .i64 (t:Int)] /\ a <= t /\ t<i /\ But1 c a i t G' /\ zdi a b G G' /\ Rw E cs h0 hh x G' R) (i-1) ?_ ⟨G,rfl,by omega,by omega,h1,zdi.refl _ _ _,ho⟩;rintro Y j vs hh ⟨G1,rfl,haj,hji,b1,W1,o⟩ hY2;have hlen:=W1.len;have lj:j<G1.length:=by omega
  have hg1:V.bin .geq (.int .i64 (j:Int)) (.int .i64 1)=some (.bool (decide (1 <= j))):=geqN (b:=1);simp -dsimp only[zh.l5,zh.k4,hg1,B.ze];refine B.zbe (λhe=>?_) (λhe=>?_)
  ·rw[decide_eq_true_eq]at he
   have lj1:j-1<G1.length:=by omega
   have sj:=sub1 (a:=j) (by omega) (by omega);simp -dsimp only[sj,o.idx lj,o.idx lj1,B.ze];refine o.ld S (getElem?_eq_getElem lj) ?_;refine o.ld S (getElem?_eq_getElem lj1) ?_;refine hc.call _ _ _ _ o.le ?_;simp -dsimp only[V.zey,V.zfn,B.ze];refine B.zbe (λhd=>?_) (λhd=>?_)
   ·exact fin o W1 (b1.done W lj (.inr λ_=>by simpa using hd))
   ·have hlt:c G1[j] G1[j-1]<0:=by simpa using hd
    have haj2:a<j:=by
     rcases Nat.lt_or_ge a j with k|k
     ·exact k
     ·have:j=a:=by omega
      subst this;exact absurd hlt ((hp.within W1) (by omega) j (Nat.le_refl _) (by omega) _ _)
    simp -dsimp only[sj,o.idx lj,o.idx lj1,B.ze];refine o.ld S (getElem?_eq_getElem lj1) ?_;refine o.ld S (getElem?_eq_getElem lj) ?_;refine o.swap S lj lj1 λh2 o2=>?_;exact hY2 (j-1) _ _ (by omega) ⟨_,rfl,by omega,by omega,b1.step W haj2 lj lj1 hlt,W1.trans (zfb lj lj1 (by omega) (by omega) (by omega) (by omega)),o2⟩
  ·rw[decide_eq_false_iff_not]at he
   exact fin o W1 (b1.done W lj (.inl (by omega)))
 ·rw[decide_eq_false_iff_not]at hd
  exact fin ho (zdi.refl _ _ _) λp q _ _ _ _ _=>by omega
theorem zjx(S:zea E cs v)(W:zne (zex c))(hc:zeu C0 v c fL h0)(ho:Rw E cs h0 h x G R)(hl:G.length <= 100000000)(hab:a<b)(hb:b <= G.length)(hp:Pre c a b G)
  (hq:∀h' G' t,zdi a b G G'->(t=true->Srt c a b G')->Rw E cs h0 h' x G' R->Q (.bool t) h'):
  zh.cps C E C0 fL x (.int .i64 (a:Int)) (.int .i64 (b:Int)) f h Q:=by
 simp -dsimp only[zh.cps,zgm (show a<4611686018427387904 by omega),B.ze];refine z0.intro (λt vs hh=>∃(s i:Nat)(G':List X),s+t=5 /\ vs=[.int .i64 (i:Int),.int .i64 (s:Int)] /\ a<i /\ i <= b /\ Srt c a i G' /\ zdi a b G G' /\ Rw E cs h0 hh x G' R) 5 ?_ ⟨0,a+1,G,rfl,rfl,by omega,by omega,λp q _ _ _ _ _=>by omega,zdi.refl _ _ _,ho⟩;rintro Y t vs hh ⟨s,i,G1,hst,rfl,hai,hib,s1,W1,o⟩ hY;have hl1:=W1.len;have h5:V.bin .lss (.int .i64 (s:Int)) (.int .i64 5)=some (.bool (decide (s<5))):=zoq (b:=5);simp -dsimp only[zh.l12,zh.k11,h5,B.ze];refine B.zbe (λhd=>?_) (λhd=>hq hh G1 false W1 (λh=>by cases h) o);rw[decide_eq_true_eq]at hd;refine z0.intro (λt vs hh=>∃(i:Nat),i+t=b /\ vs=[.int .i64 (i:Int)] /\ a<i /\ Srt c a i G1 /\ Rw E cs h0 hh x G1 R) (b-i) ?_ ⟨i,by omega,rfl,hai,s1,o⟩;rintro Z t vs hh ⟨i,hit,rfl,hai,s2,o2⟩ hZ;simp -dsimp only[zh.l10,zh.k9,zoq,B.ze];by_cases hd2:i<b
 ·have li:i<G1.length:=by omega
  have li1:i-1<G1.length:=by omega
  have si:=sub1 (a:=i) (by omega) (by omega);simp -dsimp only[hd2,decide_true,B.zfl,B.z7,si,o2.idx li,o2.idx li1,B.ze];refine o2.ld S (getElem?_eq_getElem li) ?_;refine o2.ld S (getElem?_eq_getElem li1) ?_;refine hc.call _ _ _ _ o2.le ?_;simp -dsimp only[hd2,decide_true,B.zfl,B.z7,V.zey,V.zfn,B.zek,B.ze];refine B.zbe (λhe=>?_) (λhe=>?_)
  ·have hnl:¬ c G1[i] G1[i-1]<0:=by simpa using he
   simp -dsimp only[zgm (show i<4611686018427387904 by omega),B.ze];refine hZ (t-1) _ _ (by omega) ⟨i+1,by omega,rfl,by omega,?_,o2⟩;exact But1.done W (j:=i) (λp q h1 h2 h3 h4 h5 h6=>s2 p q h1 h2 (by omega) h5 h6) li (.inr λ_=>hnl)
  ·have hlt:c G1[i] G1[i-1]<0:=by simpa using he
   have hne:V.bin .eql (.int .i64 (i:Int)) (.int .i64 (b:Int))=some (.bool false):=by rw[V.zf3];simp;omega
   simp -dsimp only[hne,B.ze,B.cond_false,zh.k8,zh.k7,zj2 (show a <= b by omega) (show b<4611686018427387904 by omega)];rw[show V.bin .lss (.int .i64 ((b-a:Nat):Int)) (.int .i64 50)=some (.bool (decide (b-a<50))) from zoq (b:=50)];simp -dsimp only[B.ze];refine B.zbe (λhf=>hq hh G1 false W1 (λh=>by cases h) o2) (λhf=>?_);simp -dsimp only[zh.k7,si,o2.idx li,o2.idx li1,B.ze];refine o2.ld S (getElem?_eq_getElem li1) ?_;refine o2.ld S (getElem?_eq_getElem li) ?_;refine o2.swap S li li1 λh3 o3=>?_;have hsl:=zjw li li1;have w3:zdi a b G1 (swp G1 i (i-1) li li1):=zfb li li1 (by omega) (by omega) (by omega) (by omega);have W3:=W1.trans w3;refine pis_k6 S W hc o3 (by omega) hai hd2 (by omega) (by omega) (hp.within W3) (λp q h1 h2 h3 h4 h5 h6=>?_) λh4 G4 W4 s4 o4=>hY (5-(s+1)) _ _ (by omega) ⟨s+1,i,G4,by omega,rfl,hai,by omega,s4,W3.trans W4,o4⟩;rw[zgs li li1 h6 (by omega),if_neg h4,if_neg (by omega),zgs li li1 h5 (by omega),if_neg (by omega),if_neg (by omega)];exact s2 p q h1 h2 h3 _ _
 ·have e:i=b:=by omega
  subst e;have heq:V.bin .eql (.int .i64 (i:Int)) (.int .i64 (i:Int))=some (.bool true):=by rw[V.zf3];simp
  simp -dsimp only[hd2,decide_false,B.zfl,B.zfj,B.zf9,B.cond_false,heq,B.cond_true,B.ze];exact hq hh G1 true W1 (λ_=>s2) o2
end
variable{C C0:z5}{fL:Nat}{N:zN}
section
variable{E:zbc}{X:Type}{cs:X->List za}{v:X->za}{h0 h:zb}{x f:za}{G:List X}{R:List (List za)}{Q:zQ}{a b:Nat}
theorem zn6{f1 f2:Nat}(hn:NextI C0 f1)(hp:PowI C0 f2)(S:zea E cs v)(ho:Rw E cs h0 h x G R)(hl:G.length <= 100000000)(hab:a <= b)(hb:b <= G.length)
  (hq:∀h' G',zdi a b G G'->Rw E cs h0 h' x G' R->Q (.tup []) h'):z3.cps C E C0 fL f1 f2 x (.int .i64 (a:Int)) (.int .i64 (b:Int)) f h Q:=by
 obtain⟨n,en⟩:∃n,n=b-a:=⟨_,rfl⟩;have e1:=zj2 hab (show b<4611686018427387904 by omega);rw[<-en]at e1;have g8:V.bin .geq (.int .i64 (n:Int)) (.int .i64 8)=some (.bool (decide (8 <= n))):=geqN (b:=8);simp -dsimp only[z3.cps,z3.k8,e1,g8,B.ze];refine B.zbe (λhd=>?_) (λhd=>hq h G (zdi.refl _ _ _) ho);rw[decide_eq_true_eq]at hd;simp -dsimp only[z3.k7,toUN (show n<18446744073709551616 by omega),B.ze];intro id hid;have o:=zc6.zns ho hid [.int .u64 0];simp only[cons_append,nil_append]at o;refine o.boxSt 1 (off:=0) rfl rfl (by simp) λh1 o1 _=>?_;simp only[set_cons_succ,set_cons_zero]at o1;refine hp n _ _ (by omega) (by omega) λm hm0 hm=>?_;have m4:V.bin .quo (.int .i64 (n:Int)) (.int .i64 4)=some (.int .i64 ((n / 4:Nat):Int)):=quo4 (by omega);have m2:V.bin .mul (.int .i64 ((n / 4:Nat):Int)) (.int .i64 2)=some (.int .i64 ((n / 4*2:Nat):Int)):=mulN (a:=n / 4) (b:=2) (by omega);have m5:V.bin .add (.int .i64 (a:Int)) (.int .i64 ((n / 4*2:Nat):Int))=some (.int .i64 ((a+n / 4*2:Nat):Int)):=zpv (by omega);simp -dsimp only[z3.k6,m4,m2,m5,sub1 (show 1 <= a+n / 4*2 by omega) (by omega),B.ze];refine z0.intro (λt vs hh=>∃(i:Nat)(G':List X)(z:Int),i+t=a+n / 4*2+2 /\ vs=[.int .i64 (i:Int)] /\ a <= i /\ zdi a b G G' /\ zc6 h0 hh [.sl E.es x (G'.map cs) R,.box (.ptr id 0 0) [.int .u64 z]]) 3 ?_ ⟨a+n / 4*2-1,G,_,by omega,rfl,by omega,zdi.refl _ _ _,o1⟩;rintro Y t vs hh ⟨i,G1,z,hit,rfl,hai,W1,o2⟩ hY;have l1:=W1.len;simp -dsimp only[z3.l5,z3.k4,m4,m2,m5,zgm (show a+n / 4*2<4611686018427387904 by omega),leqN,B.ze];refine B.zbe (λhe=>?_) (λhe=>hq hh G1 W1 (o2.sub (by simp)));rw[decide_eq_true_eq]at he;have oo:=zc6.out (l1:=[.sl E.es x (G1.map cs) R]) (l2:=[.box (.ptr id 0 0) [.int .u64 z]]) o2;simp -dsimp only[z3.k3];refine hn _ _ _ _ _ oo.2 λw z' h3 o3=>?_;have o4:=oo.1.join o3
 have s1:V.bin .sub (.int .u64 (m:Int)) (.int .u64 1)=some (.int .u64 ((m-1:Nat):Int)):=by
  rw[V.zjc,show (m:Int)-1=((m-1:Nat):Int) by omega,wrapU (by omega)]
 obtain⟨ot,hot,ea⟩:=and_le (z:=w) (m:=m-1) (by omega);simp -dsimp only[s1,ea,toIN (show ot<4611686018427387904 by omega),B.ze,z3.k2,geqN];have fin:∀k:Nat,k<n->z3.k1 C E C0 fL f1 f2 Q Y x (.int .i64 (a:Int)) (.int .i64 (n:Int)) (.ptr id 0 0) (.int .u64 (m:Int)) (.int .i64 (i:Int)) (.int .i64 (k:Int)) h3:=λk hk=>by
  have la:a+k<G1.length:=by omega
  have li:i<G1.length:=by omega
  have op:=zc6.perm o4 (List.Perm.swap _ _ []);have oq:=zc6.out (l1:=[.box (.ptr id 0 0) [.int .u64 z']]) (l2:=[.sl E.es x (G1.map cs) R]) op;have orw:Rw E cs _ h3 x G1 R:=oq.2;simp -dsimp only[z3.k1,zpv (show a+k<4611686018427387904 by omega),orw.idx la,orw.idx li,B.ze];refine orw.ld S (getElem?_eq_getElem la) ?_;refine orw.ld S (getElem?_eq_getElem li) ?_;refine orw.swap S li la λh5 o5=>?_;simp -dsimp only[zgm (show i<4611686018427387904 by omega),B.ze];have o6:=oq.1.join o5;exact hY (a+n / 4*2+2-(i+1)) _ _ (by omega) ⟨i+1,_,z',by omega,rfl,by omega,W1.trans (zfb li la (by omega) (by omega) (by omega) (by omega)),o6.perm (List.Perm.swap _ _ [])⟩
 refine B.zbe (λhf=>?_) (λhf=>?_)
 ·rw[decide_eq_true_eq]at hf
  simp -dsimp only[zj2 hf (show ot<4611686018427387904 by omega),B.ze];exact fin (ot-n) (by omega)
 ·rw[decide_eq_false_iff_not]at hf
  exact fin ot (by omega)
end
section
variable{X:Type}{c:X->X->Int}{a b m A0 Z0:Nat}{G G':List X}
end
structure PdqI(C:z5)(E:zbc)(C0:z5)(fL:Nat)(f1 f2 f3 f4 f5 f6 f7 f8 f9 g1 g2 g3 g4 g5 g6:Nat):Prop where
 eq:I5 (zt.cps C E C0 fL) C f1
 part:I5 (zl.cps C E C0 fL) C f2
 pdq:I5 (zba.cps C E C0 fL f1 f2 f3 f4 f5 f6 f7 f8 f9) C f3
 pis:I4 (zh.cps C E C0 fL) C f4
 rev:I4 (zdy.cps C E C0 fL) C f5
 piv:I4 (zbb.cps C E C0 fL g2 g3) C f6
 brk:I4 (z3.cps C E C0 fL g5 g6) C f7
 heap:I4 (zc9.cps C E C0 fL g4) C f8
 ins:I4 (zcy.cps C E C0 fL) C f9
 ord:O2I C E C0 fL g1
 med:MedI C E C0 fL g1 g2
 adj:AdjI C E C0 fL g2 g3
 sift:SiftI C E C0 fL g4
 next:NextI C0 g5
 pow:PowI C0 g6
section
variable{E:zbc}{X:Type}{cs:X->List za}{v:X->za}{h0 h:zb}{x f:za}{G:List X}{R:List (List za)}{c:X->X->Int}{Q:zQ}{Y:zL}{f1 f2 f3 f4 f5 f6 f7 f8 f9 g1 g2 g3 g4 g5 g6:Nat}
theorem pdq_k1(J:PdqI C E C0 fL f1 f2 f3 f4 f5 f6 f7 f8 f9 g1 g2 g3 g4 g5 g6)(S:zea E cs v)(W:zne (zex c))(hc:zeu C0 v c fL h0){A0 Z0 a b:Nat}{G0:List X}{lim:Int}{w1 w2:Bool}{pv:Nat}(p:PS E cs h0 x R c A0 Z0 G0 a b G h)(hl:G.length <= 100000000)(hBl:Z0 <= G.length)
  (h1:a <= pv) (h2:pv<b)
  (rcs:∀(a' b':Nat)(lim:Int)(h:zb)(G:List X)(Q:zQ),b'-a'<b-a->a' <= b'->b' <= G.length->G.length <= 100000000->Pre c a' b' G->Rw E cs h0 h x G R->(∀h' G',zdi a' b' G G'->Srt c a' b' G'->Rw E cs h0 h' x G' R->Q (.tup []) h') ->
   C f3 [x,.int .i64 (a':Int),.int .i64 (b':Int),.int .i64 lim,f] h Q)
  (hY:Go1 E cs h0 x R c A0 Z0 G0 (b-a) Y):
  zba.k1 C E C0 fL f1 f2 f3 f4 f5 f6 f7 f8 f9 Q Y x (.int .i64 (a:Int)) (.int .i64 (b:Int)) (.int .i64 lim) f (.bool w1) (.bool w2) (.int .i64 ((b-a:Nat):Int)) (.int .i64 (pv:Int)) h:=by
 have hA:=p.hA;have hB:=p.hB;have o:=p.o;have lp:pv<G.length:=by omega
 have part:zba.k1 C E C0 fL f1 f2 f3 f4 f5 f6 f7 f8 f9 Q Y x (.int .i64 (a:Int)) (.int .i64 (b:Int)) (.int .i64 lim) f (.bool w1) (.bool w2) (.int .i64 ((b-a:Nat):Int)) (.int .i64 (pv:Int)) h =
  zba.k1 C E C0 fL f1 f2 f3 f4 f5 f6 f7 f8 f9 Q Y x (.int .i64 (a:Int)) (.int .i64 (b:Int)) (.int .i64 lim) f (.bool w1) (.bool w2) (.int .i64 ((b-a:Nat):Int)) (.int .i64 (pv:Int)) h:=rfl
 clear part;have part:C f2 [x,.int .i64 (a:Int),.int .i64 (b:Int),.int .i64 (pv:Int),f] h (λv111 h=>
  B.pv (V.ext 0 v111) λv112=>
  B.pv (V.ext 1 v111) λv113=>
  B.pv (V.bin .sub v112 (.int .i64 (a:Int))) λv117=>
  B.pv (V.bin .sub (.int .i64 (b:Int)) v112) λv120=>
  B.pv (V.bin .quo (.int .i64 ((b-a:Nat):Int)) (.int .i64 8)) λv122=>
  B.pv (V.bin .lss v117 v120) λv125=>
  B.cond v125
  (B.pv (V.bin .geq v117 v122) λv128=>
  B.call C f3 [x,.int .i64 (a:Int),v112,.int .i64 lim,f] h λv134 h=>
  B.pv (V.bin .add v112 (.int .i64 1)) λv136=>
  Y [v136,.int .i64 (b:Int),.int .i64 lim,v128,v113] h)
  (B.pv (V.bin .geq v120 v122) λv139=>
  B.pv (V.bin .add v112 (.int .i64 1)) λv142=>
  B.call C f3 [x,v142,.int .i64 (b:Int),.int .i64 lim,f] h λv146 h=>
  Y [.int .i64 (a:Int),v112,.int .i64 lim,v139,v113] h)):=by
  refine J.part _ _ _ _ _ _ _ (zrk S hc o (by omega) h1 h2 (by omega) λh3 m G3 t pt W3 o3=>zbh ?_);have p3:=p.zhe W3 o3;have l3:=W3.len;have m1:=pt.ge;have m2:=pt.lt;have q8:V.bin .quo (.int .i64 ((b-a:Nat):Int)) (.int .i64 8)=some (.int .i64 (((b-a) / 8:Nat):Int)):=by
   rw[V.bin_quo _ _ _ (by omega),show ((b-a:Nat):Int).tdiv 8=(((b-a) / 8:Nat):Int) from rfl,wrap_i64 (by omega) (by omega)]
  simp -dsimp only[V.zg9,getElem?_cons_zero,getElem?_cons_succ,B.ze,zj2 m1 (show m<4611686018427387904 by omega),zj2 (show m <= b by omega) (show b<4611686018427387904 by omega),q8,zoq,geqN,zgm (show m<4611686018427387904 by omega)];refine B.zbe (λhd=>?_) (λhd=>?_)
  ·simp -dsimp only[geqN,zgm (show m<4611686018427387904 by omega),B.ze]
   refine rcs a m lim _ G3 _ (by omega) m1 (by omega) (by omega) (p3.pre.sub (by omega)) o3 λh4 G4 W4 s4 o4=>?_;have pt4:=pt.left W W4;have cut4:=(p3.cut.within (W4.mono (Nat.le_refl _) (by omega)) hA hB).left W pt4 s4;simp -dsimp only[zgm (show m<4611686018427387904 by omega),B.ze];exact hY (m+1) b lim _ _ G4 h4 (by omega) ⟨by omega,by omega,hB,p3.W.trans (W4.mono hA (by omega)),cut4,cut4.pre (by omega) hB,o4⟩
  ·have c3:Pre c (m+1) b G3:=λh0 i k1 k2 k3 k4=>pt.pair W (p:=m+1-1) (q:=i) (by omega) (by omega) k2 (by omega) (by omega) k4 k3
   simp -dsimp only[geqN,zgm (show m<4611686018427387904 by omega),B.ze];refine rcs (m+1) b lim _ G3 _ (by omega) (by omega) (by omega) (by omega) c3 o3 λh4 G4 W4 s4 o4=>?_;have pt4:=pt.right W W4;have W4':zdi a b G3 G4:=W4.mono (by omega) (Nat.le_refl _);have cut4:=(p3.cut.within W4' hA hB).right W pt4 s4;exact hY a m lim _ _ G4 h4 (by omega) ⟨hA,m1,by omega,p3.W.trans (W4.mono (by omega) hB),cut4,(p3.pre.within W4').sub (by omega),o4⟩
 simp -dsimp only[zba.k1];have g0:V.bin .gtr (.int .i64 (a:Int)) (.int .i64 0)=some (.bool (decide (0<a))):=gtrN (b:=0);simp -dsimp only[g0,B.ze];by_cases ha:0<a
 ·have la:a-1<G.length:=by omega
  simp -dsimp only[ha,decide_true,B.zfl,B.z7,sub1 (show 1 <= a by omega) (show a<4611686018427387904 by omega),o.idx la,o.idx lp,B.ze];refine o.ld S (getElem?_eq_getElem la) ?_;refine o.ld S (getElem?_eq_getElem lp) ?_;refine hc.call _ _ _ _ o.le ?_;simp -dsimp only[ha,decide_true,B.zfl,B.z7,V.zey,V.zfn,B.zek,B.ze];refine B.zbe (λhe=>?_) (λhe=>part);have hd:¬ c G[a-1] G[pv]<0:=by simpa using he
  refine J.eq _ _ _ _ _ _ _ (zm5 S hc o (by omega) h1 h2 (by omega) λh3 i j G3 pe hji W3 e3 o3=>zbh ?_);have p3:=p.zhe W3 o3;have l3:=W3.len;have k1:=pe.hi;have k2:=pe.hij;have k3:=pe.hj
  have cut4:=p3.cut.equal W pe hji ha p3.pre (by omega) λq1 q2=>by
   rw[e3 q2 lp,W3.same (.inl (by omega)) q1 la];exact hd
  exact hY i b lim _ _ G3 h3 (by omega) ⟨by omega,by omega,hB,p3.W,cut4,cut4.pre (by omega) hB,o3⟩
 ·simp -dsimp only[ha,decide_false,B.zfl,B.zfj,B.zf9,B.cond_false]
  exact part
theorem pdq_spec(J:PdqI C E C0 fL f1 f2 f3 f4 f5 f6 f7 f8 f9 g1 g2 g3 g4 g5 g6)(S:zea E cs v)(W:zne (zex c))(hc:zeu C0 v c fL h0):∀(n:Nat)(A0 Z0:Nat)(lim:Int)(h:zb)(G:List X)(Q:zQ),Z0-A0=n->A0 <= Z0->Z0 <= G.length->G.length <= 100000000->Pre c A0 Z0 G->Rw E cs h0 h x G R ->
  (∀h' G',zdi A0 Z0 G G'->Srt c A0 Z0 G'->Rw E cs h0 h' x G' R->Q (.tup []) h')->zba.cps C E C0 fL f1 f2 f3 f4 f5 f6 f7 f8 f9 x (.int .i64 (A0:Int)) (.int .i64 (Z0:Int)) (.int .i64 lim) f h Q:=by
 intro n
 induction n using Nat.strongRecOn with
 | ind n ih=>
 intro A0 Z0 lim h G0 Q hn hAB hBl hl hpre ho hq;simp -dsimp only[zba.cps];refine z0.intro (λt vs hh=>∃(a b:Nat)(lim:Int)(w1 w2:Bool)(G:List X),t=b-a /\ vs=[.int .i64 (a:Int),.int .i64 (b:Int),.int .i64 lim,.bool w1,.bool w2] /\ PS E cs h0 x R c A0 Z0 G0 a b G hh) (Z0-A0) ?_
  ⟨A0,Z0,lim,true,true,G0,rfl,rfl,⟨Nat.le_refl _,hAB,Nat.le_refl _,zdi.refl _ _ _,λp q _ _ _ k=>by omega,hpre,ho⟩⟩
 rintro Y t vs hh ⟨a,b,lim,w1,w2,G,rfl,rfl,p⟩ hY';have hY:Go1 E cs h0 x R c A0 Z0 G0 (b-a) Y:=λa' b' lim' w1' w2' G' h' hlt p'=>hY' (b'-a') _ _ hlt ⟨a',b',lim',w1',w2',G',rfl,rfl,p'⟩;clear hY';have hA:=p.hA;have hab:=p.hab;have hB:=p.hB;have lG:=p.W.len;have rcs:∀(a' b':Nat)(lim:Int)(h:zb)(G:List X)(Q:zQ),b'-a'<b-a->a' <= b'->b' <= G.length->G.length <= 100000000->Pre c a' b' G->Rw E cs h0 h x G R->(∀h' G',zdi a' b' G G'->Srt c a' b' G'->Rw E cs h0 h' x G' R->Q (.tup []) h') ->
   C f3 [x,.int .i64 (a':Int),.int .i64 (b':Int),.int .i64 lim,f] h Q:=λa' b' lim h G Q k1 k2 k3 k4 k5 k6 k7=>
  J.pdq _ _ _ _ _ _ _ (ih (b'-a') (by omega) a' b' lim h G _ rfl k2 k3 k4 k5 k6 λh' G' w s o=>zbh (k7 h' G' w s o))
 have fin:∀{hh G G2},PS E cs h0 x R c A0 Z0 G0 a b G hh->∀h',zdi a b G G2->Srt c a b G2->Rw E cs h0 h' x G2 R->Q (.tup []) h':=λp h' w s o=>by
  have p2:=p.zhe w o;exact hq h' _ p2.W (p2.cut.join s) o
 have e12:V.bin .leq (.int .i64 ((b-a:Nat):Int)) (.int .i64 12)=some (.bool (decide (b-a <= 12))):=leqN (b:=12);simp -dsimp only[zba.l8,zj2 hab (show b<4611686018427387904 by omega),B.ze,zba.k7,e12];refine B.zbe (λhd=>?_) (λhd=>?_)
 ·exact J.ins _ _ _ _ _ _ (insertion_srt S W hc p.o (by omega) hab (by omega) λh' G' w s o=>zbh (fin p h' w s o))
 rw[decide_eq_false_iff_not]at hd;simp -dsimp only[zba.k6,V.zf3,B.ze];refine B.zbe (λ_=>?_) (λ_=>?_)
 ·exact J.heap _ _ _ _ _ _ (heapSort_spec J.sift S W hc p.o (by omega) (by omega) (by omega) λh' G' w s o=>zbh (fin p h' w s o))
 have k4:∀{hh G}(lim:Int),PS E cs h0 x R c A0 Z0 G0 a b G hh->zba.k4 C E C0 fL f1 f2 f3 f4 f5 f6 f7 f8 f9 Q Y x (.int .i64 (a:Int)) (.int .i64 (b:Int)) (.int .i64 lim) f (.bool w1) (.bool w2) (.int .i64 ((b-a:Nat):Int)) hh:=λ{hh G} lim p=>by
  have lG:=p.W.len;simp -dsimp only[zba.k4];refine J.piv _ _ _ _ _ _ (zpu J.ord J.med J.adj S (zc6.zj4 p.o 0 rfl) p.o.le hc (by omega) (by omega) (by omega) λm hint h2 m1 m2 hle=>zbh ?_);have p2:PS E cs h0 x R c A0 Z0 G0 a b G h2:=⟨p.hA,p.hab,p.hB,p.W,p.cut,p.pre,zc6.grow p.o hle⟩;simp -dsimp only[V.zg9,getElem?_cons_zero,getElem?_cons_succ,B.ze,zba.k3,V.zf3];have k2:∀{hh G}(pv:Nat)(hint:Int),a <= pv->pv<b->PS E cs h0 x R c A0 Z0 G0 a b G hh->zba.k2 C E C0 fL f1 f2 f3 f4 f5 f6 f7 f8 f9 Q Y x (.int .i64 (a:Int)) (.int .i64 (b:Int)) (.int .i64 lim) f (.bool w1) (.bool w2) (.int .i64 ((b-a:Nat):Int)) (.int .i64 (pv:Int)) (.int .i64 hint) hh:=λ{hh G} pv hint q1 q2 p=>by
   have lG:=p.W.len;have go:=pdq_k1 (Q:=Q) (lim:=lim) (w1:=w1) (w2:=w2) J S W hc p (by omega) (by omega) q1 q2 rcs hY;simp -dsimp only[zba.k2];have two:B.cond (.bool true) (B.call C f4 [x,.int .i64 (a:Int),.int .i64 (b:Int),f] hh λv80 h=>
     B.cond v80 (Q (.tup []) h) (zba.k1 C E C0 fL f1 f2 f3 f4 f5 f6 f7 f8 f9 Q Y x (.int .i64 (a:Int)) (.int .i64 (b:Int)) (.int .i64 lim) f (.bool w1) (.bool w2) (.int .i64 ((b-a:Nat):Int)) (.int .i64 (pv:Int)) h))
     (zba.k1 C E C0 fL f1 f2 f3 f4 f5 f6 f7 f8 f9 Q Y x (.int .i64 (a:Int)) (.int .i64 (b:Int)) (.int .i64 lim) f (.bool w1) (.bool w2) (.int .i64 ((b-a:Nat):Int)) (.int .i64 (pv:Int)) hh):=by
    rw[B.cond_true];refine J.pis _ _ _ _ _ _ (zjx S W hc p.o (by omega) (by omega) (by omega) p.pre λh' G' t w s o=>zbh ?_);have p':=p.zhe w o;have lG':=p'.W.len;refine B.zbe (λht=>fin p h' w (s ht) o) (λ_=>?_);exact pdq_k1 (Q:=Q) (lim:=lim) (w1:=w1) (w2:=w2) J S W hc p' (by omega) (by omega) q1 q2 rcs hY
   cases w1<;>cases w2
   ·simp -dsimp only[B.zfl,B.zfj,B.zf9,B.cond_false];exact go
   ·simp -dsimp only[B.zfl,B.zfj,B.zf9,B.cond_false];exact go
   ·simp -dsimp only[B.zfl,B.z7,B.zfj,B.zek,B.zf9,B.cond_false];exact go
   ·by_cases hh1:hint=1
    ·simp -dsimp only[B.zfl,B.z7,V.zf3,hh1,decide_true,B.ze,B.zek];exact two
    ·simp -dsimp only[B.zfl,B.z7,V.zf3,hh1,decide_false,B.ze,B.zek,B.cond_false];exact go
  refine B.zbe (λ_=>?_) (λ_=>k2 m hint m1 m2 p2);refine J.rev _ _ _ _ _ _ (zof S (by omega) p2.o (by omega) (by omega) λh3 G3 w3 o3=>zbh ?_);simp -dsimp only[sub1 (show 1 <= b by omega) (show b<4611686018427387904 by omega),zj2 m1 (show m<4611686018427387904 by omega),zj2 (show m-a <= b-1 by omega) (show b-1<4611686018427387904 by omega),B.ze];exact k2 (b-1-(m-a)) 1 (by omega) (by omega) (p2.zhe w3 o3)
 simp -dsimp only[zba.k5,V.zfn,B.ze];refine B.zbe (λ_=>?_) (λ_=>k4 lim p);refine J.brk _ _ _ _ _ _ (zn6 J.next J.pow S p.o (by omega) hab (by omega) λh' G' w o=>zbh ?_);simp -dsimp only[V.zjc,B.ze];exact k4 _ (p.zhe w o)
end
end Go.Ab.Ord
namespace Go.Ab
open List
def Cst(C:z5):z5:=λf args h Q=>C f args.dropLast h Q
abbrev J4(F:za->za->za->za->zb->(zQ)->Prop)(C:z5)(n:Nat):Prop:=∀(v0 v1 v2 v3:za)(h:zb)(Q:zQ),F v0 v1 v2 v3 h (dn Q)->C n [v0,v1,v2,v3] h Q
abbrev J3(F:za->za->za->zb->(zQ)->Prop)(C:z5)(n:Nat):Prop:=∀(v0 v1 v2:za)(h:zb)(Q:zQ),F v0 v1 v2 h (dn Q)->C n [v0,v1,v2] h Q
structure OrdI(C:z5)(E:zbc)(fL e p q s r v b k n ad md o2 sd nx pw:Nat):Prop where
 eq:J4 (zk.cps C E fL) C e
 part:J4 (zf.cps C E fL) C p
 pdq:J4 (zn.cps C E fL e p q s r v b k n) C q
 pis:J3 (zd.cps C E fL) C s
 rev:J3 (zbx.cps C E) C r
 piv:J3 (zp.cps C E ad md) C v
 brk:J3 (zi.cps C E nx pw) C b
 heap:J3 (zx.cps C E sd) C k
 ins:J3 (z6.cps C E fL) C n
 adj:J3 (zel.cps C E md) C ad
 med:∀(v0 v1 v2 v3 v4:za)(h:zb)(Q:zQ),zep.cps C E o2 v0 v1 v2 v3 v4 h (dn Q)->C md [v0,v1,v2,v3,v4] h Q
 ord:J4 (zeo.cps C E fL) C o2
 sift:J4 (z9.cps C E fL) C sd
 next:NextI C nx
 pow:PowI C pw
theorem e4{F:za->za->za->za->za->zb->(zQ)->Prop}{G:za->za->za->za->zb->(zQ)->Prop}{C:z5}{f:Nat}(i:J4 G C f)(e:∀v0 v1 v2 v3 v4 h Q,F v0 v1 v2 v3 v4 h Q=G v0 v1 v2 v3 h Q):I5 F (Cst C) f:=
 λv0 v1 v2 v3 v4 h Q x=>i v0 v1 v2 v3 h Q (by rw[<-e v0 v1 v2 v3 v4];exact x)
theorem e3{F:za->za->za->za->zb->(zQ)->Prop}{G:za->za->za->zb->(zQ)->Prop}{C:z5}{f:Nat}(i:J3 G C f)(e:∀v0 v1 v2 v3 h Q,F v0 v1 v2 v3 h Q=G v0 v1 v2 h Q):I4 F (Cst C) f:=
 λv0 v1 v2 v3 h Q x=>i v0 v1 v2 h Q (by rw[<-e v0 v1 v2 v3];exact x)
section
variable{C:z5}{E:zbc}{fL e p q s r v b k n ad md o2 sd nx pw:Nat}
theorem t_eq:∀v0 v1 v2 v3 v4 h Q,zt.cps (Cst C) E C fL v0 v1 v2 v3 v4 h Q=zk.cps C E fL v0 v1 v2 v3 h Q:=by intros;kernel_rfl
theorem t_part:∀v0 v1 v2 v3 v4 h Q,zl.cps (Cst C) E C fL v0 v1 v2 v3 v4 h Q=zf.cps C E fL v0 v1 v2 v3 h Q:=by intros;kernel_rfl
theorem t_pdq:∀v0 v1 v2 v3 v4 h Q,zba.cps (Cst C) E C fL e p q s r v b k n v0 v1 v2 v3 v4 h Q=zn.cps C E fL e p q s r v b k n v0 v1 v2 v3 h Q:=by intros;kernel_rfl
theorem t_pis:∀v0 v1 v2 v3 h Q,zh.cps (Cst C) E C fL v0 v1 v2 v3 h Q=zd.cps C E fL v0 v1 v2 h Q:=by intros;kernel_rfl
theorem t_rev:∀v0 v1 v2 v3 h Q,zdy.cps (Cst C) E C fL v0 v1 v2 v3 h Q=zbx.cps C E v0 v1 v2 h Q:=by intros;kernel_rfl
theorem t_piv:∀v0 v1 v2 v3 h Q,zbb.cps (Cst C) E C fL md ad v0 v1 v2 v3 h Q=zp.cps C E ad md v0 v1 v2 h Q:=by intros;kernel_rfl
theorem t_brk:∀v0 v1 v2 v3 h Q,z3.cps (Cst C) E C fL nx pw v0 v1 v2 v3 h Q=zi.cps C E nx pw v0 v1 v2 h Q:=by intros;kernel_rfl
theorem t_heap:∀v0 v1 v2 v3 h Q,zc9.cps (Cst C) E C fL sd v0 v1 v2 v3 h Q=zx.cps C E sd v0 v1 v2 h Q:=by intros;kernel_rfl
theorem t_ins:∀v0 v1 v2 v3 h Q,zcy.cps (Cst C) E C fL v0 v1 v2 v3 h Q=z6.cps C E fL v0 v1 v2 h Q:=by intros;kernel_rfl
theorem t_adj:∀v0 v1 v2 v3 h Q,zef.cps (Cst C) E C fL md v0 v1 v2 v3 h Q=zel.cps C E md v0 v1 v2 h Q:=by intros;kernel_rfl
theorem t_med:∀v0 v1 v2 v3 v4 v5 h Q,zfu.cps (Cst C) E C fL o2 v0 v1 v2 v3 v4 v5 h Q=zep.cps C E o2 v0 v1 v2 v3 v4 h Q:=by intros;kernel_rfl
theorem t_ord:∀v0 v1 v2 v3 v4 h Q,zft.cps (Cst C) E C fL v0 v1 v2 v3 v4 h Q=zeo.cps C E fL v0 v1 v2 v3 h Q:=by intros;kernel_rfl
theorem t_sift:∀v0 v1 v2 v3 v4 h Q,zc8.cps (Cst C) E C fL v0 v1 v2 v3 v4 h Q=z9.cps C E fL v0 v1 v2 v3 h Q:=by intros;kernel_rfl
theorem OrdI.toT(J:OrdI C E fL e p q s r v b k n ad md o2 sd nx pw):Ord.PdqI (Cst C) E C fL e p q s r v b k n o2 md ad sd nx pw where
 eq:=e4 J.eq t_eq
 part:=e4 J.part t_part
 pdq:=e4 J.pdq t_pdq
 pis:=e3 J.pis t_pis
 rev:=e3 J.rev t_rev
 piv:=e3 J.piv t_piv
 brk:=e3 J.brk t_brk
 heap:=e3 J.heap t_heap
 ins:=e3 J.ins t_ins
 ord:=e4 J.ord t_ord
 med:=λv0 v1 v2 v3 v4 v5 h Q x=>J.med v0 v1 v2 v3 v4 h Q (by rw[<-t_med (C:=C) (fL:=fL) v0 v1 v2 v3 v4 v5];exact x)
 adj:=e3 J.adj t_adj
 sift:=e4 J.sift t_sift
 next:=J.next
 pow:=J.pow
theorem Sort_spec{X:Type}{cs:X->List za}{v':X->za}{h0 h:zb}{x:za}{G:List X}{R:List (List za)}{c:X->X->Int}{Q:zQ}{fl:Nat}(J:OrdI C E fL e p q s r v b k n ad md o2 sd nx pw)(hlen:LenI C fl)(S:zea E cs v')(W:zne (zex c))
  (hc:Ord.zeu C v' c fL h0) (hl:G.length <= 100000000) (ho:Rw E cs h0 h x G R) (hq:∀h' G',G'.Perm G->G'.Pairwise (λs t=>¬ c t s<0)->Rw E cs h0 h' x G' R->Q (.tup []) h'):zgd.cps C E fl q x h Q:=by
 simp -dsimp only[zgd.cps,zgd.k1,ho.lenE,toUN (show G.length<18446744073709551616 by omega),B.ze];refine hlen _ _ _ hl λr hr _=>?_;refine J.pdq _ _ _ _ _ _ ?_;rw[<-t_pdq (C:=C) _ _ _ _ .nilf];refine Ord.pdq_spec J.toT S W hc _ 0 G.length r h G _ rfl (by omega) (Nat.le_refl _) hl (λh=>by omega) ho λh' G' w s o=>zbh ?_;refine hq h' G' w.perm ?_ o;rw[pairwise_iff_getElem];intro i j hi hj hij;have:=w.len;exact s i j (by omega) hij (by omega) hi hj
end
variable{C:z5}
theorem zc6.frame(hC:zo1 C){h0 h:zb}{l:List Ob}(ho:zc6 h0 h l){f:Nat}{args:List za}{K K':zQ}(x:C f args h0 K)(hk:∀v h1 h',K v h1->zc6 h1 h' l->K' v h'):C f args h K':=
 hC.mono _ _ _ _ _ (λv h' ⟨h1,k1,k2,k3⟩=>hk v h1 h' k1 ⟨k2,λo hm=>(ho.is o hm).zj0 λi b hf hb=>(k3 i (ho.own o hm i hf).1 b hb).1,
  λo hm i hf=>by
   obtain⟨b,hb⟩:=(ho.is o hm).known hf
   obtain⟨m1,m2⟩:=k3 i (ho.own o hm i hf).1 b hb
   exact⟨m2,λc hc=>by rw[m1]at hc;cases hc;exact(ho.own o hm i hf).2 b hb⟩,ho.apart⟩) (hC.frame _ _ _ _ _ ho.le x)
theorem RK.here{k:Nat}{p:zb->Prop}{r:List (Nat×(zb->Prop))}{h:zb}(x:p h):RK ((k,p)::r) k h:= .inl ⟨rfl,x⟩
theorem B.callv_yld{id:Nat}{args:List za}{h:zb}{K:zQ}:B.zk0 h C (.yld id) args K=C zle (mkY id::args) h K:=rfl
variable{C:z5}{N:zN}
end Go.Ab
namespace Go.Ab
open List
variable{C:z5}{N:zN}
structure LL where
 x:za
 n:Nat
 xs:Nat->za
 D:Nat->List (List za)
 R:Nat->List (List za)
 W:List (List za)
@[irreducible] def zl5(k i:Int):List UInt8:=[35,byt k,byt (k.fdiv 256),byt (k.fdiv 65536),47,byt i,byt (i.fdiv 256),byt (i.fdiv 65536)]
def zdw.Spec(C:z5)(N:zN):Prop:=∀(k i:Int)(h:zb)(Q:zQ),Q (.str (zl5 k i)) h->C (N 106) [.int .i64 k,.int .i64 i] h Q
theorem zdw.spec(i:zdw.Imp C N):zdw.Spec C N:=by
 intro k j h Q hq;apply i;simp +contextual -dsimp[bin_shr (k:= .i64) (j:= .u64) (b:=8) (by omega) (by simp[IntKind.bits]),bin_shr (k:= .i64) (j:= .u64) (b:=16) (by omega) (by simp[IntKind.bits]),u8_byt];intro id hid;unfold zl5 at hq;have hx:SlX (upd h id (zdn [.int .u8 35,.int .u8 ((byt k).toNat:Int),.int .u8 ((byt (k.fdiv 256)).toNat:Int),.int .u8 ((byt (k.fdiv 65536)).toNat:Int),.int .u8 47,.int .u8 ((byt j).toNat:Int),.int .u8 ((byt (j.fdiv 256)).toNat:Int),.int .u8 ((byt (j.fdiv 65536)).toNat:Int)])) 1 (.sl id 0 0 8 1 8) (([35,byt k,byt (k.fdiv 256),byt (k.fdiv 65536),47,byt j,byt (j.fdiv 256),byt (j.fdiv 65536)]:List UInt8).map bc) []:=
  SlX.lit (zb4 ..) (by simp) rfl (by simp) rfl
 rw[bytesStr_bc hx];exact zre (zgi _ hid) hq
abbrev zgh:List (List za):=zgl tS (zl5 1) 12
def zdk.Spec(C:z5)(N:zN):Prop:=∀(x y:za)(L M:List (List UInt8))(R S:List (List za))(h:zb)(Q:zQ),SlX h 1 x (L.map tc) R->SlX h 1 y (M.map tc) S->L.length<4611686018427387904->Q (.bool (decide (L=M))) h->C (N 133) [x,y] h Q
theorem zdk.spec(i:zdk.Imp C N):zdk.Spec C N:=λx y L M R S h Q hx hy hlen hq=>i x y h Q (zr2 tS hx hy hlen (zbh hq))
def zds.Spec(C:z5)(N:zN):Prop:=∀(x:za)(L:List (List UInt8))(R:List (List za))(h:zb)(Q:zQ),SlX h 1 x (L.map tc) R->L.length <= 100000000->(∀x' h',zc6 h h' [.sl 1 x' (L.map tc) zgh]->Q x' h')->C (N 406) [x] h Q
theorem zds.spec(i:zds.Imp C N)(s1:zdw.Spec C N):zds.Spec C N:=λx L R h Q hx hlen hq=>i x h Q (lentS_spec tS (z:= .str []) (m:=1) (mk:=zl5 1) (by omega) (s1 1) hx hlen λx' h' ho=>zbh (hq x' h' ho))
def zdc.Spec(C:z5)(N:zN):Prop:=∀(x y:za)(L M:List (List UInt8))(R:List (List za))(h:zb)(Q:zQ),SlX h 1 x (L.map tc) zgh->SlX h 1 y (M.map tc) R->L.length <= 100000000->Q (.bool (decide (L=M))) h->C (N 407) [x,y] h Q
theorem zdc.spec(i:zdc.Imp C N)(s1:zdw.Spec C N):zdc.Spec C N:=λx y L M R h Q hx hy hlen hq=>i x y h Q (keptS_spec tS (m:=1) (mk:=zl5 1) (s1 1) hx hy hlen (zbh hq))
def zdv.Spec(C:z5)(N:zN):Prop:=∀(h0 h:zb)(x:za)(L R:List (List za))(Q:zQ),zc6 h0 h [.sl 1 x L R]->R.length=12->L.length <= 100000000->(∀h',h0.le h'->Q (.tup []) h')->C (N 409) [x] h Q
theorem zdv.spec(i:zdv.Imp C N)(s1:zdw.Spec C N):zdv.Spec C N:=λh0 h x L R Q ho hR hlen hq=>i x h Q (overG_spec (es:=1) (st:=λh p v K=>B.st h p v K) (by omega) (v:=λi=> .str (zl5 2 i)) (s1 2) (λho hi hK=>over_stS rfl ho hi hK) ho hR hlen λh' hle=>zbh (hq h' hle))
variable{C:z5}{N:zN}
abbrev icl(a:Int):List za:=[.int .i64 a]
def cmpI(a b:Int):Int:=if a<b then -1 else 1
theorem cmpI_lt{a b:Int}:cmpI a b<0↔a<b:=by unfold cmpI;split<;>simp_all
theorem weakI:zne (zex cmpI):=by
 constructor<;>simp only[zex,decide_eq_true_eq,decide_eq_false_iff_not,cmpI_lt]<;>omega
theorem seqI:zea (zdh 8 (.int .i64 0) 0) icl (λa:Int=>za.int .i64 a):=seqS (by omega) λ_=>rfl
variable{C:z5}{N:zN}
def zdq.Spec(C:z5)(N:zN):Prop:=∀(a:Int)(h:zb)(Q:zQ),Q (.bool false) h->C (N 546) [.int .i64 a] h Q
theorem zdq.spec(i:zdq.Imp C N):zdq.Spec C N:=by
 intro a h Q hq;apply i;simp -dsimp;exact zbh hq
def zdm.Spec(C:z5)(N:zN):Prop:=∀(a b:Int)(h:zb)(Q:zQ),Q (.bool (decide (a<b))) h->C (N 534) [.int .i64 a,.int .i64 b] h Q
theorem zdm.spec(i:zdm.Imp C N)(s1:zdq.Spec C N):zdm.Spec C N:=by
 intro a b h Q hq;apply i;simp -dsimp;refine s1 _ _ _ ?_;simp -dsimp;exact zbh hq
def zbl.Spec(C:z5)(N:zN):Prop:=∀(h0 h:zb)(x:za)(L:List Int)(R:List (List za))(Q:zQ),zc6 h0 h [.sl 1 x (L.map icl) R]->L.length <= 100000000->(∀h' (L':List Int),L'.Perm L->L'.Pairwise (λs t=>s <= t)->zc6 h0 h' [.sl 1 x (L'.map icl) R]->Q (.tup []) h')->C (N 511) [x] h Q
theorem zbl.spec(i:zbl.Imp C N)(j1:zbs.Imp C N)(j2:zcf.Imp C N)(j3:zcv.Imp C N)(j4:zbf.Imp C N)
  (j5:zb1.Imp C N) (j6:zb5.Imp C N) (j7:zbz.Imp C N) (j8:zcn.Imp C N) (j9:zby.Imp C N) (k1:zbt.Imp C N)
  (k2:zc3.Imp C N) (k3:zc2.Imp C N) (k4:zcl.Imp C N) (k5:NextI C (N 298)) (k6:PowI C (N 299)) (hl:LenI C (N 287)) (s1:zdm.Spec C N):zbl.Spec C N:=by
 intro h0 h x L R Q ho hlen hq;have J:OrdI C (zdh 8 (.int .i64 0) 0) (N 534) (N 535) (N 536) (N 531) (N 537) (N 538) (N 539) (N 540) (N 541) (N 542) (N 544) (N 545) (N 547) (N 543) (N 298) (N 299):=⟨j1,j2,j3,j4,j5,j6,j7,j8,j9,k1,k2,k3,k4,k5,k6⟩;have hc:Ord.zeu C (λa:Int=>za.int .i64 a) cmpI (N 534) h0:=⟨λh' a b K _ hk=>s1 _ _ _ _ (by rw[show decide (a<b)=decide (cmpI a b<0) from decide_eq_decide.2 cmpI_lt.symm];exact hk)⟩;refine i _ _ _ (Sort_spec J hl seqI weakI hc hlen (show Rw _ _ _ _ _ _ _ from ho) λh' G' hp hs o'=>zbh (hq h' G' hp (hs.imp λ{a b} hab=>?_) o'));rw[cmpI_lt]at hab;omega
theorem zm0:∀{S T:List Int},S.Perm T->S.Pairwise (λs t=>s <= t)->T.Pairwise (λs t=>s <= t)->S=T
 | [],T,hp,_,_=>by rw[List.Perm.nil_eq hp]
 | a::S,[],hp,_,_=>by have:=hp.length_eq;simp at this
 | a::S,b::T,hp,h1,h2=>by
  rw[pairwise_cons]at h1 h2;have e:a=b:=by
   have m1:a∈b::T:=hp.subset (mem_cons_self ..);have m2:b∈a::S:=hp.symm.subset (mem_cons_self ..);rcases mem_cons.1 m1 with e|m1
   ·exact e
   ·rcases mem_cons.1 m2 with e|m2
    ·exact e.symm
    ·have:=h1.1 b m2;have:=h2.1 a m1;omega
  subst e;rw[zm0 (perm_cons a |>.1 hp) h1.2 h2.2]
def insJ(a:Int):List Int->List Int|[]=>[a]|b::r=>if a <= b then a::b::r else b::insJ a r
def zhj:List Int->List Int|[]=>[]|a::r=>insJ a (zhj r)
theorem zq3(a:Int):∀l,(insJ a l).Perm (a::l)
 | []=> .refl _
 | b::r=>by
  unfold insJ
  split
  ·exact .refl _
  ·exact((zq3 a r).cons b).trans (.swap ..)
theorem zfr:∀l,(zhj l).Perm l|[]=> .refl _|a::r=>(zq3 a _).trans ((zfr r).cons a)
theorem zq2{a:Int}:∀{l:List Int},l.Pairwise (λs t=>s <= t)->(insJ a l).Pairwise (λs t=>s <= t)
 | [],_=>pairwise_singleton _ _
 | b::r,h=>by
  have h':=h
  rw[pairwise_cons]at h
  unfold insJ
  split
  ·rename_i hab
   refine pairwise_cons.2 ⟨λc hc=>?_,h'⟩
   rcases mem_cons.1 hc with rfl|hc
   ·exact hab
   ·have:=h.1 c hc;omega
  ·rename_i hab
   refine pairwise_cons.2 ⟨λc hc=>?_,zq2 h.2⟩
   rcases mem_cons.1 ((zq3 a r).subset hc) with rfl|hc
   ·omega
   ·exact h.1 c hc
theorem zie:∀l,(zhj l).Pairwise (λs t=>s <= t)|[]=> .nil|a::r=>zq2 (zie r)
theorem sortJ_of{S T:List Int}(hp:S.Perm T)(hs:S.Pairwise (λs t=>s <= t)):S=zhj T:=zm0 (hp.trans (zfr T).symm) hs (zie T)
theorem sortJ_of'{S T:List Int}(hp:S.Perm T)(hs:S.Pairwise (λs t=>s <= t)):S=zhj T:=sortJ_of hp hs
variable{C:z5}{N:zN}
def zk8(p:Nat)(ps:zes Nam Int)(t:Int)(e:Int×Wk×Nat):Bool:=decide (e.2.1.p≠p)&&zk7 e.2.1 ps t
def keptL(s:Lk)(p:Nat)(ps:zes Nam Int)(t:Int):List Int:=zhj ((s.W.filter (zk8 p ps t)).map (·.1))
def zbg.Spec(C:z5)(N:zN):Prop:=∀(h:zb)(s:Lk)(p b:Nat)(cs:List za)(ps:zes Nam Int)(t:Int)(Q:zQ),s.At h->s.Ok->s.W.length <= 100000->h p=some (zdn cs)->zpw h b ps->(∀x' h',zc6 h h' [.sl 1 x' ((keptL s p ps t).map icl) []]->Q x' h')->C (N 506) [.ptr s.l 0 0,.ptr p 0 0,.mp b,.int .i64 t] h Q
theorem zbg.spec(i:zbg.Imp C N)(s1:zc1.Spec C N)(s2:zbl.Spec C N):zbg.Spec C N:=by
 intro h s p b cs ps t Q hs hk hlen hp hb hq;apply i;simp -dsimp only[zbg.cps,zbg.k4];intro i5 h5;have o1:=(zc6.start h).zns h5 [.ptr p 0 0];intro i6 h6;have o2:=o1.zns h6 [.mp b];intro i7 h7;have o3:=o2.zns h7 [.int .i64 t];have o4:=o3.zed 1;generalize hh:upd (upd (upd h i5 (zdn [za.ptr p 0 0])) i6 (zdn [za.mp b])) i7 (zdn [za.int IntKind.i64 t])=h3 at o4 ⊢;have hs3:=hs.mono o4.le;have e1:=zeg (k:=0) hs3.1 rfl;simp -dsimp only[zbg.k3,B.zb3,V.fieldAddr,Nat.zero_add,B.ze,B.zeh,e1];refine zc6.zr5 (κ:=wV) (v:=pV) (ps:=s.W) (c:=s.c) (J:=λD l vs=>∃out',vs=[out'] /\ l=[.box (.ptr i5 0 0) [.ptr p 0 0],.box (.ptr i6 0 0) [.mp b],.box (.ptr i7 0 0) [.int .i64 t],.sl 1 out' (((D.filter (zk8 p ps t)).map (·.1)).map icl) []])
  (REST:=λit vs v h Y=>match vs with
   | [v10]=>B.pv (V.ext 0 v) λv20=>B.cond v20
    (B.pv (A.zfp h it) λv21=>B.pv (V.ext 0 v21) λv22=>B.pv (V.ext 1 v21) λv23=>
     B.zk0 h C (.fn (N 523) [] [.ptr i5 0 0,.ptr i6 0 0,.ptr i7 0 0]) [v23] λv26 h=>B.cond v26
     (B.zf2 h (zee [(0,none,v22)] (zf7 1 [.int .i64 0])) λi29 h=>B.zim h 1 8 v10 (.sl i29 0 0 1 1 1) λv30 h=>Y [v30] h) (Y [v10] h))
    (B.call C (N 511) [v10] h λv32 h=>dn Q v10 h)
   | _=>False) o4 hs.2.1 hk.zsk ⟨.zed,rfl,rfl⟩ ?_ ?_ ?_
 ·rintro it vs h4 Y D l ⟨out',rfl,_⟩ hn
  exact hn
 ·rintro it h4 D l bb Y vs ⟨out',rfl,rfl⟩ hpm ho
  simp -dsimp only[V.zg9,getElem?_cons_zero,B.ze,B.cond_false];have hsub:zc6 h h4 [.sl 1 out' (((D.filter (zk8 p ps t)).map (·.1)).map icl) []]:=ho.sub (.cons _ (.cons _ (.cons _ (.cons_cons _ (nil_sublist _)))));have hl:((D.filter (zk8 p ps t)).map (·.1)).length <= 100000000:=by
   have h1:=length_filter_le (zk8 p ps t) D;have h2:=hpm.length_eq;rw[length_map];omega
  refine s2 h h4 out' _ [] _ hsub hl λh5 L' hL hS o5=>?_;have e:L'=keptL s p ps t:=sortJ_of' (hL.trans ((hpm.filter _).map _)) hS;rw[e]at o5;exact zbh (hq _ _ o5)
 ·rintro it h4 D l bb Y vs q hqm ⟨out',rfl,rfl⟩ hsub hqD hDl ho he hY
  simp -dsimp only[V.zg9,getElem?_cons_zero,getElem?_cons_succ,B.ze,B.cond_true,he];rw[B.callv_fn];obtain⟨j5,e5,b5⟩:=ho.zrt 0 rfl;obtain⟨j6,e6,b6⟩:=ho.zrt 1 rfl;obtain⟨j7,e7,b7⟩:=ho.zrt 2 rfl;cases e5;cases e6;cases e7;refine s1 h4 q.2.1 p b i5 i6 i7 cs ps t _ ((hs.mono ho.le).2.2 q hqm) (ho.le _ _ hp) (hb.mono ho.le) b5 b6 b7 ?_;refine B.zbe (λhd=>?_) (λhd=>?_)
  ·have hd':zk8 p ps t q=true:=hd
   have hf:zee [(0,none,wV q.1)] (zf7 1 [.int .i64 0])=some [.int .i64 q.1]:=rfl;simp -dsimp only[hf];have hl:=length_filter_le (zk8 p ps t) D;refine ho.push 3 rfl (cs:=[.int .i64 q.1]) rfl (by omega) (by simp;omega) (by simp[maxLen];omega) λout2 h5 o5 _=>?_;refine hY h5 [.box (.ptr i5 0 0) [.ptr p 0 0],.box (.ptr i6 0 0) [.mp b],.box (.ptr i7 0 0) [.int .i64 t],.sl 1 out2 ((((D++[q]).filter (zk8 p ps t)).map (·.1)).map icl) []] _ ⟨out2,rfl,rfl⟩ ?_;rw[filter_append,map_append,map_append];simp only[List.filter,hd',map_cons,map_nil];exact o5
  ·have hd':zk8 p ps t q=false:=hd
   refine hY h4 _ _ ⟨out',rfl,rfl⟩ ?_;rw[filter_append];simp only[List.filter,hd',append_nil];exact ho
variable{C:z5}{N:zN}
theorem lkpW{h:zb}{m c:Nat}{W:zes Int Wk}(hb:h m=some (ze6 (zid wV pV W) c))(k:Int):A.lkp h (some .i) (some .zk4) false (.mp m) (.int .i64 k)=some (match zg2 W k with|some w=> .ptr w.p 0 0|none=> .zk4):=by
 have hf:=zlq (v:=pV) keyI k W 0;simp only[A.lkp,A.entries,zig hb,zn3];rw[show V.zrq .i (.int .i64 k) (zid wV pV W) 0=_ from hf];cases znh W k with
 | none=>rfl
 | some x=>rfl
def zcz.Spec(C:z5)(N:zN):Prop:=∀(h:zb)(s:Lk)(Q:zQ),s.At h->Q (.bool true) h->C (N 505) [.ptr s.l 0 0] h Q
theorem zcz.spec(i:zcz.Imp C N):zcz.Spec C N:=by
 intro h s Q hs hq;apply i;have e1:=zeg (k:=0) hs.1 rfl;have ep:V.zgk .neq (.ptr s.l 0 0) .zk4=some (.bool true):=rfl;have em:V.eqMap .neq (.mp s.m) .zo8=some (.bool true):=rfl;simp +contextual -dsimp[e1,ep,em,V.fieldAddr];exact zbh hq
def zev(s:Lk)(k:Int):List Int:=
 match zg2 s.W k with
 | none=>[]
 | some w=>if w.zhe=0 then [] else keptL s w.p w.zfe w.zhe
def zcq.Spec(C:z5)(N:zN):Prop:=∀(h:zb)(s:Lk)(k:Int)(Q:zQ),s.At h->s.Ok->s.W.length <= 100000->(∀x' h',zc6 h h' [.sl 1 x' ((zev s k).map icl) []]->Q x' h')->C (N 491) [.ptr s.l 0 0,.int .i64 k] h Q
theorem zcq.spec(i:zcq.Imp C N)(s1:zcz.Spec C N)(s2:zbg.Spec C N):zcq.Spec C N:=by
 intro h s k Q hs hk hlen hq;apply i;have e1:=zeg (k:=0) hs.1 rfl;have el:=lkpW hs.2.1 k;refine s1 h s _ hs ?_;cases ew:zg2 s.W k with
 | none=>
  rw[ew]at el;have ep:V.zgk .eql .zk4 .zk4=some (.bool true):=rfl;simp +contextual -dsimp[e1,el,ep,V.fieldAddr];have hw:zev s k=[]:=by simp[zev,ew]
  rw[hw]at hq;exact zbh (hq _ _ ((zc6.start h).zed 1))
 | some w=>
  rw[ew]at el;obtain⟨n,hn⟩:=zic ew;have hw:=hs.2.2 _ hn;have f1:=zeg (k:=1) hw.1 rfl;have f2:=zeg (k:=2) hw.1 rfl;have ep:V.zgk .eql (.ptr w.p 0 0) .zk4=some (.bool false):=rfl;simp +contextual -dsimp[e1,el,ep,f1,f2,V.fieldAddr];refine B.zbe (λhc=>?_) (λhc=>?_)<;>simp +contextual -dsimp[e1,el,f1,f2,V.fieldAddr]at hc ⊢
  ·have hw:zev s k=[]:=by simp[zev,ew,hc]
   rw[hw]at hq;exact zbh (hq _ _ ((zc6.start h).zed 1))
  ·have hw2:zev s k=keptL s w.p w.zfe w.zhe:=by simp[zev,ew,hc]
   rw[hw2]at hq;exact s2 h s w.p w.wm _ w.zfe w.zhe _ hs hk hlen hw.1 hw.2.2 λx' h' o=>zbh (hq x' h' o)
variable{C:z5}{N:zN}{K T:Type}{κ:K->za}{v:T->za}
theorem zr4(hG:zo1 C){ps:zes K T}{m c id:Nat}{I:zes K T->zb->Prop}{Z:zb->Prop}{h:zb}{Q:zQ}{Lp:za->zG}
  (hm:∀D h,I D h->h m=some (ze6 (zid κ v ps) c)) (hb:zfz ps c)
  (heq:∀it hh Y,(B.zet hh it λv6 h=>B.pv (V.ext 0 v6) λv7=>B.cond v7 (B.pv (A.zfp h it) λv8=>B.pv (V.ext 0 v8) λv9=>B.zk0 h C (.yld id) [v9] λv12 h=>B.pv (V.un .not v12) λv13=>B.cond v13 (Q (.tup []) h) (Y [] h)) (Q (.tup []) h))->Lp it [] hh Y)
  (hr:∀D p h,p∈ps->p∉D->D.length<ps.length->I D h->C zle (mkY id::[κ p.1]) h λv h'=>(v= .bool true /\ I (D++[p]) h') \/ (v= .bool false /\ Z h'))
  (h0:I [] h) (hend:∀D h1 h',D.Perm ps->I D h1->h1.le h'->Q (.tup []) h') (hZ:∀h1 h',Z h1->h1.le h'->Q (.tup []) h'):B.rangeMap h (.mp m) λv h=>z0 (Lp v) [] h:=by
 show A.rangeMap h (.mp m) _;simp only[A.rangeMap,zig (hm [] h h0)];intro it hit;have ho:zc6 h (upd h it (zgb (.mapIter (some m) c [] c))) ([]++[.blk it (ze9 m c (([]:zes K T).map (·.2.2)) c)]):=(zc6.start h).znt (b:=ze9 m c [] c) hit rfl;refine z0.intro (λt vs hh=>vs=[] /\ ∃(D:zes K T)(h1:zb),D.length+t=ps.length /\ (∀q∈D,q∈ps) /\ (D.map (·.2.2)).Nodup /\ I D h1 /\ zc6 h1 hh [.blk it (ze9 m c (D.map (·.2.2)) c)]) ps.length ?_ ⟨rfl,[],h,by simp,by simp,List.Pairwise.nil,h0,ho⟩;rintro Y t vs hh ⟨rfl,D,h1,ht,hD,hnd,hI,o⟩ hY;refine heq _ _ _ ?_;refine o.nextMapB 0 (seen:=D.map (·.2.2)) (since:=c) (last:=c) (o.le _ _ (hm D h1 hI)) rfl hb (Nat.le_refl _) (Nat.le_refl _) (λhall=>?_) λp hp hns h' o' hk he=>?_
 ·simp -dsimp only[V.zg9,getElem?_cons_zero,B.ze,B.cond_false]
  exact hend D h1 hh (hb.all hD hnd hall) hI o.le
 ·have o'':zc6 h1 h' [.blk it (ze9 m c ((D++[p]).map (·.2.2)) c)]:=by simpa using o'
  have hpD:p∉D:=λhm=>hns (mem_map.2 ⟨p,hm,rfl⟩);have nd2:((D++[p]).map (·.2.2)).Nodup:=by
   rw[map_append,nodup_append];exact⟨hnd,by simp,λx hx y hy e=>hns (by rw[map_cons,map_nil,mem_singleton]at hy;rw[<-hy,<-e];exact hx)⟩
  have sub:∀q∈D++[p],q∈ps:=λq hq=>by
   rcases mem_append.1 hq with h|h
   ·exact hD q h
   ·rw[mem_singleton.1 h];exact hp
  have hl:(D++[p]).length <= ps.length:=List.Nodup.length_le_of_subset (List.Pairwise.of_map (S:=(· ≠ ·)) (λp:K×T×Nat=>p.2.2) (λa b h e=>h (by rw[e])) nd2) sub;rw[length_append]at hl;have hl:D.length+1 <= ps.length:=hl;simp -dsimp only[V.zg9,getElem?_cons_zero,B.ze,B.cond_true,he];rw[B.callv_yld];refine o''.frame hG (hr D p h1 hp hpD (by omega) hI) λw h2 h3 hw o2=>?_;rcases hw with⟨e,h4⟩|⟨e,h4⟩
  ·simp -dsimp only[e,V.zfn,Bool.not_true,B.cond_false,B.ze]
   exact hY (t-1) _ _ (by omega) ⟨rfl,D++[p],h2,by rw[length_append,length_singleton];omega,sub,nd2,h4,o2⟩
  ·simp -dsimp only[e,V.zfn,Bool.not_false,B.cond_true,B.ze]
   exact hZ h2 h3 h4 o2.le
def IterK(C:z5)(g:Nat)(zjf:List za)(M:zb->Prop)(κ:K->za)(ps:zes K T):Prop:=∀(id:Nat)(I:zes K T->zb->Prop)(Z:zb->Prop)(h:zb)(Q:zQ),(∀D h,I D h->M h)->(∀D p h,p∈ps->p∉D->D.length<ps.length->I D h->C zle (mkY id::[κ p.1]) h λv h'=>(v= .bool true /\ I (D++[p]) h') \/ (v= .bool false /\ Z h'))->I [] h->(∀D h,D.Perm ps->I D h->Q (.tup []) h)->(∀h,Z h->Q (.tup []) h)->C g ([.yld id]++zjf) h Q
theorem range_iterK{g:Nat}{zjf:List za}{M:zb->Prop}{ps:zes K T}{W:List za->zb->(Nat->zb->Prop)->Prop}{h:zb}{R:Nat->zb->Prop}(hi:IterK C g zjf M κ ps)(hM:∀h h',h.le h'->M h->M h')
  (J:zes K T->zb->Prop) (hJ:∀D h,J D h->M h) (round:∀D p h E,p∈ps->p∉D->D.length<ps.length->J D h->(∀h',J (D++[p]) h'->E 0 h')->W [κ p.1] h E)
  (h0:J [] h) (hend:∀D h,D.Perm ps->J D h->R 0 h):zpm C (.fn g [] zjf) W h R:=by
 intro mk _ id hid hround;refine hi id (λD h2=>∃h1:zb,h1 id=none /\ h2=upd h1 id (mk 0) /\ J D h1) (λh2=>False) _ _ ?_ ?_ ⟨h,hid,rfl,h0⟩ ?_ ?_
 ·rintro D _ ⟨h1,e,rfl,hj⟩
  exact hM _ _ (zgi _ e) (hJ D h1 hj)
 ·rintro D p _ hp hpD hl ⟨h1,e,rfl,hj⟩
  exact hround [κ p.1] h1 _ e (round D p h1 _ hp hpD hl hj (λh' hj'=>⟨h',zb.le_refl h',λe'=> .inl ⟨rfl,h',e',rfl,hj'⟩⟩))
 ·rintro D _ hp ⟨h1,e,rfl,hj⟩
  exact⟨0,h1,e,zb.le_refl _,hend D h1 hp hj⟩
 ·intro _ hf
  exact hf.elim
variable{C:z5}{N:zN}
section
variable{α:Type}[DecidableEq α]
end
variable{C:z5}{N:zN}
def far:Nat:=140737488351232
section
variable{h h':zb}{x:za}{b:List UInt8}
end
abbrev AllAt(h:zb)(l:List Ob):Prop:=∀o∈l,o.at h
structure DK(T Ad:Type) where
 n:Nat
 bytes:Nat
 z:List za
 pos:0<n
 small:bytes <= 1000
 zlen:z.length=n
 cells:T->Ad->List za
 len:∀t a,(cells t a).length=n
 at_:zb->T->Ad->Prop
 mono:∀{h h':zb}{t:T}{a:Ad},h.le h'->at_ h t a->at_ h' t a
 ok:T->Prop
 at_ok:∀{h:zb}{t:T}{a:Ad},at_ h t a->ok t
 obs:Bool->T->Ad->List Ob
 ofObs:∀{b:Bool}{h:zb}{t:T}{a:Ad},ok t->AllAt h (obs b t a)->at_ h t a
section
variable{T Ad:Type}(K:DK T Ad)
abbrev DK.cs(p:T×Ad):List za:=K.cells p.1 p.2
def Dl(h:zb)(x:za)(L:List T):Prop:=∃(P:List (T×Ad))(R:List (List za)),P.map (·.1)=L /\ SlX h K.n x (P.map K.cs) R /\ ∀p∈P,K.at_ h p.1 p.2
structure DEl(h:zb)(x:za)(i:Nat)(t:T)(a:Ad):Prop where
 idx:V.zda K.n x (.int .i64 (i:Int))=some (elp K.n x i 0)
 ldn:A.zl7 h (elp K.n x i 0) K.n=some (.agg (K.cells t a))
 fld:∀f o,V.fieldAddr o (elp K.n x i f)=some (elp K.n x i (f+o))
 ld:∀f,f<K.n->A.ldv h (elp K.n x i f)=(K.cells t a)[f]?
 at_:K.at_ h t a
variable{K}{h h' h0:zb}{x:za}{L M:List T}
theorem slX_el{h:zb}{x:za}{P:List (T×Ad)}{R:List (List za)}(s:SlX h K.n x (P.map K.cs) R)(ha:∀p∈P,K.at_ h p.1 p.2){i:Nat}{p:T×Ad}(hi:P[i]?=some p):DEl K h x i p.1 p.2:=by
 have hc:(P.map K.cs)[i]?=some (K.cells p.1 p.2):=by rw[getElem?_map,hi];rfl
 have hl:i<(P.map K.cs).length:=(List.getElem?_eq_some_iff.1 hc).1;exact⟨s.zmq hl,s.elem hc,λf o=>s.fieldA hl f o,λf hf=>s.ldv hc hf,ha p (mem_of_getElem? hi)⟩
theorem Dl.get(hd:Dl K h x L){i:Nat}{t:T}(hi:L[i]?=some t):∃a,DEl K h x i t a:=by
 obtain⟨P,R,rfl,s,ha⟩:=hd;rw[getElem?_map]at hi;obtain⟨p,hp,rfl⟩:=Option.map_eq_some_iff.1 hi;exact⟨p.2,slX_el s ha hp⟩
theorem Dl.mono(hd:Dl K h x L)(hle:h.le h'):Dl K h' x L:=by
 obtain⟨P,R,e,s,ha⟩:=hd;exact⟨P,R,e,s.mono hle,λp hp=>K.mono hle (ha p hp)⟩
theorem Dl.zde(hd:Dl K h x L):V.zde x=some (.int .i64 L.length):=by
 obtain⟨P,R,rfl,s,ha⟩:=hd;simpa using s.zde
end
variable{C:z5}{N:zN}
structure zjg where
 Key:List UInt8
 Old:List UInt8
 New:List UInt8
 deriving DecidableEq
abbrev zgo:List UInt8->List UInt8->Bool:=Op.bytesLess
theorem lessB_nil(a:List UInt8):zgo a []=false:=by cases a<;>rfl
theorem znx(a b:UInt8)(as1 bs:List UInt8):zgo (a::as1) (b::bs)=(decide (a<b)||(a==b&&zgo as1 bs)):=rfl
theorem u8_tri(a b:UInt8):a<b \/ a=b \/ b<a:=by
 simp only[UInt8.lt_iff_toNat_lt,<-UInt8.toNat_inj];omega
theorem lessB_irr:∀a:List UInt8,zgo a a=false
 | []=>rfl
 | a::as1=>by rw[znx,lessB_irr as1];simp
theorem zku:∀{a b c:List UInt8},zgo a b=true->zgo b c=true->zgo a c=true
 | _,[],_,h,_=>by rw[lessB_nil]at h;cases h
 | _,_::_,[],_,h=>by rw[lessB_nil]at h;cases h
 | [],_::_,_::_,_,_=>rfl
 | a::as1,b::bs,c::cs,h1,h2=>by
  rw[znx]at h1 h2 ⊢
  simp only[Bool.or_eq_true,decide_eq_true_eq,Bool.and_eq_true,beq_iff_eq]at h1 h2 ⊢
  rcases h1 with h1|⟨rfl,h1⟩
  ·rcases h2 with h2|⟨rfl,h2⟩
   ·left;simp only[UInt8.lt_iff_toNat_lt]at *;omega
   ·exact .inl h1
  ·rcases h2 with h2|⟨rfl,h2⟩
   ·exact .inl h2
   ·exact .inr ⟨rfl,zku h1 h2⟩
theorem zqw:∀{a b:List UInt8},zgo a b=false->zgo b a=false->a=b
 | [],[],_,_=>rfl
 | [],_::_,h,_=>by cases h
 | _::_,[],_,h=>by cases h
 | a::as1,b::bs,h1,h2=>by
  rw[znx]at h1 h2
  simp only[Bool.or_eq_false_iff,decide_eq_false_iff_not,Bool.and_eq_false_iff,beq_eq_false_iff_ne]at h1 h2
  obtain rfl:a=b:=by rcases u8_tri a b with h|h|h<;>simp_all
  rw[zqw (h1.2.resolve_left λh=>h rfl) (h2.2.resolve_left λh=>h rfl)]
theorem zsa{a b:List UInt8}(h:zgo a b=true):zgo b a=false:=by
 cases e:zgo b a with
 | false=>rfl
 | true=>have:=zku h e;rw[lessB_irr]at this;cases this
theorem lessB_or{a b:List UInt8}(h:zgo a b=false)(hne:a≠b):zgo b a=true:=by
 cases e:zgo b a with
 | true=>rfl
 | false=>exact absurd (zqw h e) hne
abbrev cmpB:=Lib.compareBytes
theorem cmpB_spec:∀a b:List UInt8,cmpB a b=if zgo a b then -1 else if zgo b a then 1 else 0
 | [],[]=>rfl
 | [],_::_=>rfl
 | _::_,[]=>rfl
 | a::as1,b::bs=>by
  have ih:=cmpB_spec as1 bs
  show (if a<b then -1 else if b<a then 1 else cmpB as1 bs)=_
  rw[ih,znx,znx]
  rcases u8_tri a b with h|rfl|h
  ·simp[h]
  ·have hi:¬ a<a:=by simp only[UInt8.lt_iff_toNat_lt];omega
   simp
  ·have h1:¬ a<b:=by simp only[UInt8.lt_iff_toNat_lt]at *;omega
   have h2:a≠b:=λe=>by subst e;exact h1 h
   have h3:(a==b)=false:=by simp[h2]
   simp[h,h1,h3]
theorem cmpB_neg{a b:List UInt8}:cmpB a b<0↔zgo a b=true:=by
 rw[cmpB_spec];split
 ·simp[*]
 ·split<;>simp[*]
theorem rise_ext{T:Type}{lt:T->T->Prop}(asym:∀a b,lt a b->lt b a->False){l m:List T}(s:l.Pairwise lt)(t:m.Pairwise lt)(e:∀x,x∈l↔x∈m):l=m:=by
 have nd:∀{l:List T},l.Pairwise lt->l.Nodup:=λh=>h.imp λ{a b} hab e=>by subst e;exact asym a a hab hab
 exact List.Perm.eq_of_pairwise (le:=lt) (λa b _ _ h1 h2=>(asym a b h1 h2).elim) s t ((perm_ext_iff_of_nodup (nd s) (nd t)).2 e)
variable{C:z5}{N:zN}
theorem V.bin_slss(a b:List UInt8):V.bin .lss (.str a) (.str b)=some (.bool (zgo a b)):=rfl
theorem weakB:zne (zex cmpB):=by
 constructor<;>simp only[zex,decide_eq_true_eq,decide_eq_false_iff_not,cmpB_neg]
 ·intro a b h;rw[zsa h];simp
 ·intro a b c h1 h2 h3
  have h1:zgo a b=false:=by simpa using h1
  have h2:zgo b c=false:=by simpa using h2
  by_cases e:a=b
  ·subst e;rw[h2]at h3;cases h3
  ·have:=zku (lessB_or h1 e) h3
   rw[h2]at this;cases this
def zdg.Spec(C:z5)(N:zN):Prop:=∀(a:List UInt8)(h:zb)(Q:zQ),Q (.bool false) h->C (N 389) [.str a] h Q
theorem zdg.spec(i:zdg.Imp C N):zdg.Spec C N:=by
 intro a h Q hq;apply i;simp -dsimp;exact zbh hq
def zdd.Spec(C:z5)(N:zN):Prop:=∀(a b:List UInt8)(h:zb)(Q:zQ),Q (.bool (zgo a b)) h->C (N 377) [.str a,.str b] h Q
theorem zdd.spec(i:zdd.Imp C N)(s1:zdg.Spec C N):zdd.Spec C N:=by
 intro a b h Q hq;apply i;simp -dsimp;refine s1 _ _ _ ?_;simp -dsimp[V.bin_slss];exact zbh hq
def SortedB(L:List (List UInt8)):Prop:=L.Pairwise λs t=>zgo t s=false
def zbn.Spec(C:z5)(N:zN):Prop:=∀(h0 h:zb)(x:za)(L:List (List UInt8))(R:List (List za))(Q:zQ),zc6 h0 h [.sl 1 x (L.map tc) R]->L.length <= 100000000->(∀h' (L':List (List UInt8)),L'.Perm L->SortedB L'->zc6 h0 h' [.sl 1 x (L'.map tc) R]->Q (.tup []) h')->C (N 364) [x] h Q
theorem seqT:zea (zdh 16 (.str []) 0) tc (λa:List UInt8=>za.str a):=seqS (by omega) λ_=>rfl
theorem zbn.spec(i:zbn.Imp C N)(j1:zbp.Imp C N)(j2:zb8.Imp C N)(j3:zcm.Imp C N)(j4:zbd.Imp C N)
  (j5:zbw.Imp C N) (j6:zb2.Imp C N) (j7:zbv.Imp C N) (j8:zcg.Imp C N) (j9:zbu.Imp C N) (k1:zbq.Imp C N)
  (k2:zcx.Imp C N) (k3:zcw.Imp C N) (k4:zce.Imp C N) (k5:NextI C (N 298)) (k6:PowI C (N 299)) (hl:LenI C (N 287)) (s1:zdd.Spec C N):zbn.Spec C N:=by
 intro h0 h x L R Q ho hlen hq;have J:OrdI C (zdh 16 (.str []) 0) (N 377) (N 378) (N 379) (N 375) (N 380) (N 381) (N 382) (N 383) (N 384) (N 385) (N 387) (N 388) (N 390) (N 386) (N 298) (N 299):=⟨j1,j2,j3,j4,j5,j6,j7,j8,j9,k1,k2,k3,k4,k5,k6⟩;have hc:Ord.zeu C (λa:List UInt8=>za.str a) cmpB (N 377) h0:=⟨λh' a b K _ hk=>s1 _ _ _ _ (by
  rw[show zgo a b=decide (cmpB a b<0) by rw[Bool.eq_iff_iff,decide_eq_true_eq];exact cmpB_neg.symm];exact hk)⟩
 refine i _ _ _ (Sort_spec J hl seqT weakB hc hlen (show Rw _ _ _ _ _ _ _ from ho) λh' G' hp hs o'=>zbh (hq h' G' hp (hs.imp λ{a b} hab=>?_) o'));rw[cmpB_neg]at hab;simpa using hab
variable{C:z5}{N:zN}{K T:Type}{κ:K->za}{v:T->za}
theorem keysS_iter(hG:zo1 C)(i:zq.Imp C N){j m c:Nat}{ps:zes Nam Int}(hb:zfz ps c):IterK C (N 524) [.ptr j 0 0] (λh=>h j=some (zdn [.mp m]) /\ h m=some (ze6 (zid nV wV ps) c)) nV ps:=by
 intro id I Z h Q hD hr h0 hend hZ;refine i (.yld id) (.ptr j 0 0) h Q ?_;obtain⟨d1,d2⟩:=hD [] h h0;have e1:=zeg (k:=0) d1 rfl;simp -dsimp only[zq.cps,B.zeh,e1,B.ze];exact zr4 hG (λD h hI=>(hD D h hI).2) hb (λit hh Y hn=>hn) hr h0 (λD h1 h' hp hI hle=>zre hle (hend D h1 hp hI)) (λh1 h' hz hle=>zre hle (hZ h1 hz))
theorem keysI_iter(hG:zo1 C)(i:zm.Imp C N){j m c:Nat}{ps:zes Int Wk}(hb:zfz ps c):IterK C (N 525) [.ptr j 0 0] (λh=>h j=some (zdn [.mp m]) /\ h m=some (ze6 (zid wV pV ps) c)) wV ps:=by
 intro id I Z h Q hD hr h0 hend hZ;refine i (.yld id) (.ptr j 0 0) h Q ?_;obtain⟨d1,d2⟩:=hD [] h h0;have e1:=zeg (k:=0) d1 rfl;simp -dsimp only[zm.cps,B.zeh,e1,B.ze];exact zr4 hG (λD h hI=>(hD D h hI).2) hb (λit hh Y hn=>hn) hr h0 (λD h1 h' hp hI hle=>zre hle (hend D h1 hp hI)) (λh1 h' hz hle=>zre hle (hZ h1 hz))
theorem zsl{g bytes:Nat}{z:za}{zjf:List za}{M:zb->Prop}{ps:zes K T}{h:zb}{Q:zQ}(hi:IterK C g zjf M κ ps)(hM:∀h h',h.le h'->M h->M h')(hlen:ps.length <= 100000)(hby:bytes <= 16)
  (hfill:∀k,zee [(0,none,κ k)] (zf7 1 [z])=some [κ k]) (hMh:M h) (hq:∀(x':za)(h':zb)(D:zes K T),D.Perm ps->zc6 h h' [.sl 1 x' (D.map λp=>[κ p.1]) []]->Q x' h'):zcs.cps C (zdh bytes z 0) .zed (.fn g [] zjf) h Q:=by
 simp -dsimp only[zcs.cps,zcs.k3];intro i2 h2;have o1:=((zc6.start h).zns h2 [.zed]).zed 1;refine range_iterK hi hM (λD hh=>∃x,zc6 h hh [.box (.ptr i2 0 0) [x],.sl 1 x (D.map λp=>[κ p.1]) []]) (λD hh ⟨x,o⟩=>hM _ _ o.le hMh) ?_ ⟨.zed,o1⟩ ?_
 ·rintro D p hh E hp hpD hl ⟨x,o⟩ hE
  obtain⟨j,e,b⟩:=o.zrt 0 rfl;cases e;have e1:=zeg (k:=0) b rfl;show zcs.r2 _ _ _ _ _ _ _;have hf:zee [(0,(zdh bytes z 0).kp,κ p.1)] (zf7 1 (zdh bytes z 0).z)=some [κ p.1]:=hfill p.1;simp -dsimp only[zcs.r2,zcs.k1,B.zeh,e1,B.ze,hf];have hb:(D.length+1)*bytes <= 140737488355328:=Nat.le_trans (Nat.mul_le_mul (Nat.succ_le_of_lt (Nat.lt_of_lt_of_le hl hlen)) hby) (by decide);refine o.push 1 rfl (cs:=[κ p.1]) rfl (show 0<1 by decide) (show ((D.map λp=>[κ p.1]).length+1)*bytes <= _ by rw[length_map];exact hb) (by simp[maxLen];omega) λx2 h3 o3 _=>?_;refine o3.boxSt 0 rfl (o3.zj4 1 rfl).zec (by simp) λh4 o4 _=>?_;exact hE h4 ⟨x2,by rw[map_append];exact o4⟩
 ·rintro D hh hp ⟨x,o⟩
  obtain⟨j,e,b⟩:=o.zrt 0 rfl;cases e;have e1:=zeg (k:=0) b rfl;refine RK.here ?_;simp -dsimp only[B.zeh,e1,B.ze];exact hq x hh D hp (o.sub (.cons _ (.cons_cons _ (nil_sublist _))))
variable{C:z5}{N:zN}{K T:Type}{κ:K->za}{v:T->za}
def zca.Spec(C:z5)(N:zN):Prop:=∀(g:Nat)(zjf:List za)(M:zb->Prop)(ps:zes Nam Int)(h:zb)(Q:zQ),IterK C g zjf M nV ps->(∀h h',h.le h'->M h->M h')->ps.length <= 100000->M h->(∀(x':za)(h':zb)(L:List Nam),L.Perm (zcd ps)->SortedB L->zc6 h h' [.sl 1 x' (L.map tc) []]->Q x' h')->C (N 510) [.fn g [] zjf] h Q
theorem zca.spec(i:zca.Imp C N)(i2:zdf.Imp C N)(i3:zb9.Imp C N)(s1:zbn.Spec C N):zca.Spec C N:=by
 intro g zjf M ps h Q hi hM hlen hMh hq;apply i;simp -dsimp only[zca.cps];apply i2;simp -dsimp only[zdf.cps];apply i3;refine zsl hi hM hlen (by decide) (λk=>rfl) hMh λx' h' D hp o=>?_;refine zbh (zbh ?_);have o':zc6 h h' [.sl 1 x' ((D.map (·.1)).map tc) []]:=by rw[map_map];exact o
 refine s1 h h' x' (D.map (·.1)) [] _ o' (by rw[length_map,hp.length_eq];omega) λh2 L hL hS o2=>?_;exact zbh (hq x' h2 L (hL.trans (hp.map _)) hS o2)
def zcj.Spec(C:z5)(N:zN):Prop:=∀(g:Nat)(zjf:List za)(M:zb->Prop)(ps:zes Int Wk)(h:zb)(Q:zQ),IterK C g zjf M wV ps->(∀h h',h.le h'->M h->M h')->ps.length <= 100000->M h->(∀(x':za)(h':zb),zc6 h h' [.sl 1 x' ((zhj (zcd ps)).map icl) []]->Q x' h')->C (N 515) [.fn g [] zjf] h Q
theorem zcj.spec(i:zcj.Imp C N)(i2:zdj.Imp C N)(i3:zco.Imp C N)(s1:zbl.Spec C N):zcj.Spec C N:=by
 intro g zjf M ps h Q hi hM hlen hMh hq;apply i;simp -dsimp only[zcj.cps];apply i2;simp -dsimp only[zdj.cps];apply i3;refine zsl hi hM hlen (by decide) (λk=>rfl) hMh λx' h' D hp o=>?_;refine zbh (zbh ?_);have o':zc6 h h' [.sl 1 x' ((D.map (·.1)).map icl) []]:=by rw[map_map];exact o
 refine s1 h h' x' (D.map (·.1)) [] _ o' (by rw[length_map,hp.length_eq];omega) λh2 L hL hS o2=>?_;have e:L=zhj (zcd ps):=sortJ_of' (hL.trans (hp.map _)) hS;rw[e]at o2;exact zbh (hq x' h2 o2)
def zrn(s:Lk)(k:Int):zes Nam Int:=match zg2 s.W k with
 | none=>[]
 | some w=>w.held
def zc4.Spec(C:z5)(N:zN):Prop:=∀(h:zb)(s:Lk)(k:Int)(Q:zQ),s.At h->s.Ok->(zrn s k).length <= 100000->(∀(x':za)(h':zb)(L:List Nam),L.Perm (zcd (zrn s k))->SortedB L->zc6 h h' [.sl 1 x' (L.map tc) []]->Q x' h')->C (N 490) [.ptr s.l 0 0,.int .i64 k] h Q
theorem zc4.spec(i:zc4.Imp C N)(hG:zo1 C)(i2:zbk.Imp C N)(i3:zq.Imp C N)(s1:zcz.Spec C N)(s2:zca.Spec C N):zc4.Spec C N:=by
 intro h s k Q hs hk hlen hq;apply i;have e1:=zeg (k:=0) hs.1 rfl;have el:=lkpW hs.2.1 k;refine s1 h s _ hs ?_;cases ew:zg2 s.W k with
 | none=>
  rw[ew]at el;have ep:V.zgk .eql .zk4 .zk4=some (.bool true):=rfl;simp +contextual -dsimp[e1,el,ep,V.fieldAddr];have hw:zrn s k=[]:=by simp[zrn,ew]
  rw[hw]at hq;exact zbh (hq _ _ [] (.refl _) .nil ((zc6.start h).zed 1))
 | some w=>
  rw[ew]at el;obtain⟨n,hn⟩:=zic ew;have hw:=hs.2.2 _ hn;have f1:=zeg (k:=0) hw.1 rfl;have ep:V.zgk .eql (.ptr w.p 0 0) .zk4=some (.bool false):=rfl;have he:zrn s k=w.held:=by simp[zrn,ew]
  rw[he]at hq hlen;simp +contextual -dsimp[e1,el,ep,f1,V.fieldAddr];apply i2;simp -dsimp only[zbk.cps];intro i1 h1;have o1:=(zc6.start h).zns h1 [.mp w.hm];refine zbh ?_;obtain⟨c,g1,g2,g3,g4⟩:=hw.2.1;refine s2 (N 524) [.ptr i1 0 0] _ w.held _ _ (keysS_iter hG i3 (m:=w.hm) g2) (λa b hle ⟨x,y⟩=>⟨hle _ _ x,hle _ _ y⟩) hlen ⟨zb4 ..,o1.le _ _ g1⟩ λx' h' L hL hS o=>?_;exact zbh (hq x' h' L hL hS (o.back o1.le))
variable{C:z5}{N:zN}
structure Itm where
 Code:List UInt8
 Life:Int
 Parts:List Part
 Others:List (List UInt8)
 deriving DecidableEq
def zn9(b:Bool)(x:za)(l:List (List UInt8)):Ob:= .sl 1 x (l.map tc) (bif b then zgh else [])
abbrev Key:=List UInt8
abbrev zrg(l:List Key):Prop:=l.Pairwise λa b=>zgo a b=true
theorem riseB_ext{l m:List Key}(s:zrg l)(t:zrg m)(e:∀x,x∈l↔x∈m):l=m:=
 rise_ext (λa b h1 h2=>by rw[zsa h1]at h2;cases h2) s t e
def zhf:List Key->Key->List Key|[],s=>[s]|x::l,s=>if zgo x s=true then x::zhf l s else if x=s then x::l else s::x::l
theorem znu{s y:Key}:∀{l:List Key},y∈zhf l s↔y=s \/ y∈l
 | []=>by simp[zhf]
 | x::l=>by
  unfold zhf
  split
  ·rw[mem_cons,znu,mem_cons]
   constructor
   ·rintro(h|h|h)
    ·exact .inr (.inl h)
    ·exact .inl h
    ·exact .inr (.inr h)
   ·rintro(h|h|h)
    ·exact .inr (.inl h)
    ·exact .inl h
    ·exact .inr (.inr h)
  ·split
   ·rename_i h
    subst h
    simp only[mem_cons]
    constructor
    ·exact λh=> .inr h
    ·rintro(h|h)
     ·exact .inl h
     ·exact h
   ·simp only[mem_cons]
theorem zqi{s:Key}:∀{l:List Key},zrg l->zrg (zhf l s)
 | [],_=>pairwise_singleton _ _
 | x::l,h=>by
  obtain⟨h1,h2⟩:=pairwise_cons.1 h;unfold zhf;split
  ·rename_i hx
   refine pairwise_cons.2 ⟨λy hy=>?_,zqi h2⟩;rcases znu.1 hy with rfl|hy
   ·exact hx
   ·exact h1 y hy
  ·split
   ·exact h
   ·rename_i h3 h4
    have hs:zgo s x=true:=by
     have:zgo x s=false:=by simpa using h3
     exact lessB_or this h4
    refine pairwise_cons.2 ⟨λy hy=>?_,h⟩;rcases mem_cons.1 hy with rfl|hy
    ·exact hs
    ·exact zku hs (h1 y hy)
section
variable{I J:List Itm}{all inn:List Key}
end
structure DW where
 Id:Int
 ze2:List Key
 zfq:List Key
 zjg:Int
structure DL where
 L:List DW
 zh3:Int
def zke(a b:List Key):Bool:= !a.isEmpty&&(!b.isEmpty&&(decide ([42]∈a)||(decide ([42]∈b)||a.any λx=>decide (x∈b))))
def zit(w:DW)(zfe:List Key)(zhe:Int):Bool:=zke w.ze2 zfe||(decide (0<w.zjg)&&(decide (w.zjg<zhe)&&zke w.zfq zfe))
def findD:List DW->Int->Option DW|[],_=>none|o::r,k=>if o.Id=k then some o else findD r k
def zlz:List DW->Int->DW->List DW|[],_,w=>[w]|o::r,k,w=>if o.Id=k then w::r else o::zlz r k w
def delD:List DW->Int->List DW|[],_=>[]|o::r,k=>if o.Id=k then r else o::delD r k
def zf6(w:DW)(names:List Key):List Key:=names.foldl (λl n=>if n∉w.ze2 /\ [42]∉w.ze2 then zhf l n else l) w.zfq
def ze3(d:DL)(k:Int):DW:=(findD d.L k).getD ⟨k,[],[],0⟩
def zjh(d:DL)(k:Int):Int:=if (ze3 d k).zjg=0 then d.zh3+1 else (ze3 d k).zjg
def zfh(d:DL)(k:Int)(zfe:List Key)(zhe:Int):List Int:=(d.L.filter λo=>decide (o.Id≠k)&&zit o zfe zhe).map (·.Id)
def zjk(d:DL)(k:Int)(names:List Key):Bool×DL:=
 let w:=ze3 d k
 let zfe:=zf6 w names
 let zhe:=zjh d k
 if (zfh d k zfe zhe).isEmpty then (true,⟨zlz d.L k ⟨k,zfe.foldl zhf w.ze2,[],0⟩,d.zh3⟩)
 else (false,⟨zlz d.L k ⟨k,w.ze2,zfe,zhe⟩,max d.zh3 zhe⟩)
def zow(d:DL)(k:Int):DL:=⟨delD d.L k,d.zh3⟩
variable{C:z5}{N:zN}
structure SameW(e:Int×Wk×Nat)(d:DW):Prop where
 id:e.1=d.Id
 held:∀x,x∈zcd e.2.1.held↔x∈d.ze2
 zfe:∀x,x∈zcd e.2.1.zfe↔x∈d.zfq
 zhe:e.2.1.zhe=d.zjg
 riseH:zrg d.ze2
 riseW:zrg d.zfq
inductive zjz:zes Int Wk->List DW->Prop
 | nil:zjz [] []
 | cons {e:Int×Wk×Nat} {d:DW} {W:zes Int Wk} {L:List DW}:SameW e d->zjz W L->zjz (e::W) (d::L)
structure Rel(s:Lk)(d:DL):Prop where
 last:s.last=d.zh3
 zgv:zjz s.W d.L
theorem isEmpty_keys{ps:zes Nam Int}{A:List Key}(h:∀x,x∈zcd ps↔x∈A):ps.isEmpty=A.isEmpty:=by
 cases ps with
 | nil=>cases A with
  | nil=>rfl
  | cons a A=>have:=(h a).2 (mem_cons_self ..);simp[zcd]at this
 | cons p ps=>cases A with
  | nil=>have:=(h p.1).1 (by simp[zcd]);simp at this
  | cons a A=>rfl
theorem meets_eq{a b:zes Nam Int}{A B:List Key}(ha:∀x,x∈zcd a↔x∈A)(hb:∀x,x∈zcd b↔x∈B):zkd a b=zke A B:=by
 unfold zkd zke;rw[isEmpty_keys ha,isEmpty_keys hb,decide_eq_decide.2 (ha [42]),decide_eq_decide.2 (hb [42])];congr 4;rw[Bool.eq_iff_iff,any_eq_true,any_eq_true];constructor
 ·rintro⟨p,hp,h⟩
  exact⟨p.1,(ha _).1 (mem_map.2 ⟨p,hp,rfl⟩),decide_eq_true ((hb _).1 (of_decide_eq_true h))⟩
 ·rintro⟨x,hx,h⟩
  obtain⟨p,hp,rfl⟩:=mem_map.1 ((ha _).2 hx);exact⟨p,hp,decide_eq_true ((hb _).2 (of_decide_eq_true h))⟩
theorem keeps_eq{e:Int×Wk×Nat}{d:DW}(hs:SameW e d){ps:zes Nam Int}{B:List Key}(hb:∀x,x∈zcd ps↔x∈B)(t:Int):zk7 e.2.1 ps t=zit d B t:=by
 unfold zk7 zit;rw[meets_eq hs.held hb,meets_eq hs.zfe hb,hs.zhe]
theorem zjz.get{k:Int}:∀{W:zes Int Wk}{L:List DW},zjz W L->(zg2 W k=none /\ findD L k=none) \/ ∃e d,e∈W /\ d∈L /\ e.1=k /\ zg2 W k=some e.2.1 /\ findD L k=some d /\ SameW e d
 | [],[],_=> .inl ⟨rfl,rfl⟩
 | e::W,d::L,.cons h1 h2=>by
  by_cases hk:e.1=k
  ·exact .inr ⟨e,d,mem_cons_self ..,mem_cons_self ..,hk,by simp[zg2,hk],by simp[findD,<-h1.id,hk],h1⟩
  ·have e1:zg2 (e::W) k=zg2 W k:=by simp[zg2,hk]
   have e2:findD (d::L) k=findD L k:=by simp[findD,<-h1.id,hk]
   rw[e1,e2]
   rcases h2.get (k:=k) with h|⟨e',d',m1,m2,m3⟩
   ·exact .inl h
   ·exact .inr ⟨e',d',mem_cons_of_mem _ m1,mem_cons_of_mem _ m2,m3⟩
theorem zjz.del{k:Int}:∀{W:zes Int Wk}{L:List DW},zjz W L->zjz (znj W k) (delD L k)
 | [],[],_=> .nil
 | e::W,d::L,.cons h1 h2=>by
  unfold znj delD
  rw[<-h1.id]
  split
  ·exact h2
  ·exact .cons h1 h2.del
theorem zp7{K T:Type}[DecidableEq K](k:K):∀ps:zes K T,(znj ps k).Sublist ps
 | []=> .slnil
 | p::r=>by
  unfold znj
  split
  ·exact sublist_cons_self ..
  ·exact(zp7 k r).cons_cons _
def Lk.del(s:Lk)(k:Int):Lk:={ s with W:=znj s.W k }
theorem Lk.Ok.del{s:Lk}(hs:s.Ok)(k:Int):(s.del k).Ok:=⟨hs.zsk.del k,nodup_del hs.nodup k,λe he=>hs.zgv e ((zp7 k s.W).subset he),hs.far.sublist ((zp7 k s.W).map _)⟩
theorem flatMap_sub{α β:Type}(f:α->List β){l m:List α}(h:l.Sublist m):(l.flatMap f).Sublist (m.flatMap f):=by
 induction h with
 | slnil=>exact .slnil
 | cons a _ ih=>rw[flatMap_cons];exact ih.trans (sublist_append_right ..)
 | cons_cons a _ ih=>rw[flatMap_cons,flatMap_cons];exact(List.Sublist.refl _).append ih
def zez.Spec(C:z5)(N:zN):Prop:=∀(h:zb)(Q:zQ),(∀(h':zb)(s:Lk),s.Ok->s.W=[]->s.last=0->zc6 h h' s.obs->Q (.ptr s.l 0 0) h')->C (N 485) [] h Q
theorem zez.spec(i:zez.Imp C N):zez.Spec C N:=by
 intro h Q hq;apply i;simp -dsimp only[zez.cps];refine(zc6.start h).zk5 wV pV λm h1 hm o1 hle=>?_;have eb:A.bld [(0,none,.mp m)] [.zo8,.int .i64 0]=some (.agg [.mp m,.int .i64 0]):=rfl;have ec:A.zkj 2 (.agg [.mp m,.int .i64 0])=some [.mp m,.int .i64 0]:=rfl;simp -dsimp only[eb,ec,B.ze];intro l hl;have o2:=o1.znt hl (b:=zdn [.mp m,.int .i64 0]) rfl;refine zbh (hq _ ⟨l,m,0,0,[]⟩ ⟨zfz.nil 0,List.Pairwise.nil,λe he=>absurd he (not_mem_nil),List.Pairwise.nil⟩ rfl rfl ?_);exact o2.perm (List.Perm.swap _ _ _)
theorem zc6.mdel{h0 h:zb}{l:List Ob}{kd:KD}{K T:Type}[DecidableEq K]{κ:K->za}{v:T->za}(ho:zc6 h0 h l)(i:Nat){id c:Nat}{ps:zes K T}(hi:l[i]?=some (.blk id (ze6 (zid κ v ps) c)))(hκ:KeyE kd κ)(k:K){Q:zQ}(hq:∀h',zc6 h0 h' (l.set i (.blk id (ze6 (zid κ v (znj ps k)) c)))->Q (.tup []) h'):B.mdel h kd (.mp id) (κ k) Q:=objT_blk (ho.at i hi) (fdel_enc hκ k ps c) (hq _ (ho.setBlk i hi rfl))
def zcp.Spec(C:z5)(N:zN):Prop:=∀(h0 h:zb)(s:Lk)(k:Int)(Q:zQ),zc6 h0 h s.obs->s.Ok->(∀h',zc6 h0 h' (s.del k).obs->Q (.tup []) h')->C (N 488) [.ptr s.l 0 0,.int .i64 k] h Q
theorem zcp.spec(i:zcp.Imp C N)(s1:zcz.Spec C N):zcp.Spec C N:=by
 intro h0 h s k Q ho hk hq;have hs:=Lk.at_of ho hk;apply i;have e1:=zeg (k:=0) hs.1 rfl;refine s1 h s _ hs ?_;simp -dsimp only[B.cond_true,B.zb3,V.fieldAddr,Nat.zero_add,B.ze,B.zeh,e1];refine ho.mdel (κ:=wV) (v:=pV) 1 rfl keyI k λh' o=>?_;exact zbh (hq h' (o.sub (.cons_cons _ (.cons_cons _ (flatMap_sub _ (zp7 k s.W))))))
variable{C:z5}{N:zN}
def zng(W:zes Int Wk)(k:Int)(w:Wk):zes Int Wk:=W.map λe=>if e.1=k then (e.1,w,e.2.2) else e
theorem setW_keys(W:zes Int Wk)(k:Int)(w:Wk):zcd (zng W k w)=zcd W:=by
 unfold zcd zng;rw[map_map];refine map_congr_left λe he=>?_;show (if e.1=k then (e.1,w,e.2.2) else e).1=e.1;split<;>rfl
theorem zqe(W:zes Int Wk)(k:Int)(w:Wk):(zng W k w).map (·.2.2)=W.map (·.2.2):=by
 unfold zng;rw[map_map];refine map_congr_left λe he=>?_;show (if e.1=k then (e.1,w,e.2.2) else e).2.2=e.2.2;split<;>rfl
theorem obs_perm{k:Int}{w:Wk}:∀{W:zes Int Wk},zg2 W k=some w->(W.flatMap λe=>e.2.1.obs).Perm (w.obs++(znj W k).flatMap λe=>e.2.1.obs)
 | e::W,h=>by
  unfold zg2 at h
  unfold znj
  split at h
  ·rename_i hk
   rw[if_pos hk]
   cases h
   rw[flatMap_cons]
  ·rename_i hk
   rw[if_neg hk,flatMap_cons,flatMap_cons]
   have:=obs_perm h
   refine(this.append_left _).trans ?_
   rw[<-append_assoc,<-append_assoc]
   exact perm_append_comm.append_right _
theorem zp2{k:Int}{w:Wk}{W:zes Int Wk}(h:k∉zcd W):zng W k w=W:=by
 unfold zng;rw[map_congr_left (g:=id),map_id];intro e he;rw[if_neg]
 ·rfl
 ·intro hk
  exact h (mem_map.2 ⟨e,he,hk⟩)
theorem setW_get{k:Int}{w w':Wk}:∀{W:zes Int Wk},zg2 W k=some w->zg2 (zng W k w') k=some w'
 | e::W,h=>by
  unfold zg2 at h
  show zg2 ((if e.1=k then (e.1,w',e.2.2) else e)::zng W k w') k=some w'
  split at h
  ·rename_i hk
   rw[if_pos hk]
   simp[zg2,hk]
  ·rename_i hk
   rw[if_neg hk]
   simp only[zg2,if_neg hk]
   exact setW_get h
theorem setW_del{k:Int}{w':Wk}:∀{W:zes Int Wk},(zcd W).Nodup->znj (zng W k w') k=znj W k
 | [],_=>rfl
 | e::W,hn=>by
  show znj ((if e.1=k then (e.1,w',e.2.2) else e)::zng W k w') k=znj (e::W) k
  have hn':e.1∉zcd W /\ (zcd W).Nodup:=nodup_cons.1 hn
  by_cases hk:e.1=k
  ·rw[if_pos hk]
   simp only[znj,hk,if_true]
   exact zp2 (by rw[<-hk];exact hn'.1)
  ·rw[if_neg hk]
   simp only[znj,hk,if_false]
   rw[setW_del hn'.2]
theorem setW_enc{k:Int}{w w':Wk}(hp:w'.p=w.p):∀{W:zes Int Wk},(zcd W).Nodup->zg2 W k=some w->zid wV pV (zng W k w')=zid wV pV W
 | e::W,hn,h=>by
  have hn':e.1∉zcd W /\ (zcd W).Nodup:=nodup_cons.1 hn
  show zid wV pV ((if e.1=k then (e.1,w',e.2.2) else e)::zng W k w')=_
  unfold zg2 at h
  split at h
  ·rename_i hk
   rw[if_pos hk,zp2 (by rw[<-hk];exact hn'.1)]
   cases h
   simp only[zid,map_cons,pV,hp]
  ·rename_i hk
   rw[if_neg hk]
   have:=setW_enc hp hn'.2 h
   simp only[zid,map_cons]at this ⊢
   rw[this]
theorem setW_far{k:Int}{w w':Wk}(hp:w'.p=w.p):∀{W:zes Int Wk},(zcd W).Nodup->zg2 W k=some w->(zng W k w').map (·.2.1.p)=W.map (·.2.1.p)
 | e::W,hn,h=>by
  have hn':e.1∉zcd W /\ (zcd W).Nodup:=nodup_cons.1 hn
  show ((if e.1=k then (e.1,w',e.2.2) else e)::zng W k w').map (·.2.1.p)=_
  unfold zg2 at h
  split at h
  ·rename_i hk
   rw[if_pos hk,zp2 (by rw[<-hk];exact hn'.1)]
   cases h
   simp only[map_cons,hp]
  ·rename_i hk
   rw[if_neg hk,map_cons,map_cons,setW_far hp hn'.2 h]
theorem mem_setW{k:Int}{w':Wk}{W:zes Int Wk}{e:Int×Wk×Nat}(he:e∈zng W k w'):e.2.1=w' \/ e∈W:=by
 obtain⟨q,hq,rfl⟩:=mem_map.1 he;split
 ·exact .inl rfl
 ·exact .inr hq
def Lk.put(s:Lk)(k:Int)(w:Wk)(last:Int):Lk:={ s with W:=zng s.W k w,last:=last }
theorem Lk.Ok.put{s:Lk}(hs:s.Ok){k:Int}{w w':Wk}(hw:zg2 s.W k=some w)(hp:w'.p=w.p)(hk:w'.Ok)(last:Int):(s.put k w' last).Ok:=by
 refine⟨⟨λe he=>?_,?_⟩,?_,λe he=>?_,?_⟩
 ·have h1:e.2.2∈(zng s.W k w').map (·.2.2):=mem_map.2 ⟨e,he,rfl⟩
  rw[zqe]at h1;obtain⟨q,hq,e1⟩:=mem_map.1 h1;rw[<-e1];exact hs.zsk.1 q hq
 ·show ((zng s.W k w').map (·.2.2)).Nodup
  rw[zqe];exact hs.zsk.2
 ·show (zcd (zng s.W k w')).Nodup
  rw[setW_keys];exact hs.nodup
 ·rcases mem_setW he with h|h
  ·rw[h];exact hk
  ·exact hs.zgv e h
 ·show ((zng s.W k w').map (·.2.1.p)).Nodup
  rw[setW_far hp hs.nodup hw];exact hs.far
def Lk.fore(s:Lk)(k:Int)(w:Wk)(last:Int):List Ob:= .blk s.l (zdn [.mp s.m,.int .i64 last]):: .blk s.m (ze6 (zid wV pV s.W) s.c)::(w.obs++(znj s.W k).flatMap λe=>e.2.1.obs)
theorem Lk.obs_fore{s:Lk}{k:Int}{w:Wk}(hw:zg2 s.W k=some w):s.obs.Perm (s.fore k w s.last):=((obs_perm hw).cons _).cons _
theorem Lk.put_fore{s:Lk}(hs:s.Ok){k:Int}{w w':Wk}(hw:zg2 s.W k=some w)(hp:w'.p=w.p)(last:Int):(s.put k w' last).obs.Perm (s.fore k w' last):=by
 have h:=Lk.obs_fore (s:=s.put k w' last) (k:=k) (w:=w') (setW_get hw);have e:(s.put k w' last).fore k w' (s.put k w' last).last=s.fore k w' last:=by
  show _::Ob.blk s.m (ze6 (zid wV pV (zng s.W k w')) s.c)::(w'.obs++(znj (zng s.W k w') k).flatMap λe=>e.2.1.obs)=_;rw[setW_enc hp hs.nodup hw,setW_del hs.nodup];rfl
 rw[e]at h;exact h
theorem zo0.put{ps:zes Nam Int}{c:Nat}(h:zo0 ps c)(k:Nam):zo0 (zl2 ps k 1 c) (clkP ps k c):=by
 refine⟨h.1.put k 1,λp hp=>?_,zll h.2.2 k 1 c⟩;have h1:=mem_getP (zll h.2.2 k 1 c) hp;rw[zp5]at h1;split at h1
 ·exact(Option.some.inj h1).symm
 ·obtain⟨n,hn⟩:=zic h1
  exact h.2.1 (p.1,p.2.1,n) hn
theorem zpb{ps:zes Nam Int}{c:Nat}{k x:Nam}:x∈zcd (zl2 ps k 1 c)↔x=k \/ x∈zcd ps:=by
 rw[zlo];split
 ·rename_i h
  constructor
  ·exact .inr
  ·rintro(rfl|h1)
   ·exact h
   ·exact h1
 ·rw[mem_append,mem_singleton,or_comm]
variable{C:z5}{N:zN}
abbrev znl(m:Nat)(ps:zes Nam Int)(c:Nat):Ob:= .blk m (ze6 (zid nV wV ps) c)
def zg.Spec(C:z5)(N:zN):Prop:=∀(h0 h:zb)(a b c d:Nat)(ps qs:zes Nam Int)(rest:List Ob)(Q:zQ),zc6 h0 h (znl a ps c::znl b qs d::rest)->zo0 ps c->zo0 qs d->(∀(h':zb)(ps':zes Nam Int)(c':Nat),zo0 ps' c'->(∀x,x∈zcd ps'↔x∈zcd ps \/ x∈zcd qs)->zc6 h0 h' (znl a ps' c'::znl b qs d::rest)->Q (.tup []) h')->C (N 507) [.mp a,.mp b] h Q
theorem zg.spec(i:zg.Imp C N):zg.Spec C N:=by
 intro h0 h a b c d ps qs rest Q ho hps hqs hq;apply i;have ho':zc6 h0 h ([znl b qs d]++(znl a ps c::rest)):=ho.perm (List.Perm.swap _ _ _);obtain⟨o1,o2⟩:=ho'.out;generalize h.zlf (znl a ps c::rest)=h1 at o1 o2;have hb1:h1 b=some (ze6 (zid nV wV qs) d):=o1.at 0 rfl;simp -dsimp only[zg.cps];refine zc6.rangeLoop (κ:=nV) (v:=wV) (ps:=qs) (c:=d) (J:=λD l=>∃ps' c',l=znl a ps' c'::rest /\ zo0 ps' c' /\ ∀x,x∈zcd ps'↔x∈zcd ps \/ x∈D.map (·.1))
  (REST:=λit v h Y=>B.pv (V.ext 0 v) λv9=>B.cond v9 (B.pv (A.zfp h it) λv10=>B.pv (V.ext 0 v10) λv11=>B.pv (V.ext 1 v10) λv12=>B.mset h .s (.mp a) v11 v12 λh=>Y [] h) (dn Q (.tup []) h)) o2 hb1 hqs.1 ⟨ps,c,rfl,hps,by simp⟩ ?_ ?_ ?_
 ·intro it hh Y hn
  exact hn
 ·rintro it hh D l bb Y ⟨ps',c',rfl,k1,k2⟩ hp o
  simp -dsimp only[V.zg9,getElem?_cons_zero,B.ze,B.cond_false];refine zbh (hq hh ps' c' k1 (λx=>?_) ?_)
  ·rw[k2]
   have:x∈D.map (·.1)↔x∈zcd qs:=(hp.map (·.1)).mem_iff;rw[this]
  ·have o3:zc6 h1 hh (znl a ps' c'::rest):=o.sub (sublist_append_left _ _)
   exact(o1.join o3).perm (List.Perm.swap _ _ _)
 ·rintro it hh D l bb Y p hpm ⟨ps',c',rfl,k1,k2⟩ hsub hpD o he hY
  simp -dsimp only[V.zg9,getElem?_cons_zero,getElem?_cons_succ,B.ze,B.cond_true,he];have e1:p.2.1=1:=hqs.2.1 p hpm;rw[e1];refine o.mset (κ:=nV) (v:=wV) 0 rfl keyS p.1 1 λh' o' _ _=>?_;refine hY h' (znl a (zl2 ps' p.1 1 c') (clkP ps' p.1 c')::rest) ⟨_,_,rfl,k1.put p.1,λx=>?_⟩ o';rw[zpb,k2,map_append,mem_append];constructor
  ·rintro(rfl|h|h)
   ·exact .inr (.inr (by simp))
   ·exact .inl h
   ·exact .inr (.inl h)
  ·rintro(h|h|h)
   ·exact .inr (.inl h)
   ·exact .inr (.inr h)
   ·exact .inl (by simpa using h)
theorem far_ne{k:Int}{w:Wk}:∀{W:zes Int Wk},(zcd W).Nodup->(W.map (·.2.1.p)).Nodup->zg2 W k=some w->∀e∈W,(e.2.1.p=w.p↔e.1=k)
 | q::W,hn,hf,h,e,he=>by
  have hn':q.1∉zcd W /\ (zcd W).Nodup:=nodup_cons.1 hn
  have hf':q.2.1.p∉W.map (·.2.1.p) /\ (W.map (·.2.1.p)).Nodup:=nodup_cons.1 hf
  unfold zg2 at h
  split at h
  ·rename_i hk
   cases h
   rcases mem_cons.1 he with rfl|he
   ·exact⟨λ_=>hk,λ_=>rfl⟩
   ·constructor
    ·intro e1
     exact absurd (mem_map.2 ⟨e,he,e1⟩) hf'.1
    ·intro e1
     exact absurd (mem_map.2 ⟨e,he,by rw[e1,hk]⟩) hn'.1
  ·rename_i hk
   rcases mem_cons.1 he with rfl|he
   ·constructor
    ·intro e1
     obtain⟨n,hm⟩:=zic h
     exact absurd (mem_map.2 ⟨_,hm,e1.symm⟩) hf'.1
    ·intro e1
     exact absurd e1 hk
   ·exact far_ne hn'.2 hf'.2 h e he
theorem zse{f:Int×Wk×Nat->Bool}{g:DW->Bool}:∀{W:zes Int Wk}{L:List DW},zjz W L->(∀e d,e∈W->SameW e d->f e=g d)->(W.filter f).map (·.1)=(L.filter g).map (·.Id)
 | [],[],_,_=>rfl
 | e::W,d::L,.cons h1 h2,h=>by
  have e1:=h e d (mem_cons_self ..) h1
  have ih:=zse h2 λq r hq hr=>h q r (mem_cons_of_mem _ hq) hr
  rw[filter_cons,filter_cons,e1]
  split
  ·rw[map_cons,map_cons,ih,h1.id]
  ·exact ih
theorem kept_rel{W:zes Int Wk}{L:List DW}(hL:zjz W L)(hn:(zcd W).Nodup)(hf:(W.map (·.2.1.p)).Nodup){k:Int}{w:Wk}(hw:zg2 W k=some w){ps:zes Nam Int}{B:List Key}(hb:∀x,x∈zcd ps↔x∈B)(t:Int):
  (W.filter (zk8 w.p ps t)).map (·.1)=(L.filter λo=>decide (o.Id≠k)&&zit o B t).map (·.Id):=by
 refine zse hL λe d he hs=>?_;unfold zk8;rw[keeps_eq hs hb,decide_eq_decide.2 (not_congr ((far_ne hn hf hw e he).trans (by rw[hs.id])))]
theorem zjz.set{k:Int}{w w':Wk}{d':DW}(hd:d'.Id=k)(hs:∀n,SameW (k,w',n) d'):∀{W:zes Int Wk}{L:List DW},zjz W L->(zcd W).Nodup->zg2 W k=some w->zjz (zng W k w') (zlz L k d')
 | e::W,d::L,.cons h1 h2,hn,h=>by
  have hn':e.1∉zcd W /\ (zcd W).Nodup:=nodup_cons.1 hn
  show zjz ((if e.1=k then (e.1,w',e.2.2) else e)::zng W k w') _
  unfold zg2 at h
  unfold zlz
  rw[<-h1.id]
  split at h
  ·rename_i hk
   rw[if_pos hk,if_pos hk,zp2 (by rw[<-hk];exact hn'.1)]
   refine .cons ?_ h2
   rw[hk]
   exact hs _
  ·rename_i hk
   rw[if_neg hk,if_neg hk]
   exact .cons h1 (h2.set hd hs hn'.2 h)
theorem zra{k:Int}{d':DW}(hd:d'.Id=k)(g:DW->Bool):∀{L:List DW}{dd:DW},findD L k=some dd->(L.map (·.Id)).Nodup->((zlz L k d').filter λo=>decide (o.Id≠k)&&g o)=L.filter λo=>decide (o.Id≠k)&&g o
 | o::L,dd,h,hn=>by
  unfold findD at h
  unfold zlz
  split at h
  ·rename_i hk
   rw[if_pos hk,filter_cons,filter_cons]
   simp[hd,hk]
  ·rename_i hk
   rw[if_neg hk,filter_cons,filter_cons,zra hd g h (nodup_cons.1 hn).2]
theorem zjz.ids:∀{W:zes Int Wk}{L:List DW},zjz W L->L.map (·.Id)=zcd W
 | [],[],_=>rfl
 | e::W,d::L,.cons h1 h2=>by
  rw[map_cons,zkg,h2.ids,h1.id]
theorem zqd(l:List Int):(zhj l).length=l.length:=(zfr l).length_eq
variable{C:z5}{N:zN}
theorem zc6.blkSt{h0 h:zb}{l:List Ob}(ho:zc6 h0 h l)(i:Nat){id off:Nat}{cs:List za}{v:za}{K:zb->Prop}(hi:l[i]?=some (.blk id (zdn cs)))(hv:v.zec=true)(hoff:off<cs.length)
  (hK:∀h',zc6 h0 h' (l.set i (.blk id (zdn (cs.set off v))))->K h'):B.st h (.ptr id 0 off) v K:=by
 show A.st h (.ptr id 0 off) v K;rw[st_at (ho.at i hi) hv hoff];exact hK _ (ho.setBlk i hi rfl)
theorem zmn{x:Key}:∀{B H:List Key},x∈B.foldl zhf H↔x∈H \/ x∈B
 | [],H=>by simp
 | b::B,H=>by
  rw[foldl_cons,zmn,znu,mem_cons]
  constructor
  ·rintro((h|h)|h)
   ·exact .inr (.inl h)
   ·exact .inl h
   ·exact .inr (.inr h)
  ·rintro(h|h|h)
   ·exact .inl (.inr h)
   ·exact .inl (.inl h)
   ·exact .inr h
theorem zlj:∀{B H:List Key},zrg H->zrg (B.foldl zhf H)
 | [],H,h=>h
 | b::B,H,h=>by rw[foldl_cons];exact zlj (zqi h)
theorem ask_k1{h0 h:zb}{s:Lk}{k:Int}{w:Wk}{ps:zes Nam Int}{c:Nat}{t:Int}{d:DL}{dd:DW}{Z:List Key}{Q:zQ}(s3:zbg.Spec C N)(s4:zg.Spec C N)
  (hs:s.Ok) (hlen:s.W.length <= 100000) (hw:zg2 s.W k=some w) (hps:zo0 ps c) (ho:zc6 h0 h (s.fore k { w with zfe:=ps,wc:=c } s.last)) (hr:Rel s d) (hd:findD d.L k=some dd) (hsw:∀n,SameW (k,w,n) dd)
  (hB:∀x,x∈zcd ps↔x∈Z) (hRB:zrg Z)
  (hq:∀(h':zb)(s':Lk),s'.Ok->zc6 h0 h' s'.obs->s'.W.length=s.W.length->s'.l=s.l ->
   Rel s' (if (zfh d k Z t).isEmpty then ⟨zlz d.L k ⟨k,Z.foldl zhf dd.ze2,[],0⟩,d.zh3⟩ else ⟨zlz d.L k ⟨k,dd.ze2,Z,t⟩,max d.zh3 t⟩)->Q (.bool (zfh d k Z t).isEmpty) h'):
  zu.k1 C N (dn Q) (.ptr s.l 0 0) (.ptr w.p 0 0) (.int .i64 t) h:=by
 have hwok:w.Ok:=by
  obtain⟨n,hn⟩:=zic hw;exact hs.zgv _ hn
 have hok:(s.put k { w with zfe:=ps,wc:=c } s.last).Ok:=hs.put (w':={ w with zfe:=ps,wc:=c }) hw rfl ⟨hwok.held,hps⟩ s.last;have hat:=Lk.at_of (ho.perm (Lk.put_fore hs hw (w':={ w with zfe:=ps,wc:=c }) rfl s.last).symm) hok;have p2:h w.p=some (zdn [.mp w.hm,.mp w.wm,.int .i64 w.zhe]):=ho.at 2 rfl;have p4:zpw h w.wm ps:=⟨c,ho.at 4 rfl,hps⟩;have e2:=zeg (k:=1) p2 rfl;simp -dsimp only[zu.k1,B.zb3,V.fieldAddr,Nat.zero_add,B.ze,B.zeh,e2]
 have hlen2:(s.put k { w with zfe:=ps,wc:=c } s.last).W.length <= 100000:=by
  show (zng s.W k _).length <= _;unfold zng;rw[length_map];exact hlen
 obtain⟨s2,hs2⟩:∃x,x=s.put k { w with zfe:=ps,wc:=c } s.last:=⟨_,rfl⟩;have l2:s2.l=s.l:=by rw[hs2];rfl
 rw[<-hs2]at hat hok hlen2;have r3:=λQ=>s3 h s2 w.p w.wm _ ps t Q hat hok hlen2 p2 p4;rw[l2]at r3;refine r3 _ λx' h1 ox=>?_;have hle:h.le h1:=ox.le;have hx:=(ox.zj4 0 rfl).zde;have hk2:(s2.W.filter (zk8 w.p ps t)).map (·.1)=zfh d k Z t:=by
  have hsl:zjz s2.W (zlz d.L k ⟨k,dd.ze2,Z,dd.zjg⟩):=by
   rw[hs2];exact hr.zgv.set (w':={ w with zfe:=ps,wc:=c }) (d':=⟨k,dd.ze2,Z,dd.zjg⟩) rfl (λn=>⟨rfl,(hsw n).held,hB,(hsw n).zhe,(hsw n).riseH,hRB⟩) hs.nodup hw
  have hg:zg2 s2.W k=some { w with zfe:=ps,wc:=c }:=by rw[hs2];exact setW_get hw
  have h5:=kept_rel hsl hok.nodup hok.far hg hB t;rw[zra (k:=k) (d':=⟨k,dd.ze2,Z,dd.zjg⟩) rfl _ hd (by rw[hr.zgv.ids];exact hs.nodup)]at h5;exact h5
 have hkl:keptL s2 w.p ps t=zhj (zfh d k Z t):=by unfold keptL;rw[hk2]
 rw[hkl,length_map,zqd]at hx;have o1:=ho.grow hle;simp -dsimp only[hx,B.ze,V.znc];refine B.zbe (λhc=>?_) (λhc=>?_)
 ·have hne:(zfh d k Z t).isEmpty=false:=by
   rw[decide_eq_true_eq]at hc;cases hl:zfh d k Z t with
   | nil=>rw[hl]at hc;simp at hc
   | cons _ _=>rfl
  rw[hne]at hq;have q0:h1 s.l=some (zdn [.mp s.m,.int .i64 s.last]):=o1.at 0 rfl;have f0:=zeg (k:=1) q0 rfl;simp -dsimp only[B.zb3,V.fieldAddr,Nat.zero_add,B.zeh,f0,B.ze,V.max2_int];refine o1.blkSt 2 rfl rfl (by simp) λh2 o2=>?_;simp -dsimp only[B.zb3,V.fieldAddr,Nat.zero_add,B.ze];refine o2.blkSt 0 rfl rfl (by simp) λh3 o3=>?_;have o3':zc6 h0 h3 (s.fore k { w with zfe:=ps,wc:=c,zhe:=t } (max s.last t)):=o3;refine zbh (hq h3 (s.put k { w with zfe:=ps,wc:=c,zhe:=t } (max s.last t)) (hs.put (w':={ w with zfe:=ps,wc:=c,zhe:=t }) hw rfl ⟨hwok.held,hps⟩ _) (o3'.perm (Lk.put_fore (w':={ w with zfe:=ps,wc:=c,zhe:=t }) hs hw rfl _).symm) ?_ rfl ⟨by rw[hr.last];rfl,?_⟩)
  ·show (zng s.W k _).length=_
   unfold zng;rw[length_map]
  ·exact hr.zgv.set (w':={ w with zfe:=ps,wc:=c,zhe:=t }) (d':=⟨k,dd.ze2,Z,t⟩) rfl (λn=>⟨rfl,(hsw n).held,hB,rfl,(hsw n).riseH,hRB⟩) hs.nodup hw
 ·have hne:(zfh d k Z t).isEmpty=true:=by
   rw[decide_eq_false_iff_not]at hc;cases hl:zfh d k Z t with
   | nil=>rfl
   | cons _ _=>rw[hl]at hc;simp at hc
  rw[hne]at hq;have q2:h1 w.p=some (zdn [.mp w.hm,.mp w.wm,.int .i64 w.zhe]):=o1.at 2 rfl;have f0:=zeg (k:=0) q2 rfl;have f1:=zeg (k:=1) q2 rfl;simp -dsimp only[B.zb3,V.fieldAddr,Nat.zero_add,B.zeh,f0,f1,B.ze];have o2:zc6 h0 h1 (znl w.hm w.held w.hc::znl w.wm ps c::[.blk s.l (zdn [.mp s.m,.int .i64 s.last]),.blk s.m (ze6 (zid wV pV s.W) s.c),.blk w.p (zdn [.mp w.hm,.mp w.wm,.int .i64 w.zhe])]++(znj s.W k).flatMap λe=>e.2.1.obs):=o1.perm (by
   show List.Perm ([_,_,_]++([znl w.hm w.held w.hc,znl w.wm ps c]++_)) ([znl w.hm w.held w.hc,znl w.wm ps c]++([_,_,_]++_));rw[<-append_assoc,<-append_assoc];exact perm_append_comm.append_right _)
  refine s4 h0 h1 w.hm w.wm w.hc c w.held ps _ _ o2 hwok.held hps λh2 ps' c' k1 k2 o3=>?_;refine o3.zk5 nV wV λm2 h3 hm o4 hle3=>?_;simp -dsimp only[B.zb3,V.fieldAddr,Nat.zero_add,B.ze];refine o4.blkSt 4 rfl rfl (by simp) λh4 o5=>?_;simp -dsimp only[B.zb3,V.fieldAddr,Nat.zero_add,B.ze];refine o5.blkSt 4 rfl rfl (by simp) λh5 o6=>?_;have o7:zc6 h0 h5 (znl w.hm ps' c':: .blk s.l (zdn [.mp s.m,.int .i64 s.last]):: .blk s.m (ze6 (zid wV pV s.W) s.c):: .blk w.p (zdn [.mp w.hm,.mp m2,.int .i64 0])::(((znj s.W k).flatMap λe=>e.2.1.obs)++[znl m2 [] 0])):=o6.sub (.cons_cons _ (.cons _ (List.Sublist.refl _)))
  have o8:zc6 h0 h5 (s.fore k { w with held:=ps',hc:=c',wm:=m2,zfe:=[],wc:=0,zhe:=0 } s.last):=o7.perm (by
   show List.Perm ([znl w.hm ps' c']++([_,_,_]++(_++[znl m2 [] 0]))) ([_,_,_]++([znl w.hm ps' c']++([znl m2 [] 0]++_)));refine((perm_append_comm (l₁:=(znj s.W k).flatMap λe=>e.2.1.obs) (l₂:=[znl m2 [] 0])).append_left _ |>.append_left _).trans ?_;exact perm_append_comm_assoc _ _ _)
  have hnil:zo0 [] 0:=⟨zfz.nil 0,λp hp=>absurd hp (not_mem_nil),List.Pairwise.nil⟩;refine zbh (hq h5 (s.put k { w with held:=ps',hc:=c',wm:=m2,zfe:=[],wc:=0,zhe:=0 } s.last) (hs.put (w':={ w with held:=ps',hc:=c',wm:=m2,zfe:=[],wc:=0,zhe:=0 }) hw rfl ⟨k1,hnil⟩ _) (o8.perm (Lk.put_fore (w':={ w with held:=ps',hc:=c',wm:=m2,zfe:=[],wc:=0,zhe:=0 }) hs hw rfl _).symm) ?_ rfl ⟨hr.last,?_⟩)
  ·show (zng s.W k _).length=_
   unfold zng;rw[length_map]
  ·refine hr.zgv.set (w':={ w with held:=ps',hc:=c',wm:=m2,zfe:=[],wc:=0,zhe:=0 }) (d':=⟨k,Z.foldl zhf dd.ze2,[],0⟩) rfl (λn=>⟨rfl,λx=>?_,λx=>?_,rfl,zlj (hsw n).riseH,List.Pairwise.nil⟩) hs.nodup hw
   ·rw[zmn,<-(hsw n).held x,<-hB x]
    exact k2 x
   ·exact Iff.rfl
variable{C:z5}{N:zN}
theorem zrx(w:DW)(names:List Key){i:Nat}(h:i<names.length):zf6 w (names.take (i+1))=if names[i]∉w.ze2 /\ [42]∉w.ze2 then zhf (zf6 w (names.take i)) names[i] else zf6 w (names.take i):=by
 unfold zf6;rw[take_add_one,getElem?_eq_getElem h,foldl_append];rfl
theorem wantD_rise{w:DW}(hr:zrg w.zfq)(names:List Key):zrg (zf6 w names):=by
 unfold zf6;generalize w.zfq=l at hr
 induction names generalizing l with
 | nil=>exact hr
 | cons n r ih=>
  rw[foldl_cons];refine ih _ ?_;split
  ·exact zqi hr
  ·exact hr
theorem ask_loop{h0 h:zb}{s:Lk}{k:Int}{w:Wk}{d:DL}{dd:DW}{names:List Key}{x:za}{R:List (List za)}{Q:zQ}(s2:zb6.Spec C N)(s3:zbg.Spec C N)(s4:zg.Spec C N)
  (hs:s.Ok) (hlen:s.W.length <= 100000) (hw:zg2 s.W k=some w) (ho:zc6 h0 h s.obs) (hr:Rel s d) (hd:findD d.L k=some dd) (hsw:∀n,SameW (k,w,n) dd) (hx:SlX h0 1 x (names.map tc) R) (hn:names.length <= 100000) (hl1: -1000000000 <= s.last) (hl2:s.last <= 1000000000)
  (hq:∀(h':zb)(s':Lk),s'.Ok->zc6 h0 h' s'.obs->s'.W.length=s.W.length->s'.l=s.l->Rel s' (zjk d k names).2->Q (.bool (zjk d k names).1) h'):
  z0 (zu.l4 C N (dn Q) (.ptr s.l 0 0) (.ptr w.p 0 0) x (.int .i64 (names.length:Int))) [(.int .i64 0)] h:=by
 have hwok:w.Ok:=by
  obtain⟨n,hn⟩:=zic hw;exact hs.zgv _ hn
 have hwD:ze3 d k=dd:=by simp[ze3,hd]
 refine z0.intro (λt vs hh=>∃(i:Nat)(ps:zes Nam Int)(c:Nat),i+t=names.length /\ vs=[.int .i64 (i:Int)] /\ zo0 ps c /\ (∀y,y∈zcd ps↔y∈zf6 dd (names.take i)) /\ zc6 h0 hh (s.fore k { w with zfe:=ps,wc:=c } s.last)) names.length ?_
  ⟨0,w.zfe,w.wc,by omega,rfl,hwok.zfe,(hsw 0).zfe,ho.perm (Lk.obs_fore hw)⟩
 rintro Y t vs hh ⟨i,ps,c,hit,rfl,hps,hmem,o⟩ hY;have p2:hh w.p=some (zdn [.mp w.hm,.mp w.wm,.int .i64 w.zhe]):=o.at 2 rfl;have p3:zpw hh w.hm w.held:=⟨w.hc,o.at 3 rfl,hwok.held⟩;have e0:=zeg (k:=0) p2 rfl;have e1:=zeg (k:=1) p2 rfl;have e2:=zeg (k:=2) p2 rfl;have hxx:=hx.mono o.le;simp -dsimp only[zu.l4,zu.k3,V.zey,B.ze];refine B.zbe (λhc=>?_) (λhc=>?_)
 ·have hi:i<names.length:=by have:=of_decide_eq_true hc;omega
  have g1:(names.map tc)[i]?=some (tc names[i]):=by rw[getElem?_map,getElem?_eq_getElem hi];rfl
  have i1:V.zda 1 x (.int .i64 (i:Int))=some (elp 1 x i 0):=hxx.zmq (by simpa using hi);have c1:A.ldv hh (elp 1 x i 0)=some (.str names[i]):=hxx.cell g1;simp -dsimp only[B.zb3,V.fieldAddr,Nat.zero_add,B.zeh,i1,c1,e0,B.ze];refine s2 hh w.hm w.held names[i] _ p3 ?_;simp +contextual -dsimp[e0,V.fieldAddr];refine B.gdb_call (λ_ _ hq=>s2 hh w.hm w.held [42] _ p3 hq) ?_;simp +contextual -dsimp[V.fieldAddr];have hh1:=(hsw 0).held names[i];have hh2:=(hsw 0).held [42];refine B.zbe (λhd=>?_) (λhd=>?_)
  ·have hcond:names[i]∉dd.ze2 /\ [42]∉dd.ze2:=by
    simp at hd;exact⟨λh=>hd.1 (hh1.2 h),λh=>hd.2 (hh2.2 h)⟩
   simp -dsimp only[B.zb3,V.fieldAddr,Nat.zero_add,B.zeh,e1,B.ze];refine o.mset (κ:=nV) (v:=wV) 4 rfl keyS names[i] 1 λh' o' _ _=>?_;simp -dsimp only[zgm (show i<4611686018427387904 by omega),B.ze];refine hY (t-1) _ _ (by omega) ⟨i+1,zl2 ps names[i] 1 c,clkP ps names[i] c,by omega,rfl,hps.put _,λy=>?_,o'⟩;rw[zrx dd names hi,if_pos hcond,zpb,znu,hmem]
  ·have hcond:¬ (names[i]∉dd.ze2 /\ [42]∉dd.ze2):=by
    rintro⟨h1,h2⟩;have q1:names[i]∉zcd w.held:=λh=>h1 (hh1.1 h);have q2:[42]∉zcd w.held:=λh=>h2 (hh2.1 h);simp[q1,q2]at hd
   simp -dsimp only[zgm (show i<4611686018427387904 by omega),B.ze];refine hY (t-1) _ _ (by omega) ⟨i+1,ps,c,by omega,rfl,hps,λy=>?_,o⟩;rw[zrx dd names hi,if_neg hcond,hmem]
 ·have hi:i=names.length:=by have:=of_decide_eq_false hc;omega
  rw[hi,take_length]at hmem;simp -dsimp only[B.zb3,V.fieldAddr,Nat.zero_add,B.zeh,e2,B.ze,zu.k2];have hfin:∀u,zjh d k=u->zu.k1 C N (dn Q) (.ptr s.l 0 0) (.ptr w.p 0 0) (.int .i64 u) hh:=λu hu=>by
   refine ask_k1 s3 s4 hs hlen hw hps o hr hd hsw hmem (wantD_rise (hsw 0).riseW names) λh' s' k1 k2 k3 k4 k5=>?_
   have ha:zjk d k names=(if (zfh d k (zf6 dd names) u).isEmpty then (true,⟨zlz d.L k ⟨k,(zf6 dd names).foldl zhf dd.ze2,[],0⟩,d.zh3⟩) else (false,⟨zlz d.L k ⟨k,dd.ze2,zf6 dd names,u⟩,max d.zh3 u⟩)):=by
    unfold zjk;rw[hwD,hu]
   rw[ha]at hq;cases hb:(zfh d k (zf6 dd names) u).isEmpty with
   | true=>
    rw[hb]at hq k5;exact hq h' s' k1 k2 k3 k4 k5
   | false=>
    rw[hb]at hq k5;exact hq h' s' k1 k2 k3 k4 k5
  have ht:=(hsw 0).zhe;have ee:V.bin .eql (.int .i64 w.zhe) (.int .i64 0)=some (.bool (decide (w.zhe=0))):=by simp
  simp -dsimp only[ee,B.ze];refine B.zbe (λhc=>?_) (λhc=>?_)
  ·have hc:=of_decide_eq_true hc
   have q0:hh s.l=some (zdn [.mp s.m,.int .i64 s.last]):=o.at 0 rfl;have f0:=zeg (k:=1) q0 rfl;have ea:V.bin .add (.int .i64 s.last) (.int .i64 1)=some (.int .i64 (s.last+1)):=by rw[V.zia,wrap_i64 (by omega) (by omega)]
   simp -dsimp only[B.zb3,V.fieldAddr,Nat.zero_add,B.zeh,f0,ea,B.ze];refine hfin _ ?_;unfold zjh;rw[hwD,if_pos (by rw[<-ht];exact hc),hr.last]
  ·have hc:=of_decide_eq_false hc
   refine hfin _ ?_;unfold zjh;rw[hwD,if_neg (by rw[<-ht];exact hc)];exact ht.symm
variable{C:z5}{N:zN}
theorem zq9{k:Int}{w:DW}(hw:w.Id=k):∀{L:List DW},findD L k=none->findD (L++[w]) k=some w
 | [],_=>by simp[findD,hw]
 | o::L,h=>by
  unfold findD at h
  split at h
  ·cases h
  ·rename_i hk
   show findD (o::(L++[w])) k=some w
   unfold findD
   rw[if_neg hk]
   exact zq9 hw h
theorem setD_app{k:Int}{w w':DW}(hw:w.Id=k):∀{L:List DW},findD L k=none->zlz (L++[w]) k w'=zlz L k w'
 | [],_=>by simp[zlz,hw]
 | o::L,h=>by
  unfold findD at h
  split at h
  ·cases h
  ·rename_i hk
   show zlz (o::(L++[w])) k w'=zlz (o::L) k w'
   unfold zlz
   rw[if_neg hk,if_neg hk,setD_app hw h]
theorem askD_new{d:DL}{k:Int}(names:List Key)(h:findD d.L k=none):zjk ⟨d.L++[⟨k,[],[],0⟩],d.zh3⟩ k names=zjk d k names:=by
 have h1:=zq9 (w:=⟨k,[],[],0⟩) rfl h;have hw:ze3 ⟨d.L++[⟨k,[],[],0⟩],d.zh3⟩ k=ze3 d k:=by simp[ze3,h,h1]
 have ht:zjh ⟨d.L++[⟨k,[],[],0⟩],d.zh3⟩ k=zjh d k:=by unfold zjh;rw[hw]
 have hk:∀w t,zfh ⟨d.L++[⟨k,[],[],0⟩],d.zh3⟩ k w t=zfh d k w t:=λw t=>by
  unfold zfh;rw[filter_append];simp
 unfold zjk;rw[hw,ht];simp only[hk];rw[setD_app rfl h,setD_app rfl h]
theorem zjz.app{e:Int×Wk×Nat}{w:DW}(hs:SameW e w):∀{W:zes Int Wk}{L:List DW},zjz W L->zjz (W++[e]) (L++[w])|[],[],_=> .cons hs .nil|e'::W,d::L,.cons h1 h2=> .cons h1 (h2.app hs)
theorem putP_none{k:Int}{w:Wk}{c:Nat}:∀{W:zes Int Wk},zg2 W k=none->zl2 W k w c=W++[(k,w,c)]
 | [],_=>rfl
 | e::W,h=>by
  unfold zg2 at h
  split at h
  ·cases h
  ·rename_i hk
   unfold zl2
   rw[if_neg hk,putP_none h]
   rfl
def zu.Spec(C:z5)(N:zN):Prop:=∀(h0 h:zb)(s:Lk)(d:DL)(k:Int)(names:List Key)(x:za)(R:List (List za))(Q:zQ),zc6 h0 h s.obs->s.Ok->Rel s d->s.W.length<100000->SlX h0 1 x (names.map tc) R->names.length <= 100000-> -1000000000 <= s.last->s.last <= 1000000000->(∀(h':zb)(s':Lk),s'.Ok->zc6 h0 h' s'.obs->s'.W.length <= s.W.length+1->s'.l=s.l->Rel s' (zjk d k names).2->Q (.bool (zjk d k names).1) h')->C (N 489) [.ptr s.l 0 0,.int .i64 k,x] h Q
theorem zu.spec(i:zu.Imp C N)(s1:zcz.Spec C N)(s2:zb6.Spec C N)(s3:zbg.Spec C N)(s4:zg.Spec C N):zu.Spec C N:=by
 intro h0 h s d k names x R Q ho hk hr hlen hx hn hl1 hl2 hq;have hs:=Lk.at_of ho hk;apply i;have e1:=zeg (k:=0) hs.1 rfl;have el:=lkpW hs.2.1 k;refine s1 h s _ hs ?_;simp -dsimp only[V.zfn,Bool.not_true,B.ze,B.cond_false,zu.k6,B.zb3,V.fieldAddr,Nat.zero_add,B.zeh,e1];have hxl:=fun{hh:zb}(hle:h0.le hh)=>(hx.mono hle).zde;rw[length_map]at hxl;rcases hr.zgv.get (k:=k) with⟨w1,w2⟩|⟨e,dd,m1,m2,m3,w1,w2,hsw⟩
 ·rw[w1]at el
  have ep:V.zgk .eql .zk4 .zk4=some (.bool true):=rfl;simp -dsimp only[el,B.ze,zu.k5,ep,B.cond_true];refine ho.zk5 nV wV λhm h1 f1 o1 l1=>?_;refine o1.zk5 nV wV λwm h2 f2 o2 l2=>?_;have eb:A.bld [(0,none,.mp hm),(1,none,.mp wm)] [.zo8,.zo8,.int .i64 0]=some (.agg [.mp hm,.mp wm,.int .i64 0]):=rfl;have ec:A.zkj 3 (.agg [.mp hm,.mp wm,.int .i64 0])=some [.mp hm,.mp wm,.int .i64 0]:=rfl;simp -dsimp only[eb,ec,B.ze];intro p hp;have o3:=o2.znt hp (b:=zdn [.mp hm,.mp wm,.int .i64 0]) rfl;have q0:upd h2 p (zdn [.mp hm,.mp wm,.int .i64 0]) s.l=some (zdn [.mp s.m,.int .i64 s.last]):=o3.at 0 rfl;have f0:=zeg (k:=0) q0 rfl;simp -dsimp only[B.zb3,V.fieldAddr,Nat.zero_add,B.zeh,f0,B.ze];refine o3.mset (κ:=wV) (v:=pV) 1 rfl keyI k ⟨p,hm,wm,0,0,[],[],0⟩ λh4 o4 _ _=>?_;simp -dsimp only[hxl o4.le,B.ze];have hput:zl2 s.W k ⟨p,hm,wm,0,0,[],[],0⟩ s.c=s.W++[(k,⟨p,hm,wm,0,0,[],[],0⟩,s.c)]:=putP_none w1;have hnil:zo0 [] 0:=⟨zfz.nil 0,λp hp=>absurd hp (not_mem_nil),List.Pairwise.nil⟩;obtain⟨s5,hs5⟩:∃s5:Lk,s5={ s with W:=zl2 s.W k ⟨p,hm,wm,0,0,[],[],0⟩ s.c,c:=clkP s.W k s.c }:=⟨_,rfl⟩;have hW5:s5.W=s.W++[(k,⟨p,hm,wm,0,0,[],[],0⟩,s.c)]:=by rw[hs5];exact hput
  have o5:zc6 h0 h4 s5.obs:=o4.perm (by
   have e5:s5.obs=[.blk s.l (zdn [.mp s.m,.int .i64 s.last]),.blk s.m (ze6 (zid wV pV (zl2 s.W k ⟨p,hm,wm,0,0,[],[],0⟩ s.c)) (clkP s.W k s.c))]++((s.W.flatMap λe=>e.2.1.obs)++[.blk p (zdn [.mp hm,.mp wm,.int .i64 0]),znl hm [] 0,znl wm [] 0]):=by
    unfold Lk.obs;rw[hW5,flatMap_append];rw[hs5,hput];rfl
   rw[e5];show List.Perm ([_,_]++((((s.W.flatMap λe=>e.2.1.obs)++[znl hm [] 0])++[znl wm [] 0])++[.blk p (zdn [.mp hm,.mp wm,.int .i64 0])])) _;refine List.Perm.append_left _ ?_;rw[append_assoc,append_assoc];refine List.Perm.append_left _ ?_;exact perm_append_comm (l₁:=[znl hm [] 0,znl wm [] 0]) (l₂:=[.blk p (zdn [.mp hm,.mp wm,.int .i64 0])]))
  have k5:s5.Ok:=by
   refine⟨?_,?_,?_,?_⟩
   ·rw[hs5];exact hk.zsk.put k _
   ·rw[hs5];exact zll hk.nodup k _ _
   ·intro e he
    rw[hW5]at he;rcases mem_append.1 he with he|he
    ·exact hk.zgv e he
    ·rw[mem_singleton.1 he];exact⟨hnil,hnil⟩
   ·rw[hW5,map_append,nodup_append]
    refine⟨hk.far,by simp,λa ha b hb=>?_⟩;obtain⟨e,he,rfl⟩:=mem_map.1 ha;have hb:b=p:=by simpa using hb
    rw[hb];intro hab;have h7:=(zb.le_trans l1 l2) _ _ (hs.2.2 e he).1;rw[hab,hp]at h7;cases h7
  have r5:Rel s5 ⟨d.L++[⟨k,[],[],0⟩],d.zh3⟩:=⟨by rw[hs5];exact hr.last,by
   rw[hW5];exact hr.zgv.app ⟨rfl,λx=>Iff.rfl,λx=>Iff.rfl,rfl,List.Pairwise.nil,List.Pairwise.nil⟩⟩
  have g5:zg2 s5.W k=some ⟨p,hm,wm,0,0,[],[],0⟩:=by rw[hs5];show zg2 (zl2 _ _ _ _) k=_;rw[zp5,if_pos rfl]
  have l5:s5.l=s.l:=by rw[hs5]
  have n5:s5.W.length=s.W.length+1:=by rw[hW5];simp
  have a5:s5.last=s.last:=by rw[hs5]
  have:=ask_loop (x:=x) (names:=names) (Q:=Q) s2 s3 s4 k5 (by omega) g5 o5 r5 (zq9 rfl w2) (λn=>⟨rfl,λx=>Iff.rfl,λx=>Iff.rfl,rfl,List.Pairwise.nil,List.Pairwise.nil⟩) hx hn (by omega) (by omega) λh' s' q1 q2 q3 q4 q5=>by
   rw[askD_new names w2]at q5 ⊢;exact hq h' s' q1 q2 (by omega) (by rw[q4,l5]) q5
  rw[l5]at this;exact this
 ·rw[w1]at el
  have ep:V.zgk .eql (.ptr e.2.1.p 0 0) .zk4=some (.bool false):=rfl;simp -dsimp only[el,B.ze,zu.k5,ep,B.cond_false,hxl ho.le];exact ask_loop s2 s3 s4 hk (by omega) w1 ho hr w2 (λn=>⟨by rw[<-m3];exact hsw.id,hsw.held,hsw.zfe,hsw.zhe,hsw.riseH,hsw.riseW⟩) hx hn hl1 hl2 λh' s' q1 q2 q3 q4 q5=>hq h' s' q1 q2 (by omega) q4 q5
variable{C:z5}{N:zN}
def SetI(ps:zes Int Int)(c:Nat):Prop:=zfz ps c /\ (∀p∈ps,p.2.1=1) /\ (zcd ps).Nodup
abbrev zqf(m:Nat)(ps:zes Int Int)(c:Nat):Ob:= .blk m (ze6 (zid wV wV ps) c)
theorem SetI.put{ps:zes Int Int}{c:Nat}(h:SetI ps c)(k:Int):SetI (zl2 ps k 1 c) (clkP ps k c):=by
 refine⟨h.1.put k 1,λp hp=>?_,zll h.2.2 k 1 c⟩;have h1:=mem_getP (zll h.2.2 k 1 c) hp;rw[zp5]at h1;split at h1
 ·exact(Option.some.inj h1).symm
 ·obtain⟨n,hn⟩:=zic h1
  exact h.2.1 (p.1,p.2.1,n) hn
theorem zho{ps:zes Int Int}{c:Nat}{k x:Int}:x∈zcd (zl2 ps k 1 c)↔x=k \/ x∈zcd ps:=by
 rw[zlo];split
 ·rename_i h
  constructor
  ·exact .inr
  ·rintro(rfl|h1)
   ·exact h
   ·exact h1
 ·rw[mem_append,mem_singleton,or_comm]
theorem onesI_get{ps:zes Int Int}(h1:∀p∈ps,p.2.1=1)(k:Int):decide (0<(zg2 ps k).getD 0)=decide (k∈zcd ps):=by
 cases e:zg2 ps k with
 | none=>have:=zq5.1 e;simp[this]
 | some v=>
  obtain⟨n,hn⟩:=zic e;have:=h1 _ hn;have hk:k∈zcd ps:=mem_map.2 ⟨_,hn,rfl⟩;simp at this;simp[hk,this]
def zb7.Spec(C:z5)(N:zN):Prop:=∀(h:zb)(m c:Nat)(ps:zes Int Int)(k:Int)(Q:zQ),h m=some (ze6 (zid wV wV ps) c)->SetI ps c->Q (.bool (decide (k∈zcd ps))) h->C (N 513) [.mp m,.int .i64 k] h Q
theorem zb7.spec(i:zb7.Imp C N):zb7.Spec C N:=by
 intro h m c ps k Q h1 hs hq;apply i;have e:A.lkp h (some .i) (some (.int .i64 0)) false (.mp m) (.int .i64 k)=some (.int .i64 ((zg2 ps k).getD 0)):=lkp_blk (v:=wV) keyI h1 0 k false;simp -dsimp only[zb7.cps,e,B.ze,V.znc];rw[onesI_get hs.2.1];exact zbh hq
inductive Reach(s:Lk)(a:Int):Int->Prop
 | one {b:Int}:b∈zev s a->Reach s a b
 | more {b c:Int}:Reach s a b->c∈zev s b->Reach s a c
theorem Reach.first{s:Lk}{a b c:Int}(h:b∈zev s a)(hr:Reach s b c):Reach s a c:=by
 induction hr with
 | one h1=>exact .more (.one h) h1
 | more _ h2 ih=>exact .more ih h2
theorem waits_known{s:Lk}{a b:Int}(h:b∈zev s a):b∈zcd s.W:=by
 unfold zev at h;split at h
 ·cases h
 ·split at h
  ·cases h
  ·unfold keptL at h
   have h1:=(zfr _).mem_iff.1 h;obtain⟨e,he,rfl⟩:=mem_map.1 h1;exact mem_map.2 ⟨e,(mem_filter.1 he).1,rfl⟩
structure Looked(s:Lk)(a:Int)(S S':List Int):Prop where
 sub:∀x∈S,x∈S'
 near:∀x∈zev s a,x∈S'
 closed:∀x∈S',x∉S->∀y∈zev s x,y∈S'
 reach:∀x∈S',x∉S->Reach s a x
 known:∀x∈S',x∈zcd s.W
def lookAt(C:z5)(N:zN)(n:Nat):Prop:=∀(h0 h:zb)(s:Lk)(m c i2 i5 i6:Nat)(ps:zes Int Int)(a:Int)(Q:zQ),s.At h0->s.Ok->s.W.length <= 100000->h0 i2=some (zdn [.ptr s.l 0 0])->h0 i5=some (zdn [.mp m])->h0 i6=some (zdn [.fn (N 526) [] [.ptr i2 0 0,.ptr i5 0 0,.ptr i6 0 0]])->zc6 h0 h [zqf m ps c]->SetI ps c->(∀x∈zcd ps,x∈zcd s.W)->s.W.length <= ps.length+n->(∀(h':zb)(ps':zes Int Int)(c':Nat),zc6 h0 h' [zqf m ps' c']->SetI ps' c'->Looked s a (zcd ps) (zcd ps')->Q (.tup []) h')->C (N 526) [.int .i64 a,.ptr i2 0 0,.ptr i5 0 0,.ptr i6 0 0] h Q
theorem zbj.look(i:zbj.Imp C N)(s1:zcq.Spec C N)(s2:zb7.Spec C N):∀n,lookAt C N n:=by
 intro n
 induction n using Nat.strongRecOn with
 | ind n ih=>
  intro h0 h s m c i2 i5 i6 ps a Q hs hk hlen b2 b5 b6 ho hps hkn hm hq;apply i;have e2:=zeg (k:=0) (ho.le _ _ b2) rfl;simp -dsimp only[zbj.cps,zbj.k3,B.zeh,e2,B.ze];refine s1 h s a _ (hs.mono ho.le) hk hlen λx' h1 ox=>?_;have hx:=(ox.zj4 0 rfl).zde;rw[length_map]at hx;have o1:zc6 h0 h1 [zqf m ps c,.sl 1 x' ((zev s a).map icl) []]:=ho.join ox;simp -dsimp only[hx,B.ze];have hwl:(zev s a).length <= 100000:=by
   unfold zev;split
   ·simp
   ·split
    ·simp
    ·unfold keptL
     rw[zqd,length_map];exact Nat.le_trans (length_filter_le _ _) hlen
  refine z0.intro (λt vs hh=>∃(j:Nat)(qs:zes Int Int)(d:Nat),j+t=(zev s a).length /\ vs=[.int .i64 (j:Int)] /\ SetI qs d /\ zc6 h0 hh [zqf m qs d,.sl 1 x' ((zev s a).map icl) []] /\ ps.length <= qs.length /\ (∀x∈zcd ps,x∈zcd qs) /\ (∀x∈(zev s a).take j,x∈zcd qs) /\
   (∀x∈zcd qs,x∉zcd ps->∀y∈zev s x,y∈zcd qs) /\ (∀x∈zcd qs,x∉zcd ps->Reach s a x) /\ (∀x∈zcd qs,x∈zcd s.W)) (zev s a).length ?_
   ⟨0,ps,c,by omega,rfl,hps,o1,Nat.le_refl _,λx hx=>hx,by simp,λx h1 h2=>absurd h1 h2,λx h1 h2=>absurd h1 h2,hkn⟩
  rintro Y t vs hh ⟨j,qs,d,hjt,rfl,hqs,o,hql,hsub,htake,hcl,hre,hkq⟩ hY;have e5:=zeg (k:=0) (o.le _ _ b5) rfl;have e6:=zeg (k:=0) (o.le _ _ b6) rfl;simp -dsimp only[zbj.l2,zbj.k1,V.zey,B.ze];refine B.zbe (λhc=>?_) (λhc=>?_)
  ·have hj:j<(zev s a).length:=by have:=of_decide_eq_true hc;omega
   have hxx:=o.zj4 1 rfl;have g1:((zev s a).map icl)[j]?=some (icl (zev s a)[j]):=by rw[getElem?_map,getElem?_eq_getElem hj];rfl
   have i1:V.zda 1 x' (.int .i64 (j:Int))=some (elp 1 x' j 0):=hxx.zmq (by simpa using hj);have c1:A.ldv hh (elp 1 x' j 0)=some (.int .i64 (zev s a)[j]):=hxx.cell g1;have hin:(zev s a)[j]∈zev s a:=getElem_mem hj;generalize hv:(zev s a)[j]=v at c1 hin;have htk:∀x∈(zev s a).take (j+1),x∈(zev s a).take j \/ x=v:=λx hx=>by
    rw[take_add_one,getElem?_eq_getElem hj,mem_append]at hx;rcases hx with h|h
    ·exact .inl h
    ·right;rw[<-hv];simpa using h
   simp -dsimp only[B.zeh,i1,c1,e5,B.ze];refine s2 hh m d qs v _ (o.at 0 rfl) hqs ?_;simp -dsimp only[V.zfn,B.ze];refine B.zbe (λhd=>?_) (λhd=>?_)
   ·have hd:v∉zcd qs:=by simpa using hd
    have hvW:=waits_known hin;have hlt:qs.length+1 <= s.W.length:=by
     have h3:(v::zcd qs).length <= (zcd s.W).length:=List.Nodup.length_le_of_subset (nodup_cons.2 ⟨hd,hqs.2.2⟩) (λx hx=>by
      rcases mem_cons.1 hx with rfl|hx
      ·exact hvW
      ·exact hkq x hx)
     simpa[zcd]using h3
    have hpl:(zl2 qs v 1 d).length=qs.length+1:=by
     have:=congrArg List.length (zlo v 1 d qs);rw[if_neg hd]at this;simpa[zcd]using this
    simp -dsimp only[B.zeh,e5,B.ze];refine o.mset (κ:=wV) (v:=wV) 0 rfl keyI v 1 λh2 o2 _ _=>?_;have o2':zc6 h0 h2 ([.sl 1 x' ((zev s a).map icl) []]++[zqf m (zl2 qs v 1 d) (clkP qs v d)]):=o2.perm (List.Perm.swap _ _ _);have e6':=zeg (k:=0) (o2.le _ _ b6) rfl;simp -dsimp only[B.zeh,e6',B.ze];rw[B.callv_fn];obtain⟨oa,ob⟩:=o2'.out;refine ih (n-1) (by omega) _ h2 s m (clkP qs v d) i2 i5 i6 (zl2 qs v 1 d) v _ (hs.mono oa.le) hk hlen (oa.le _ _ b2) (oa.le _ _ b5) (oa.le _ _ b6) ob (hqs.put v) (λx hx=>?_) (by omega) λh3 qs3 d3 o3 k3 lk=>?_
    ·rcases zho.1 hx with rfl|hx
     ·exact hvW
     ·exact hkq x hx
    ·have o4:zc6 h0 h3 [zqf m qs3 d3,.sl 1 x' ((zev s a).map icl) []]:=(oa.join o3).perm (List.Perm.swap _ _ _)
     simp -dsimp only[zgm (show j<4611686018427387904 by omega),B.ze];have up:∀x∈zcd qs,x∈zcd qs3:=λx hx=>lk.sub x (zho.2 (.inr hx));have hl3:ps.length <= qs3.length:=by
      have h5:(zcd qs).length <= (zcd qs3).length:=List.Nodup.length_le_of_subset hqs.2.2 up;have h6:qs.length <= qs3.length:=by simpa[zcd]using h5
      omega
     refine hY (t-1) _ _ (by omega) ⟨j+1,qs3,d3,by omega,rfl,k3,o4,hl3,λx hx=>up x (hsub x hx),λx hx=>?_,λx h1 h2 y hy=>?_,λx h1 h2=>?_,lk.known⟩
     ·rcases htk x hx with h|rfl
      ·exact up x (htake x h)
      ·exact lk.sub _ (zho.2 (.inl rfl))
     ·by_cases hxq:x∈zcd (zl2 qs v 1 d)
      ·rcases zho.1 hxq with rfl|hxq
       ·exact lk.near y hy
       ·exact up y (hcl x hxq h2 y hy)
      ·exact lk.closed x h1 hxq y hy
     ·by_cases hxq:x∈zcd (zl2 qs v 1 d)
      ·rcases zho.1 hxq with rfl|hxq
       ·exact .one hin
       ·exact hre x hxq h2
      ·exact(lk.reach x h1 hxq).first hin
   ·have hd:v∈zcd qs:=by simpa using hd
    simp -dsimp only[zgm (show j<4611686018427387904 by omega),B.ze];refine hY (t-1) _ _ (by omega) ⟨j+1,qs,d,by omega,rfl,hqs,o,hql,hsub,λx hx=>?_,hcl,hre,hkq⟩;rcases htk x hx with h|rfl
    ·exact htake x h
    ·exact hd
  ·have hj:j=(zev s a).length:=by have:=of_decide_eq_false hc;omega
   rw[hj,take_length]at htake;exact zbh (hq hh qs d (o.sub (.cons_cons _ (nil_sublist _))) hqs ⟨hsub,htake,hcl,hre,hkq⟩)
variable{C:z5}{N:zN}
def zcb.Spec(C:z5)(N:zN):Prop:=∀(h:zb)(s:Lk)(a:Int)(Q:zQ),s.At h->s.Ok->s.W.length <= 100000->(∀(h':zb)(m c:Nat)(ps:zes Int Int),zc6 h h' [zqf m ps c]->SetI ps c->(∀x,x∈zcd ps↔Reach s a x)->(∀x∈zcd ps,x∈zcd s.W)->Q (.mp m) h')->C (N 512) [.ptr s.l 0 0,.int .i64 a] h Q
theorem zcb.spec(i:zcb.Imp C N)(i1:zbj.Imp C N)(s1:zcq.Spec C N)(s2:zb7.Spec C N):zcb.Spec C N:=by
 intro h s a Q hs hk hlen hq;apply i;simp -dsimp only[zcb.cps,zcb.k1];intro i2 h2;have o1:=(zc6.start h).znt h2 (b:=zdn [.ptr s.l 0 0]) rfl;refine o1.zk5 wV wV λm h3 f3 o3 l3=>?_;intro i5 h5;have o5:=o3.znt h5 (b:=zdn [.zo8]) rfl;refine o5.blkSt 2 rfl rfl (by simp) λh6 o6=>?_;intro i6 h7;have o7:=o6.znt h7 (b:=zdn [.nilf]) rfl;refine o7.blkSt 3 rfl rfl (by simp) λh8 o8=>?_;have p6:h8 i6=some (zdn [.fn (N 526) [] [.ptr i2 0 0,.ptr i5 0 0,.ptr i6 0 0]]):=o8.at 3 rfl;have e6:=zeg (k:=0) p6 rfl;simp -dsimp only[B.zeh,e6,B.ze];rw[B.callv_fn];have o9:zc6 h h8 ([.blk i2 (zdn [.ptr s.l 0 0]),.blk i5 (zdn [.mp m]),.blk i6 (zdn [.fn (N 526) [] [.ptr i2 0 0,.ptr i5 0 0,.ptr i6 0 0]])]++[zqf m [] 0]):=o8.perm (by
  show List.Perm [_,zqf m [] 0,_,_] [_,_,_,zqf m [] 0];exact List.Perm.cons _ (perm_append_comm (l₁:=[zqf m [] 0])))
 obtain⟨oa,ob⟩:=o9.out;refine zbj.look i1 s1 s2 s.W.length _ h8 s m 0 i2 i5 i6 [] a _ (hs.mono oa.le) hk hlen (oa.at 0 rfl) (oa.at 1 rfl) (oa.at 2 rfl) ob ⟨zfz.nil 0,λp hp=>absurd hp (not_mem_nil),List.Pairwise.nil⟩ (λx hx=>absurd hx (not_mem_nil)) (by simp) λh9 ps c o10 k1 lk=>?_;have o11:=oa.join o10;have p5:h9 i5=some (zdn [.mp m]):=o11.at 1 rfl;have e5:=zeg (k:=0) p5 rfl;simp -dsimp only[B.zeh,e5,B.ze];refine zbh (hq h9 m c ps (o11.sub (sublist_append_right _ _)) k1 (λx=>⟨λhx=>lk.reach x hx (not_mem_nil),λhx=>?_⟩) lk.known)
 induction hx with
 | one h1=>exact lk.near _ h1
 | more _ h2 ih=>exact lk.closed _ ih (not_mem_nil) _ h2
theorem key_inj{T:Type}:∀{ps:zes Int T},(zcd ps).Nodup->∀{p q:Int×T×Nat},p∈ps->q∈ps->p.1=q.1->p=q
 | e::r,hn,p,q,hp,hq,h=>by
  have hn':e.1∉zcd r /\ (zcd r).Nodup:=nodup_cons.1 hn
  rcases mem_cons.1 hp with h1|h1<;>rcases mem_cons.1 hq with h2|h2
  ·rw[h1,h2]
  ·exact absurd (mem_map.2 ⟨q,h2,by rw[<-h,h1]⟩) hn'.1
  ·exact absurd (mem_map.2 ⟨p,h1,by rw[h,h2]⟩) hn'.1
  ·exact key_inj hn'.2 h1 h2 h
def RoundIs(s:Lk)(L:List Int):Prop:=(L=[] /\ ∀w∈zcd s.W,¬ Reach s w w) \/ ∃w∈zcd s.W,Reach s w w /\ (∀v∈zcd s.W,v<w->¬ Reach s v v) /\ L.Pairwise (λa b=>a<b) /\ ∀o,o∈L↔Reach s w o /\ Reach s o w
def zw.Spec(C:z5)(N:zN):Prop:=∀(h:zb)(s:Lk)(Q:zQ),s.At h->s.Ok->s.W.length <= 100000->(∀(h':zb)(x':za)(L:List Int),RoundIs s L->zc6 h h' [.sl 1 x' (L.map icl) []]->Q x' h')->C (N 492) [.ptr s.l 0 0] h Q
theorem round_out(s1:zcb.Spec C N)(s2:zb7.Spec C N)(s3:zbl.Spec C N){h:zb}{s:Lk}{w:Int}{m c:Nat}{ps:zes Int Int}{Y1:zL}{Q:zQ}(hs:s.At h)(hk:s.Ok)(hlen:s.W.length <= 100000)
  (hm:h m=some (ze6 (zid wV wV ps) c)) (hps:SetI ps c) (hr:∀x,x∈zcd ps↔Reach s w x) (hpl:ps.length <= 100000)
  (hq:∀(h':zb)(x':za)(L:List Int),L.Pairwise (λa b=>a<b)->(∀o,o∈L↔Reach s w o /\ Reach s o w)->zc6 h h' [.sl 1 x' (L.map icl) []]->Q x' h'):
  B.rangeMap h (.mp m) λv30 h=>z0 (zw.l2 C N (dn Q) Y1 (.ptr s.l 0 0) (.int .i64 w) v30) [.zed] h:=by
 refine zc6.zr5 (κ:=wV) (v:=wV) (ps:=ps) (c:=c) (J:=λD l vs=>∃out' O',vs=[out'] /\ l=[.sl 1 out' (O'.map icl) []] /\ O'.Sublist (D.map (·.1)) /\ ∀o∈D.map (·.1),(o∈O'↔Reach s o w))
  (REST:=λit vs v h Y=>match vs with
   | [v6]=>B.pv (V.ext 0 v) λv32=>B.cond v32
    (B.pv (A.zfp h it) λv33=>B.pv (V.ext 0 v33) λv34=>B.call C (N 512) [.ptr s.l 0 0,v34] h λv37 h=>B.call C (N 513) [v37,.int .i64 w] h λv39 h=>B.cond v39
     (B.zf2 h (zee [(0,none,v34)] (zf7 1 [.int .i64 0])) λi42 h=>B.zim h 1 8 v6 (.sl i42 0 0 1 1 1) λv43 h=>Y [v43] h) (Y [v6] h))
    (B.call C (N 511) [v6] h λv45 h=>dn Q v6 h)
   | _=>False) ((zc6.start h).zed 1) hm hps.1 ⟨.zed,[],rfl,rfl,.slnil,by simp⟩ ?_ ?_ ?_
 ·rintro it vs h4 Y D l ⟨out',O',rfl,_⟩ hn
  exact hn
 ·rintro it h4 D l bb Y vs ⟨out',O',rfl,rfl,hsub,hmem⟩ hp ho
  simp -dsimp only[V.zg9,getElem?_cons_zero,B.ze,B.cond_false];have o1:zc6 h h4 [.sl 1 out' (O'.map icl) []]:=ho.sub (.cons_cons _ (nil_sublist _));have hl:O'.length <= 100000000:=by
   have h1:=hsub.length_le;rw[length_map,hp.length_eq]at h1;omega
  have hDk:(D.map (·.1)).Perm (zcd ps):=hp.map _;refine s3 h h4 out' O' [] _ o1 hl λh5 L hL hS o5=>?_;refine zbh (hq h5 out' L ?_ (λo=>?_) o5)
  ·have hnd:L.Nodup:=hL.symm.nodup (hsub.nodup (hDk.symm.nodup hps.2.2))
   exact(hS.and hnd).imp λ{a b} hab=>by have:=hab.1;have:=hab.2;omega
  ·rw[hL.mem_iff]
   constructor
   ·intro h1
    have h2:=hsub.subset h1;exact⟨(hr o).1 (hDk.mem_iff.1 h2),(hmem o h2).1 h1⟩
   ·rintro⟨h1,h2⟩
    exact(hmem o (hDk.mem_iff.2 ((hr o).2 h1))).2 h2
 ·rintro it h4 D l bb Y vs p hpm ⟨out',O',rfl,rfl,hsub,hmem⟩ hD hpD hDl ho he hY
  simp -dsimp only[V.zg9,getElem?_cons_zero,getElem?_cons_succ,B.ze,B.cond_true,he];have hpk:p.1∉D.map (·.1):=λhm=>by
   obtain⟨q,hq1,hq2⟩:=mem_map.1 hm;have hq3:q=p:=key_inj hps.2.2 (hD q hq1) hpm hq2;exact hpD (hq3 ▸ hq1)
  refine s1 h4 s p.1 _ (hs.mono ho.le) hk hlen λh5 m5 c5 ps5 o5 k5 r5 _=>?_;refine s2 h5 m5 c5 ps5 w _ (o5.at 0 rfl) k5 ?_;have oo:=ho.grow o5.le;have hl:=hsub.length_le;rw[length_map]at hl;refine B.zbe (λhd=>?_) (λhd=>?_)
  ·have hd:Reach s p.1 w:=(r5 w).1 (of_decide_eq_true hd)
   have hf:zee [(0,none,wV p.1)] (zf7 1 [.int .i64 0])=some [.int .i64 p.1]:=rfl;simp -dsimp only[hf];refine oo.push 0 rfl (cs:=[.int .i64 p.1]) rfl (by omega) (by simp;omega) (by simp[maxLen];omega) λout2 h6 o6 _=>?_;refine hY h6 [.sl 1 out2 ((O'++[p.1]).map icl) []] _ ⟨out2,O'++[p.1],rfl,rfl,?_,λo ho=>?_⟩ (by rw[map_append];exact o6)
   ·rw[map_append];exact hsub.append (List.Sublist.refl _)
   ·rw[map_append,mem_append]at ho
    rw[mem_append,mem_singleton];rcases ho with ho|ho
    ·constructor
     ·rintro(h1|rfl)
      ·exact(hmem o ho).1 h1
      ·exact hd
     ·exact λh1=> .inl ((hmem o ho).2 h1)
    ·have ho:o=p.1:=by simpa using ho
     subst ho;exact⟨λ_=>hd,λ_=> .inr rfl⟩
  ·have hd:¬ Reach s p.1 w:=λh1=>of_decide_eq_false hd ((r5 w).2 h1)
   refine hY h5 _ _ ⟨out',O',rfl,rfl,?_,λo ho=>?_⟩ oo
   ·rw[map_append];exact hsub.trans (sublist_append_left _ _)
   ·rw[map_append,mem_append]at ho
    rcases ho with ho|ho
    ·exact hmem o ho
    ·have ho:o=p.1:=by simpa using ho
     subst ho;exact⟨λh1=>absurd (hsub.subset h1) hpk,λh1=>absurd h1 hd⟩
variable{C:z5}{N:zN}
theorem zw.spec(i:zw.Imp C N)(hG:zo1 C)(i2:z4.Imp C N)(i3:zm.Imp C N)(s0:zcz.Spec C N)(s1:zcb.Spec C N)(s2:zb7.Spec C N)(s3:zbl.Spec C N)(s4:zcj.Spec C N):zw.Spec C N:=by
 intro h s Q hs hk hlen hq;apply i;refine s0 h s _ hs ?_;have e1:=zeg (k:=0) hs.1 rfl;simp -dsimp only[V.zfn,Bool.not_true,B.ze,B.cond_false,zw.k6,B.zb3,V.fieldAddr,Nat.zero_add,B.zeh,e1];apply i2;simp -dsimp only[z4.cps];intro i1 h1;have o1:=(zc6.start h).zns h1 [.mp s.m];refine zbh ?_;refine s4 (N 525) [.ptr i1 0 0] _ s.W _ _ (keysI_iter hG i3 (m:=s.m) hk.zsk) (λa b hle ⟨x,y⟩=>⟨hle _ _ x,hle _ _ y⟩) hlen ⟨zb4 ..,o1.le _ _ hs.2.1⟩ λx' h2 o=>?_;have ox:zc6 h h2 [.sl 1 x' ((zhj (zcd s.W)).map icl) []]:=o.back o1.le;have hx:=(ox.zj4 0 rfl).zde;rw[length_map]at hx;have hSl:(zhj (zcd s.W)).length <= 100000:=by rw[zqd];simpa[zcd]using hlen
 simp -dsimp only[hx,B.ze];refine z0.intro (λt vs hh=>h2.le hh /\ ∃j:Nat,j+t=(zhj (zcd s.W)).length /\ vs=[.int .i64 (j:Int)] /\ ∀x∈(zhj (zcd s.W)).take j,¬ Reach s x x) (zhj (zcd s.W)).length ?_ ⟨zb.le_refl _,0,by omega,rfl,by simp⟩;rintro Y t vs hh ⟨hle,j,hjt,rfl,hno⟩ hY;simp -dsimp only[zw.l5,V.zey,B.ze];refine B.zbe (λhc=>?_) (λhc=>?_)
 ·have hj:j<(zhj (zcd s.W)).length:=by have:=of_decide_eq_true hc;omega
  have hxx:=(ox.zj4 0 rfl).mono hle;have g1:((zhj (zcd s.W)).map icl)[j]?=some (icl (zhj (zcd s.W))[j]):=by rw[getElem?_map,getElem?_eq_getElem hj];rfl
  have i1:V.zda 1 x' (.int .i64 (j:Int))=some (elp 1 x' j 0):=hxx.zmq (by simpa using hj);have c1:A.ldv hh (elp 1 x' j 0)=some (.int .i64 (zhj (zcd s.W))[j]):=hxx.cell g1;have hin:(zhj (zcd s.W))[j]∈zcd s.W:=(zfr _).mem_iff.1 (getElem_mem hj);have hleast:∀v∈zcd s.W,v<(zhj (zcd s.W))[j]->¬ Reach s v v:=λv hv hlt=>by
   obtain⟨n,hn,e⟩:=getElem_of_mem ((zfr _).mem_iff.2 hv);by_cases hnj:n<j
   ·exact hno v (by rw[<-e];exact mem_take_iff_getElem.2 ⟨n,by omega,rfl⟩)
   ·exfalso
    rcases Nat.lt_or_ge j n with h5|h5
    ·have:=pairwise_iff_getElem.1 (zie (zcd s.W)) j n hj hn h5
     omega
    ·have:n=j:=by omega
     subst this;omega
  have htk:∀x∈(zhj (zcd s.W)).take (j+1),x∈(zhj (zcd s.W)).take j \/ x=(zhj (zcd s.W))[j]:=λx hx=>by
   rw[take_add_one,getElem?_eq_getElem hj,mem_append]at hx;rcases hx with h|h
   ·exact .inl h
   ·right;simpa using h
  generalize (zhj (zcd s.W))[j]=w at c1 hin hleast htk;simp -dsimp only[zw.k4,B.zeh,i1,c1,B.ze];have hsh:=hs.mono (zb.le_trans ox.le hle);refine s1 hh s w _ hsh hk hlen λh5 m c ps o5 k5 r5 n5=>?_;simp -dsimp only[zw.k3];refine s2 h5 m c ps w _ (o5.at 0 rfl) k5 ?_;simp -dsimp only[V.zfn,B.ze];refine B.zbe (λhd=>?_) (λhd=>?_)
  ·have hd:¬ Reach s w w:=λh1=>by have:=(r5 w).2 h1;simp[this]at hd
   simp -dsimp only[zgm (show j<4611686018427387904 by omega),B.ze];refine hY (t-1) _ _ (by omega) ⟨zb.le_trans hle o5.le,j+1,by omega,rfl,λx hx=>?_⟩;rcases htk x hx with h|rfl
   ·exact hno x h
   ·exact hd
  ·have hd:Reach s w w:=(r5 w).1 (by simpa using hd)
   have hpl:ps.length <= 100000:=by
    have h3:(zcd ps).length <= (zcd s.W).length:=List.Nodup.length_le_of_subset k5.2.2 n5;have h4:ps.length <= s.W.length:=by simpa[zcd]using h3
    omega
   refine round_out s1 s2 s3 (hsh.mono o5.le) hk hlen (o5.at 0 rfl) k5 r5 hpl λh6 x6 L p6 m6 o6=>?_;exact hq h6 x6 L (.inr ⟨w,hin,hd,hleast,p6,m6⟩) (o6.back (zb.le_trans ox.le (zb.le_trans hle o5.le)))
 ·have hj:j=(zhj (zcd s.W)).length:=by have:=of_decide_eq_false hc;omega
  rw[hj,take_length]at hno;refine zbh (hq hh .zed [] (.inl ⟨rfl,λw hw=>hno w ((zfr _).mem_iff.2 hw)⟩) ((zc6.nil (zb.le_trans ox.le hle)).zed 1))
variable{C:z5}{N:zN}
theorem ask_fr(sA:zu.Spec C N){h0 h:zb}{A:List Ob}{s:Lk}{d:DL}{k:Int}{names:List Key}{x:za}{R:List (List za)}{Q:zQ}(ho:zc6 h0 h (A++s.obs))(hk:s.Ok)(hr:Rel s d)(hlen:s.W.length<100000)(hx:∀H,zc6 h0 H A->SlX H 1 x (names.map tc) R)(hn:names.length <= 100000)(hl1: -1000000000 <= s.last)(hl2:s.last <= 1000000000)
  (hq:∀(h':zb)(s':Lk),s'.Ok->zc6 h0 h' (A++s'.obs)->s'.W.length <= s.W.length+1->s'.l=s.l->Rel s' (zjk d k names).2->Q (.bool (zjk d k names).1) h'):C (N 489) [.ptr s.l 0 0,.int .i64 k,x] h Q:=by
 obtain⟨oa,ob⟩:=ho.out;exact sA _ h s d k names x R Q ob hk hr hlen (hx _ oa) hn hl1 hl2 λh' s' k1 o1 n1 l1 r1=>hq h' s' k1 (oa.join o1) n1 l1 r1
theorem Rel.del{s:Lk}{d:DL}(hr:Rel s d)(k:Int):Rel (s.del k) (zow d k):=⟨hr.last,hr.zgv.del⟩
theorem free_fr(sF:zcp.Spec C N){h0 h:zb}{A:List Ob}{s:Lk}{d:DL}{k:Int}{Q:zQ}(ho:zc6 h0 h (A++s.obs))(hk:s.Ok)(hr:Rel s d)
  (hq:∀(h':zb),(s.del k).Ok->zc6 h0 h' (A++(s.del k).obs)->Rel (s.del k) (zow d k)->Q (.tup []) h'):C (N 488) [.ptr s.l 0 0,.int .i64 k] h Q:=by
 obtain⟨oa,ob⟩:=ho.out;exact sF _ h s k Q ob hk λh' o1=>hq h' (hk.del k) (oa.join o1) (hr.del k)
theorem at_fr{h0 h:zb}{A:List Ob}{s:Lk}(ho:zc6 h0 h (A++s.obs))(hk:s.Ok):s.At h:=by
 obtain⟨oa,ob⟩:=ho.out;exact Lk.at_of ob hk
def ze5(d:DL)(k:Int):List Int:=
 match findD d.L k with
 | none=>[]
 | some w=>if w.zjg=0 then [] else zhj (zfh d k w.zfq w.zjg)
theorem ziv{s:Lk}{d:DL}(hr:Rel s d)(hk:s.Ok)(k:Int):zev s k=ze5 d k:=by
 unfold zev ze5;rcases hr.zgv.get (k:=k) with⟨w1,w2⟩|⟨e,dd,m1,m2,m3,w1,w2,hsw⟩
 ·rw[w1,w2]
 ·rw[w1,w2]
  have h1:=kept_rel hr.zgv hk.nodup hk.far w1 hsw.zfe dd.zjg;simp only[hsw.zhe];split
  ·rfl
  ·unfold keptL zfh
   rw[h1]
def zjb(d:DL)(k:Int):List Key:=
 match findD d.L k with
 | none=>[]
 | some w=>w.ze2
theorem lessB_tot{a b:Key}(h:zgo b a=false)(hne:a≠b):zgo a b=true:=lessB_or h (λe=>hne e.symm)
theorem holds_eq{s:Lk}{d:DL}(hr:Rel s d)(hk:s.Ok){k:Int}{L:List Key}(hp:L.Perm (zcd (zrn s k)))(hs:SortedB L):L=zjb d k:=by
 unfold zrn at hp;unfold zjb;rcases hr.zgv.get (k:=k) with⟨w1,w2⟩|⟨e,dd,m1,m2,m3,w1,w2,hsw⟩
 ·rw[w1]at hp
  rw[w2];exact List.Perm.eq_nil hp
 ·rw[w1]at hp
  rw[w2];have hnd:L.Nodup:=hp.symm.nodup (hk.zgv e m1).held.2.2;refine riseB_ext ((hs.and hnd).imp λ{a b} hab=>lessB_tot hab.1 hab.2) hsw.riseH λx=>?_;rw[hp.mem_iff];exact hsw.held x
theorem zhp{a b:List Key}:zke a b=true↔∃x∈a,∃y∈b,x=[42] \/ y=[42] \/ x=y:=by
 unfold zke;constructor
 ·intro h
  rw[Bool.and_eq_true,Bool.and_eq_true,Bool.or_eq_true,Bool.or_eq_true]at h;obtain⟨h1,h2,h3⟩:=h
  obtain⟨x,hx⟩:∃x,x∈a:=by cases a with
   | nil=>simp at h1
   | cons x _=>exact⟨x,mem_cons_self ..⟩
  obtain⟨y,hy⟩:∃y,y∈b:=by cases b with
   | nil=>simp at h2
   | cons y _=>exact⟨y,mem_cons_self ..⟩
  rcases h3 with h|h|h
  ·exact⟨[42],of_decide_eq_true h,y,hy,.inl rfl⟩
  ·exact⟨x,hx,[42],of_decide_eq_true h,.inr (.inl rfl)⟩
  ·obtain⟨z,hz,h⟩:=any_eq_true.1 h
   exact⟨z,hz,z,of_decide_eq_true h,.inr (.inr rfl)⟩
 ·rintro⟨x,hx,y,hy,h⟩
  have h1:a.isEmpty=false:=by cases a with
   | nil=>cases hx
   | cons _ _=>rfl
  have h2:b.isEmpty=false:=by cases b with
   | nil=>cases hy
   | cons _ _=>rfl
  rw[h1,h2];simp only[Bool.not_false,Bool.true_and,Bool.or_eq_true,decide_eq_true_eq,any_eq_true];rcases h with rfl|rfl|rfl
  ·exact .inl hx
  ·exact .inr (.inl hy)
  ·exact .inr (.inr ⟨x,hx,hy⟩)
theorem zop{a b:List Key}:zke a b=zke b a:=by
 rw[Bool.eq_iff_iff,zhp,zhp];constructor
 ·rintro⟨x,hx,y,hy,h⟩
  exact⟨y,hy,x,hx,by rcases h with h|h|h;exact .inr (.inl h);exact .inl h;exact .inr (.inr h.symm)⟩
 ·rintro⟨x,hx,y,hy,h⟩
  exact⟨y,hy,x,hx,by rcases h with h|h|h;exact .inr (.inl h);exact .inl h;exact .inr (.inr h.symm)⟩
theorem mem_puts{x:Key}:∀{B H:List Key},x∈B.foldl zhf H↔x∈H \/ x∈B
 | [],H=>by simp
 | b::B,H=>by
  rw[foldl_cons,mem_puts,znu,mem_cons]
  constructor
  ·rintro((h|h)|h)
   ·exact .inr (.inl h)
   ·exact .inl h
   ·exact .inr (.inr h)
  ·rintro(h|h|h)
   ·exact .inl (.inr h)
   ·exact .inl (.inl h)
   ·exact .inr h
theorem zl4{k:Int}{w o:DW}:∀{L:List DW},o∈zlz L k w->o=w \/ o∈L
 | [],h=> .inl (by simpa[zlz]using h)
 | q::L,h=>by
  unfold zlz at h
  split at h
  ·rcases mem_cons.1 h with h|h
   ·exact .inl h
   ·exact .inr (mem_cons_of_mem _ h)
  ·rcases mem_cons.1 h with h|h
   ·exact .inr (by rw[h];exact mem_cons_self ..)
   ·rcases zl4 h with h|h
    ·exact .inl h
    ·exact .inr (mem_cons_of_mem _ h)
theorem zlr{k:Int}{w:DW}:∀{L:List DW},findD L k=some w->w∈L /\ w.Id=k
 | q::L,h=>by
  unfold findD at h
  split at h
  ·rename_i hk
   cases h
   exact⟨mem_cons_self ..,hk⟩
  ·obtain⟨h1,h2⟩:=zlr h
   exact⟨mem_cons_of_mem _ h1,h2⟩
theorem setD_ids{k:Int}{w:DW}(hw:w.Id=k):∀{L:List DW},(L.map (·.Id)).Nodup->((zlz L k w).map (·.Id)).Nodup /\ ∀x,x∈(zlz L k w).map (·.Id)->x=k \/ x∈L.map (·.Id)
 | [],_=>by simp[zlz,hw]
 | q::L,h=>by
  obtain⟨h1,h2⟩:=nodup_cons.1 h
  unfold zlz
  split
  ·rename_i hk
   rw[map_cons,hw]
   refine⟨nodup_cons.2 ⟨by rw[<-hk];exact h1,h2⟩,λx hx=>?_⟩
   rcases mem_cons.1 hx with h|h
   ·exact .inl h
   ·exact .inr (mem_cons_of_mem _ h)
  ·rename_i hk
   obtain⟨i1,i2⟩:=setD_ids hw (L:=L) h2
   rw[map_cons]
   refine⟨nodup_cons.2 ⟨λhm=>?_,i1⟩,λx hx=>?_⟩
   ·rcases i2 _ hm with h|h
    ·exact hk h
    ·exact h1 h
   ·rcases mem_cons.1 hx with h|h
    ·exact .inr (by rw[h];exact mem_cons_self ..)
    ·rcases i2 _ h with h|h
     ·exact .inl h
     ·exact .inr (mem_cons_of_mem _ h)
def zpo(d:DL):Prop:=∀a∈d.L,∀b∈d.L,a.Id≠b.Id->zke a.ze2 b.ze2=false
theorem zrv{d:DL}{k:Int}(h:zpo d){b:DW}(hb:b∈d.L)(hk:b.Id≠k):zke (ze3 d k).ze2 b.ze2=false:=by
 unfold ze3;cases e:findD d.L k with
 | none=>rfl
 | some w=>
  obtain⟨h1,h2⟩:=zlr e;exact h w h1 b hb (by rw[h2];exact λe=>hk e.symm)
theorem zr1{d:DL}{k:Int}{w:DW}(hw:w.Id=k)(h:zpo d)(hn:∀b∈d.L,b.Id≠k->zke w.ze2 b.ze2=false)(l:Int):zpo ⟨zlz d.L k w,l⟩:=by
 intro a ha b hb hab;rcases zl4 ha with e1|h1<;>rcases zl4 hb with e2|h2
 ·exact absurd (by rw[e1,e2]) hab
 ·rw[e1]at hab ⊢
  exact hn b h2 (by rw[<-hw];exact λe=>hab e.symm)
 ·rw[e2]at hab ⊢
  rw[zop];exact hn a h1 (by rw[<-hw];exact hab)
 ·exact h a h1 b h2 hab
theorem ask_apart{d:DL}(h:zpo d)(k:Int)(names:List Key):zpo (zjk d k names).2:=by
 unfold zjk;simp only;split
 ·rename_i he
  refine zr1 (w:=⟨k,(zf6 (ze3 d k) names).foldl zhf (ze3 d k).ze2,[],0⟩) rfl h (λb hb hk=>?_) _;cases hm:zke ((zf6 (ze3 d k) names).foldl zhf (ze3 d k).ze2) b.ze2 with
  | false=>rfl
  | true=>
   obtain⟨x,hx,y,hy,hxy⟩:=zhp.1 hm;rcases mem_puts.1 hx with hx|hx
   ·have:=zrv h hb hk
    rw[zhp.2 ⟨x,hx,y,hy,hxy⟩]at this;cases this
   ·have h2:zit b (zf6 (ze3 d k) names) (zjh d k)=true:=by
     unfold zit;rw[zop,zhp.2 ⟨x,hx,y,hy,hxy⟩];rfl
    have h3:b.Id∈zfh d k (zf6 (ze3 d k) names) (zjh d k):=mem_map.2 ⟨b,mem_filter.2 ⟨hb,by simp[hk,h2]⟩,rfl⟩;rw[isEmpty_iff.1 he]at h3;cases h3
 ·exact zr1 (w:=⟨k,(ze3 d k).ze2,zf6 (ze3 d k) names,zjh d k⟩) rfl h (λb hb hk=>zrv h hb hk) _
theorem znv{k:Int}{o:DW}:∀{L:List DW},o∈delD L k->o∈L
 | q::L,h=>by
  unfold delD at h
  split at h
  ·exact mem_cons_of_mem _ h
  ·rcases mem_cons.1 h with h|h
   ·rw[h];exact mem_cons_self ..
   ·exact mem_cons_of_mem _ (znv h)
theorem free_apart{d:DL}(h:zpo d)(k:Int):zpo (zow d k):=λa ha b hb hab=>h a (znv ha) b (znv hb) hab
theorem setD_len{k:Int}{w:DW}:∀{L:List DW},(zlz L k w).length <= L.length+1
 | []=>Nat.le_refl _
 | q::L=>by
  unfold zlz
  split
  ·simp
  ·have:=setD_len (k:=k) (w:=w) (L:=L)
   simp only[length_cons];omega
structure zh0(d:DL):Prop where
 last:0 <= d.zh3
 turns:∀w∈d.L,0 <= w.zjg /\ w.zjg <= d.zh3
 ids:(d.L.map (·.Id)).Nodup
theorem workD_turn{d:DL}(h:zh0 d)(k:Int):0 <= (ze3 d k).zjg /\ (ze3 d k).zjg <= d.zh3:=by
 unfold ze3;cases e:findD d.L k with
 | none=>exact⟨by simp,by simpa using h.last⟩
 | some w=>exact h.turns w (zlr e).1
theorem turnD_le{d:DL}(h:zh0 d)(k:Int):0<zjh d k /\ zjh d k <= d.zh3+1:=by
 have h1:=workD_turn h k;have h2:=h.last;unfold zjh;split<;>omega
theorem ask_good{d:DL}(h:zh0 d)(k:Int)(names:List Key):zh0 (zjk d k names).2 /\ (zjk d k names).2.zh3 <= d.zh3+1 /\ d.zh3 <= (zjk d k names).2.zh3 /\ (zjk d k names).2.L.length <= d.L.length+1:=by
 have ht:=turnD_le h k;have hl:=h.last;unfold zjk;simp only;split
 ·refine⟨⟨hl,λw hw=>?_,(setD_ids (k:=k) (w:=⟨k,(zf6 (ze3 d k) names).foldl zhf (ze3 d k).ze2,[],0⟩) rfl h.ids).1⟩,by simp only;omega,Int.le_refl _,setD_len⟩
  rcases zl4 hw with rfl|hw
  ·exact⟨Int.le_refl _,hl⟩
  ·exact h.turns w hw
 ·refine⟨⟨by simp only;omega,λw hw=>?_,(setD_ids (k:=k) (w:=⟨k,(ze3 d k).ze2,zf6 (ze3 d k) names,zjh d k⟩) rfl h.ids).1⟩,by simp only;omega,by simp only;omega,setD_len⟩
  rcases zl4 hw with rfl|hw
  ·exact⟨by simp only;omega,by simp only;omega⟩
  ·have:=h.turns w hw
   exact⟨this.1,by simp only;omega⟩
theorem free_good{d:DL}(h:zh0 d)(k:Int):zh0 (zow d k):=by
 have sub:∀L:List DW,((delD L k).map (·.Id)).Sublist (L.map (·.Id)):=by
  intro L
  induction L with
  | nil=>exact .slnil
  | cons q L ih=>
   unfold delD;split
   ·exact sublist_cons_self ..
   ·exact ih.cons_cons _
 exact⟨h.last,λw hw=>h.turns w (znv hw),h.ids.sublist (sub d.L)⟩
abbrev nmA:Key:=[65]
abbrev nmB:Key:=[66]
abbrev nmS:Key:=[42]
def exL0:DL:=⟨[],0⟩
def exL1:DL:=⟨[⟨1,[nmA],[],0⟩],0⟩
def exL2:DL:=⟨[⟨1,[nmA],[],0⟩,⟨2,[],[nmA,nmB],1⟩],1⟩
def exL3:DL:=⟨[⟨1,[nmA],[],0⟩,⟨2,[],[nmA,nmB],1⟩,⟨3,[],[nmB],2⟩],2⟩
def exL4:DL:=⟨[⟨2,[],[nmA,nmB],1⟩,⟨3,[],[nmB],2⟩],2⟩
def exL5:DL:=⟨[⟨2,[nmA,nmB],[],0⟩,⟨3,[],[nmB],2⟩],2⟩
theorem exL_1:zjk exL0 1 [nmA]=(true,exL1):=by kernel_rfl
theorem exL_2:zjk exL1 2 [nmA,nmB]=(false,exL2):=by kernel_rfl
theorem exL_3:zjk exL2 3 [nmB]=(false,exL3):=by kernel_rfl
theorem exL_w3:ze5 exL3 3=[2]:=by kernel_rfl
theorem exL_4:zow exL3 1=exL4:=by kernel_rfl
theorem exL_5:zjk exL4 3 [nmB]=(false,exL4):=by kernel_rfl
theorem exL_6:zjk exL4 2 []=(true,exL5):=by kernel_rfl
theorem exL_h2:zjb exL5 2=[nmA,nmB]:=by kernel_rfl
def exM2:DL:=⟨[⟨1,[nmA],[],0⟩,⟨2,[nmB],[],0⟩],0⟩
def exM3:DL:=⟨[⟨1,[nmA],[nmB],1⟩,⟨2,[nmB],[],0⟩],1⟩
def exM4:DL:=⟨[⟨1,[nmA],[nmB],1⟩,⟨2,[nmB],[nmA],2⟩],2⟩
def exM5:DL:=⟨[⟨1,[nmA],[nmB],1⟩,⟨2,[nmB],[nmA],2⟩,⟨4,[],[nmS],3⟩],3⟩
theorem exM_2:zjk exL1 2 [nmB]=(true,exM2):=by kernel_rfl
theorem exM_3:zjk exM2 1 [nmB]=(false,exM3):=by kernel_rfl
theorem exM_4:zjk exM3 2 [nmA]=(false,exM4):=by kernel_rfl
theorem exM_w1:ze5 exM4 1=[2]:=by kernel_rfl
theorem exM_w2:ze5 exM4 2=[1]:=by kernel_rfl
theorem exM_5:zjk exM4 4 [nmS]=(false,exM5):=by kernel_rfl
theorem exM_w4:ze5 exM5 4=[1,2]:=by kernel_rfl
theorem zoe:∀{S T:List Int},S.Pairwise (λa b=>a<b)->T.Pairwise (λa b=>a<b)->(∀x,x∈S↔x∈T)->S=T:=by
 intro S T hS hT h;have nS:S.Nodup:=hS.imp λ{a b} hab e=>by omega
 have nT:T.Nodup:=hT.imp λ{a b} hab e=>by omega
 refine zm0 ((perm_ext_iff_of_nodup nS nT).2 h) (hS.imp λ{a b} hab=>by omega) (hT.imp λ{a b} hab=>by omega)
theorem exM_round{s:Lk}(hr:Rel s exM4)(hk:s.Ok){L:List Int}(h:RoundIs s L):L=[1,2]:=by
 have w1:zev s 1=[2]:=by rw[ziv hr hk,exM_w1]
 have w2:zev s 2=[1]:=by rw[ziv hr hk,exM_w2]
 have hids:zcd s.W=[1,2]:=by rw[<-hr.zgv.ids];rfl
 have r12:Reach s 1 2:= .one (by rw[w1];simp);have r21:Reach s 2 1:= .one (by rw[w2];simp);have r11:Reach s 1 1:= .more r12 (by rw[w2];simp);have only:∀a,(a=1 \/ a=2)->∀b,Reach s a b->b=1 \/ b=2:=by
  intro a ha b hab
  induction hab with
  | one h=>
   rcases ha with rfl|rfl
   ·rw[w1]at h;right;simpa using h
   ·rw[w2]at h;left;simpa using h
  | more _ h2 ih=>
   rcases ih with rfl|rfl
   ·rw[w1]at h2;right;simpa using h2
   ·rw[w2]at h2;left;simpa using h2
 rcases h with⟨_,h⟩|⟨w,hw,hrw,hle,hp,hm⟩
 ·exact absurd r11 (h 1 (by rw[hids];simp))
 ·have hw1:w=1:=by
   rw[hids]at hw;have hw':w=1 \/ w=2:=by simpa using hw
   rcases hw' with h|h
   ·exact h
   ·exact absurd r11 (hle 1 (by rw[hids];simp) (by omega))
  subst hw1;refine zoe hp (by simp) λx=>?_;rw[hm];constructor
  ·rintro⟨h1,_⟩
   have:=only 1 (.inl rfl) x h1;simpa using this
  ·intro hx
   have hx:x=1 \/ x=2:=by simpa using hx
   rcases hx with rfl|rfl
   ·exact⟨r11,r11⟩
   ·exact⟨r12,r21⟩
variable{C:z5}{N:zN}
theorem zk1(sA:zu.Spec C N){h0 h:zb}{A:List Ob}{s:Lk}{d:DL}{k:Int}{names:List Key}{Q:zQ}(ho:zc6 h0 h (A++s.obs))(hk:s.Ok)(hr:Rel s d)(hg:zh0 d)(hb:d.zh3 <= 1000000)(hlen:d.L.length <= 1000)(hn:names.length <= 100000)
  (hq:∀(h':zb)(s':Lk),s'.Ok->zc6 h0 h' (A++s'.obs)->s'.l=s.l->Rel s' (zjk d k names).2->Q (.bool (zjk d k names).1) h'):∀id,h id=none->C (N 489) [.ptr s.l 0 0,.int .i64 k,.sl id 0 0 names.length 1 names.length] (upd h id (zdn (names.map λx=> .str x))) Q:=by
 intro id hid;have e:(names.map λx=>za.str x)=(names.map tc++[]).flatten:=by
  rw[append_nil];clear hn hq
  induction names with
  | nil=>rfl
  | cons n r ih=>rw[map_cons,map_cons,flatten_cons,ih];rfl
 have o1:=ho.newSl (id:=id) (n:=names.length) (cp:=names.length) (es:=1) (cs:=names.map λx=> .str x) (L:=names.map tc) (R:=[]) hid (λp hp=>by
  rw[append_nil]at hp;obtain⟨n,_,rfl⟩:=mem_map.1 hp;rfl) (by simp) (by simp) e
 have o2:zc6 h0 (upd h id (zdn (names.map λx=> .str x))) (([.sl 1 (.sl id 0 0 names.length 1 names.length) (names.map tc) []]++A)++s.obs):=o1.perm (by
  rw[append_assoc [_] A s.obs];exact perm_append_comm)
 have hl:=hr.last;have hgl:=hg.last;have hwl:s.W.length=d.L.length:=by
  have:=congrArg List.length hr.zgv.ids;simpa[zcd]using this.symm
 exact ask_fr sA o2 hk hr (by omega) (λH o=>o.zj4 0 rfl) hn (by omega) (by omega) λh' s' k1 o3 n1 l1 r1=>hq h' s' k1 (o3.sub (sublist_cons_self ..)) l1 r1
variable{C:z5}{N:zN}
def zdl.Spec(C:z5)(N:zN):Prop:=∀(x y:za)(L M:List Int)(R S:List (List za))(h:zb)(Q:zQ),SlX h 1 x (L.map icl) R->SlX h 1 y (M.map icl) S->L.length<4611686018427387904->Q (.bool (decide (L=M))) h->C (N 499) [x,y] h Q
theorem zdl.spec(i:zdl.Imp C N):zdl.Spec C N:=λx y L M R S h Q hx hy hlen hq=>i x y h Q (zr2 iS hx hy hlen (zbh hq))
theorem Rel.len{s:Lk}{d:DL}(hr:Rel s d):s.W.length=d.L.length:=by
 have:=congrArg List.length hr.zgv.ids;simpa[zcd]using this.symm
theorem litIx {h : zb} (L : List Int) {j : Nat} (hj : h j = none) : SlX (upd h j (zdn (L.map fun x => .int .i64 x))) 1 (.sl j 0 0 L.length 1 L.length) (L.map icl) [] :=
  ((zc6.start h).newSl (id := j) (n := L.length) (cp := L.length) (es := 1) (cs := L.map fun x => .int .i64 x) (L := L.map icl) (R := []) hj (fun p hp => by
    rw [append_nil] at hp
    obtain ⟨n, _, rfl⟩ := mem_map.1 hp
    rfl) (by simp) (by simp) (by
      rw [append_nil]
      induction L with
      | nil => rfl
      | cons n r ih => rw [map_cons, map_cons, flatten_cons, ih]; rfl)).zj4 0 rfl
theorem litTx {h : zb} (L : List Key) {j : Nat} (hj : h j = none) : SlX (upd h j (zdn (L.map fun x => .str x))) 1 (.sl j 0 0 L.length 1 L.length) (L.map tc) [] :=
  ((zc6.start h).newSl (id := j) (n := L.length) (cp := L.length) (es := 1) (cs := L.map fun x => .str x) (L := L.map tc) (R := []) hj (fun p hp => by
    rw [append_nil] at hp
    obtain ⟨n, _, rfl⟩ := mem_map.1 hp
    rfl) (by simp) (by simp) (by
      rw [append_nil]
      induction L with
      | nil => rfl
      | cons n r ih => rw [map_cons, map_cons, flatten_cons, ih]; rfl)).zj4 0 rfl
theorem held_len{s:Lk}{d:DL}(hr:Rel s d)(hk:s.Ok)(k:Int):(zrn s k).length <= (zjb d k).length:=by
 unfold zrn zjb;rcases hr.zgv.get (k:=k) with⟨w1,w2⟩|⟨e,dd,m1,m2,m3,w1,w2,hsw⟩
 ·rw[w1,w2];exact Nat.le_refl _
 ·rw[w1,w2]
  have h3:(zcd e.2.1.held).length <= dd.ze2.length:=List.Nodup.length_le_of_subset (hk.zgv e m1).held.2.2 λx hx=>(hsw.held x).1 hx;simpa[zcd]using h3
def zd2.Spec(C:z5)(N:zN):Prop:=∀(h:zb)(Q:zQ),Q (.bool true) h->C (N 482) [] h Q
theorem zh0.zero:zh0 exL0:=⟨Int.le_refl _,λw hw=>absurd hw (not_mem_nil),List.Pairwise.nil⟩
theorem zh0.of{d d':DL}{k:Int}{names:List Key}{b:Bool}(h:zh0 d)(e:zjk d k names=(b,d')):zh0 d':=by
 have:=(ask_good h k names).1;rw[e]at this;exact this
theorem zd2.spec(i:zd2.Imp C N)(sN:zez.Spec C N)(sA:zu.Spec C N)(sF:zcp.Spec C N)(sW:zcq.Spec C N)(sH:zc4.Spec C N)(sR:zw.Spec C N)(sT:zdk.Spec C N)(sL:zdl.Spec C N):zd2.Spec C N:=by
 intro h Q hq;have f1:zee [(0,none,.str [65])] (zf7 1 [.str []])=some [.str [65]]:=rfl;have f2:zee [(0,none,.str [65]),(1,none,.str [66])] (zf7 2 [.str []])=some [.str [65],.str [66]]:=rfl;have f3:zee [(0,none,.str [66])] (zf7 1 [.str []])=some [.str [66]]:=rfl;have f4:zee [(0,none,.int .i64 2)] (zf7 1 [.int .i64 0])=some [.int .i64 2]:=rfl;have g1:zh0 exL1:=zh0.zero.of exL_1;have g2:zh0 exL2:=g1.of exL_2;have g3:zh0 exL3:=g2.of exL_3;apply i;refine sN h _ λh1 s k1 w1 l1 o1=>?_;have r1:Rel s exL0:=⟨l1,by rw[w1];exact .nil⟩;have ep:V.zgk .eql (.ptr s.l 0 0) .zk4=some (.bool false):=rfl;simp -dsimp only[ep,B.ze,B.zov,Bool.not_false,B.z7,f1];intro j hj;simp -dsimp only[B.zov,B.zfl,Bool.not_false,B.z7];refine zk1 sA (A:=[]) (names:=[nmA]) o1 k1 r1 zh0.zero (by decide) (by decide) (by decide) (λh2 s2 k2 o2 l2 r2=>?_) j hj;rw[exL_1]at r2 ⊢;simp -dsimp only[V.zfn,Bool.not_true,Bool.not_false,B.ze,B.zov,B.z7,B.zf9,f2];rw[<-l2];intro j hj;simp -dsimp only[B.zov,B.zfl,Bool.not_false,B.z7];refine zk1 sA (A:=[]) (names:=[nmA,nmB]) o2 k2 r2 g1 (by decide) (by decide) (by decide) (λh3 s3 k3 o3 l3 r3=>?_) j hj;rw[exL_2]at r3 ⊢;simp -dsimp only[Bool.not_false,B.zov,B.z7,B.zf9,f3];rw[<-l3];intro j hj;simp -dsimp only[B.zov,B.zfl,Bool.not_false,B.z7];refine zk1 sA (A:=[]) (names:=[nmB]) o3 k3 r3 g2 (by decide) (by decide) (by decide) (λh4 s4 k4 o4 l4 r4=>?_) j hj;rw[exL_3]at r4 ⊢;simp -dsimp only[Bool.not_false,B.zov,B.z7,B.zf9];rw[<-l4];refine sW h4 s4 3 _ (at_fr o4 k4) k4 (by rw[r4.len];decide) λx5 h5 ox=>?_;rw[ziv r4 k4,show ze5 exL3 3=[2] from exL_w3]at ox;simp -dsimp only[Bool.not_false,B.zov,B.z7,f4];intro j hj;simp -dsimp only[Bool.not_false,B.zov,B.z7];refine sL x5 _ [2] [2] [] [] _ _ ((ox.zj4 0 rfl).mono (zgi _ hj)) (litIx [2] hj) (by decide) ?_;have o6:=o4.grow (zb.le_trans ox.le (zgi (zdn [.int .i64 2]) hj))
 simp -dsimp only[decide_true,V.zfn,Bool.not_true,Bool.not_false,B.ze,B.zov,B.z7,B.zf9,B.cond_false];refine free_fr sF (A:=[]) o6 k4 r4 λh7 k7 o7 r7=>?_;have r7:Rel (s4.del 1) exL4:=by rw[<-exL_4];exact r7
 have l5:(s4.del 1).l=s4.l:=rfl;rw[<-l5];generalize s4.del 1=s5 at k7 o7 r7;refine sN h7 _ λh8 t k8 w8 m8 o8=>?_;have t1:Rel t exL0:=⟨m8,by rw[w8];exact .nil⟩;have o9:zc6 h h8 (s5.obs++t.obs):=o7.join o8;have m2:zh0 exM2:=g1.of exM_2;have m3:zh0 exM3:=m2.of exM_3;have m4:zh0 exM4:=m3.of exM_4;have m5:zh0 exM5:=m4.of exM_5;have g4:zh0 exL4:=by rw[<-exL_4];exact free_good g3 1
 simp -dsimp only[f1];intro j hj;refine zk1 sA (names:=[nmA]) o9 k8 t1 zh0.zero (by decide) (by decide) (by decide) (λh2 t2 k2 o2 l2 r2=>?_) j hj;rw[exL_1]at r2 ⊢;simp -dsimp only[B.zfl,B.z7,f3];rw[<-l2];intro j hj;simp -dsimp only[B.zfl,B.z7];refine zk1 sA (names:=[nmB]) o2 k2 r2 g1 (by decide) (by decide) (by decide) (λh3 t3 k3 o3 l3 r3=>?_) j hj;rw[exM_2]at r3 ⊢;simp -dsimp only[B.zfl,B.z7,B.zek,f3];rw[<-l3];intro j hj;simp -dsimp only[B.zfl,B.z7];refine zk1 sA (names:=[nmB]) o3 k3 r3 m2 (by decide) (by decide) (by decide) (λh4 t4 k4 o4 l4 r4=>?_) j hj;rw[exM_3]at r4 ⊢;simp -dsimp only[V.zfn,Bool.not_false,B.ze,B.zfl,B.z7,B.zek,f1];rw[<-l4];intro j hj;simp -dsimp only[B.zfl,B.z7];refine zk1 sA (names:=[nmA]) o4 k4 r4 m3 (by decide) (by decide) (by decide) (λh5 t5 k5 o5 l5' r5=>?_) j hj;rw[exM_4]at r5 ⊢;simp -dsimp only[V.zfn,Bool.not_false,B.ze,B.zfl,B.z7,B.zek,f3];rw[<-l5'];intro j hj;refine zk1 sA (names:=[nmB]) (o5.perm perm_append_comm) k7 r7 g4 (by decide) (by decide) (by decide) (λh6 s6 k6 o6 l6 r6=>?_) j hj;rw[exL_5]at r6 ⊢;simp -dsimp only[V.zfn,Bool.not_false,B.ze,B.zfl,B.z7];rw[<-l6];refine ask_fr sA (names:=[]) (R:=[]) o6 k6 r6 (by rw[r6.len];decide) (λH o=>((zc6.start H).zed 1).zj4 0 rfl) (by decide) (by rw[r6.last];decide) (by rw[r6.last];decide) λh9 s9 k9 o9 n9 l9 r9=>?_;rw[exL_6]at r9 ⊢;simp -dsimp only[B.zfl,B.z7,B.zek];rw[<-l9];refine sH h9 s9 2 _ (at_fr o9 k9) k9 (Nat.le_trans (held_len r9 k9 2) (by decide)) λx1 h1 L1 p1 q1 ox1=>?_;have e1:L1=[nmA,nmB]:=by rw[holds_eq r9 k9 p1 q1];exact exL_h2
 subst e1;simp -dsimp only[B.zfl,B.z7,f2];intro j hj;simp -dsimp only[B.zfl,B.z7];refine sT x1 _ [nmA,nmB] [nmA,nmB] [] [] _ _ ((ox1.zj4 0 rfl).mono (zgi _ hj)) (litTx [nmA,nmB] hj) (by decide) ?_;have oA:=(o9.grow (zb.le_trans ox1.le (zgi (zdn [.str nmA,.str nmB]) hj))).perm perm_append_comm;simp -dsimp only[decide_true,B.zfl,B.z7,B.zek];refine sR _ t5 _ (at_fr oA k5) k5 (by rw[r5.len];decide) λhB x2 L2 rd ox2=>?_;have e2:L2=[1,2]:=exM_round r5 k5 rd;subst e2;have f5:zee [(0,none,.int .i64 1),(1,none,.int .i64 2)] (zf7 2 [.int .i64 0])=some [.int .i64 1,.int .i64 2]:=rfl;simp -dsimp only[B.zfl,B.z7,f5];intro j2 hj2;simp -dsimp only[B.zfl,B.z7];refine sL x2 _ [1,2] [1,2] [] [] _ _ ((ox2.zj4 0 rfl).mono (zgi _ hj2)) (litIx [1,2] hj2) (by decide) ?_;have oC:=oA.grow (zb.le_trans ox2.le (zgi (zdn [.int .i64 1,.int .i64 2]) hj2));have f6:zee [(0,none,.str [42])] (zf7 1 [.str []])=some [.str [42]]:=rfl;simp -dsimp only[decide_true,B.zfl,B.z7,B.zek,f6];intro j3 hj3;simp -dsimp only[B.zfl,B.z7];refine zk1 sA (names:=[nmS]) oC k5 r5 m4 (by decide) (by decide) (by decide) (λhD t6 k10 o10 l10 r10=>?_) j3 hj3;rw[exM_5]at r10 ⊢;simp -dsimp only[V.zfn,Bool.not_false,B.ze,B.zfl,B.z7,B.zek];rw[<-l10];refine sW hD t6 4 _ (at_fr o10 k10) k10 (by rw[r10.len];decide) λx3 hE ox3=>?_;rw[ziv r10 k10,show ze5 exM5 4=[1,2] from exM_w4]at ox3;simp -dsimp only[B.zfl,B.z7,f5];intro j4 hj4;simp -dsimp only[B.zfl,B.z7];refine sL x3 _ [1,2] [1,2] [] [] _ _ ((ox3.zj4 0 rfl).mono (zgi _ hj4)) (litIx [1,2] hj4) (by decide) ?_;simp -dsimp only[decide_true,B.zfl,B.z7,B.zek];exact zre (zb.le_trans o10.le (zb.le_trans ox3.le (zgi _ hj4))) hq
variable{C:z5}{N:zN}
section
variable{V:Type}
variable(E:V->List V)
variable{E}
variable{K:List V}{D:V->Option Nat}
end
variable{C:z5}{N:zN}
section
variable{T Ad:Type}(K:DK T Ad)
end
variable{C:z5}{N:zN}
def Kp2(h h':zb)(p:za)(o:Option Nat):Prop:=match o with
 | none=>∃x,A.ldv h p=some x /\ A.ldv h' p=some x
 | some n=>∃x,A.zl7 h p n=some x /\ A.zl7 h' p n=some x
theorem keepD1{h h':zb}{p:za}{o:Option Nat}{K:zQ}{v:za}(h1:Kp2 h h' p o)(hk:K v h'):B.keepS h [(p,o)] K v h':=by
 refine⟨λr hr=>?_,hk⟩;rw[mem_singleton.1 hr];unfold Kp2 at h1;cases o<;>exact h1
theorem zc6.rebase{h0 h h':zb}{l l':List Ob}(ho:zc6 h0 h l)(hn:zc6 h h' l'):∃h1:zb,h0.le h1 /\ h1.le h' /\ zc6 h1 h' l /\ AllAt h1 l':=by
 obtain⟨q1,q2⟩:=((ho.join hn).perm perm_append_comm).out;exact⟨_,q1.le,q2.le,q2,q1.is⟩
section
variable{E:zbc}{Mk:zb->Int->Int->List za->Prop}{v:List za->za}{h0 h h':zb}{k s:Nat}{D:List (List za)}
end
section
variable{E:zbc}{Mk:zb->Int->Int->List za->Prop}{v:List za->za}{h0 h h':zb}{x v5:za}{n k:Nat}{xs ys gs:Nat->za}{X F:Nat->List (List za)}{W:List (List za)}{Q:zQ}
end
variable{C:z5}{N:zN}
end Go.Ab
namespace Go.Ab
open List
variable{C:z5}{N:zN}
section
variable{h0 h:zb}{id:Nat}{B:Nat->List za}{D R:Nat->Nat->List (List za)}{xs:Nat->za}{Q:zQ}
end
end Go.Ab
namespace Go.Ab
open List
variable{C:z5}{N:zN}
structure BagK where
 es:Nat->Nat
 lim:Nat->Nat
 full:Nat->Bool
abbrev LK:=List (za×List (List za))
section
variable{b:BagK}{h0 h:zb}{id:Nat}{L:Nat->LK}{xs:Nat->za}{Q:zQ}
end
end Go.Ab
namespace Go.Ab
open List
variable{C:z5}{N:zN}
def two{α:Type}(a b:α):Nat->α:=λj=>if j=0 then a else b
section
variable{b post:List UInt8}{a:Nat}
end
end Go.Ab
namespace Go.Ab
open List
variable{C:z5}{N:zN}
theorem quo20{a:Nat}(h:a<4611686018427387904):V.bin .quo (.int .i64 (a:Int)) (.int .i64 20)=some (.int .i64 ((a / 20:Nat):Int)):=by
 rw[V.bin_quo _ _ _ (by omega),show (a:Int).tdiv 20=((a / 20:Nat):Int) from rfl,wrap_i64 (by omega) (by omega)]
variable{C:z5}{N:zN}
def zfg.Spec(C:z5)(N:zN):Prop:=∀(a m:Int)(h:zb)(Q:zQ),0<m->m <= 4611686018427387904->(∀n:Int,0 <= n->n<m->Q (.int .i64 n) h)->C (N 155) [.int .i64 a,.int .i64 m] h Q
theorem zfg.spec(i:zfg.Imp C N):zfg.Spec C N:=by
 intro a m h Q h1 h2 hq;apply i;have k1:=Int.tmod_lt_of_pos a h1;have k2:=Int.lt_tmod_of_pos a h1;have hm:m≠0:=by omega
 simp -dsimp[hm,show ¬ m<1 by omega];refine B.zbe (λhb=>?_) (λhb=>?_)<;>simp -dsimp at hb ⊢
 ·rw[wrap_i64 (by omega) (by omega)]
  exact zbh (hq _ (by omega) (by omega))
 ·exact zbh (hq _ hb k1)
variable{C:z5}{N:zN}
structure Stp where
 Op:Int
 Work:Int
 Names:List Key
def zko:DK Stp za where
 n:=3
 bytes:=40
 z:=[.int .i64 0,.int .i64 0,.zed]
 pos:=by omega
 small:=by omega
 zlen:=rfl
 cells t a:=[.int .i64 t.Op,.int .i64 t.Work,a]
 len _ _:=rfl
 at_ h t a:=∃R,SlX h 1 a (t.Names.map tc) R
 mono hle ha:=ha.imp λ_ r=>r.mono hle
 ok _:=True
 at_ok _:=trivial
 obs b t a:=[zn9 b a t.Names]
 ofObs {b h t a} _ ha:=⟨_,show SlX h 1 a (t.Names.map tc) (bif b then zgh else []) from ha (zn9 b a t.Names) (by simp)⟩
def Stp.inLen(t:Stp):Prop:=t.Names.length<100000000000000000 /\ ∀n∈t.Names,n.length<4611686018427387904
theorem Dl.upTo{T Ad:Type}{K:DK T Ad}{h:zb}{x:za}{L:List T}(hd:Dl K h x L){m:Nat}(hm:m <= L.length):∃y,V.zh9 K.n x none (some (.int .i64 (m:Int)))=some y /\ Dl K h y (L.take m):=by
 obtain⟨P,R,e,s,ha⟩:=hd;have hl:P.length=L.length:=by rw[<-e,length_map]
 obtain⟨y,e1,e2,e3⟩:=s.slice K.pos (lo:=0) (hi:=m) (a:=none) (b:=some (.int .i64 m)) (.inl ⟨rfl,rfl⟩) (.inr ⟨_,rfl⟩) (Nat.zero_le _) (by rw[length_map];omega);rw[drop_zero,take_append_of_le_length (by rw[length_map];omega),<-map_take]at e2;exact⟨y,e1,P.take m,_,by rw[map_take,e],e2,λq hq=>ha q (mem_of_mem_take hq)⟩
structure StpAt(h:zb)(x:za)(i:Nat)(r:Stp)(a:za):Prop where
 idx:V.zda 3 x (.int .i64 (i:Int))=some (elp 3 x i 0)
 f0:V.fieldAddr 0 (elp 3 x i 0)=some (elp 3 x i 0)
 f1:V.fieldAddr 1 (elp 3 x i 0)=some (elp 3 x i 1)
 f2:V.fieldAddr 2 (elp 3 x i 0)=some (elp 3 x i 2)
 l0:A.ldv h (elp 3 x i 0)=some (.int .i64 r.Op)
 l1:A.ldv h (elp 3 x i 1)=some (.int .i64 r.Work)
 l2:A.ldv h (elp 3 x i 2)=some a
 ldn:A.zl7 h (elp 3 x i 0) 3=some (.agg [.int .i64 r.Op,.int .i64 r.Work,a])
 at_:∃R,SlX h 1 a (r.Names.map tc) R
 len:V.zde a=some (.int .i64 (r.Names.length:Int))
theorem zmy{h:zb}{x:za}{L:List Stp}(hx:Dl zko h x L){i:Nat}{r:Stp}(hr:L[i]?=some r):∃a,StpAt h x i r a:=by
 obtain⟨a,ea⟩:=hx.get hr;obtain⟨R1,a1⟩:∃R,SlX h 1 a (r.Names.map tc) R:=ea.at_;exact⟨a,ea.idx,ea.fld 0 0,ea.fld 0 1,ea.fld 0 2,ea.ld 0 (by decide),ea.ld 1 (by decide),ea.ld 2 (by decide),ea.ldn,⟨R1,a1⟩,by simpa using a1.zde⟩
theorem StpAt.mono'{h h':zb}{x:za}{L:List Stp}{i:Nat}{r:Stp}{a:za}(ea:StpAt h x i r a)(hle:h.le h')(hx:Dl zko h x L)(hr:L[i]?=some r):A.ldv h' (elp 3 x i 2)=some a:=by
 obtain⟨P,R,rfl,s,ha⟩:=hx;rw[getElem?_map]at hr;obtain⟨p,hp,rfl⟩:=Option.map_eq_some_iff.1 hr;have e1:=(slX_el s ha hp).ld 2 (by decide);have e2:=(slX_el (s.mono hle) (λq hq=>zko.mono hle (ha q hq)) hp).ld 2 (by decide);have e3:A.ldv h' (elp 3 x i 2)=A.ldv h (elp 3 x i 2):=e2.trans e1.symm;rw[e3,ea.l2]
def zk6(L:List Stp):Nat:=(L.map λt=>t.Names.length).sum
theorem zqt{L:List Stp}{k:Nat}{r:Stp}(hr:L[k]?=some r):zk6 (L.take (k+1))=zk6 (L.take k)+r.Names.length:=by
 unfold zk6;rw[take_add_one,hr,map_append,sum_append];simp
theorem zqu{L:List Stp}{k:Nat}:zk6 (L.take k) <= zk6 L:=by
 unfold zk6
 conv=>rhs;rw[<-take_append_drop k L,map_append,sum_append]
 omega
def zck.Spec(C:z5)(N:zN):Prop:=∀(x:za)(L:List Stp)(h:zb)(Q:zQ),Dl zko h x L->L.length<4611686018427387904->(∀t∈L,t.inLen)->(∀b:Bool,(b=false->zk6 L <= 2000)->Q (.bool b) h)->C (N 486) [x] h Q
theorem leq2000{n:Nat}:V.bin .leq (.int .i64 (n:Int)) (.int .i64 2000)=some (.bool (decide (n <= 2000))):=by rw[V.bin_leq];congr 3;exact propext (by omega)
theorem gtr2000{n:Nat}:V.bin .gtr (.int .i64 (n:Int)) (.int .i64 2000)=some (.bool (decide (2000<n))):=by rw[V.znc];congr 3;exact propext (by omega)
theorem zck.spec(i:zck.Imp C N):zck.Spec C N:=by
 intro x L h Q hx hlen hin hq;apply i;refine z0.intro (λt vs hh=>hh=h /\ ∃k n:Nat,k+t=L.length /\ vs=[.int .i64 (n:Int),.int .i64 (k:Int)] /\ n<1000000000000000000 /\ (n <= 2000->zk6 (L.take k) <= n)) L.length ?_ ⟨rfl,0,0,by omega,rfl,by omega,λ_=>Nat.le_refl _⟩;rintro Y t vs h ⟨rfl,k,n,ht,rfl,hn,hall⟩ hY;have hend:(2000<n \/ k=L.length)->dn Q (.bool (decide ((2000:Int)<(n:Int)))) h:=λhor=>by
  rw[show decide ((2000:Int)<(n:Int))=decide (2000<n) from decide_eq_decide.2 (by omega)];refine zbh (hq _ λe=>?_);have h4:¬ 2000<n:=of_decide_eq_false e;have hk:k=L.length:=hor.resolve_left h4;rw[hk,take_length]at hall;have:=hall (by omega);omega
 simp -dsimp only[zck.l4,zck.k3,hx.zde,zoq,leq2000,gtr2000,B.ze];by_cases hk:k<L.length
 rotate_left
 ·simp -dsimp only[hk,decide_false,B.zov,Bool.not_false,B.z7,B.zf9,B.cond_false,B.zfl,B.zfj]
  have:=hend (.inr (by omega));simpa -dsimp using this
 by_cases h4:n <= 2000
 rotate_left
 ·have:=hend (.inl (by omega))
  have h4':¬ (n:Int) <= 2000:=by omega
  simpa -dsimp[hk,h4']using this
 have h4':(n:Int) <= 2000:=by omega
 obtain⟨r,hr⟩:=zfv hk;have hrm:=mem_of_getElem? hr;obtain⟨n1,n2⟩:=hin r hrm;obtain⟨a,ea⟩:=zmy hx hr;obtain⟨R,ha⟩:=ea.at_;have ns:=zqt hr;simp -dsimp[hk,h4',-zck.l2];refine z0.intro (λt vs h2=>h2=h /\ ∃q m:Nat,q+t=r.Names.length /\ vs=[.int .i64 (m:Int),.int .i64 (q:Int)] /\ m<1000000000000000000 /\ (m <= 2000->zk6 (L.take k)+q <= m)) r.Names.length ?_ ⟨rfl,0,n,by omega,rfl,hn,hall⟩;rintro Z t2 vs h2 ⟨rfl,q,m,ht2,rfl,hm,hle⟩ hZ;have hout:(2000<m \/ q=r.Names.length)->Y [.int .i64 (m:Int),.int .i64 ((k+1:Nat):Int)] h2:=λhor=>by
  refine hY (t-1) _ _ (by omega) ⟨rfl,k+1,m,by omega,rfl,hm,λhm2=>?_⟩;have:=hle hm2;have hq:q=r.Names.length:=hor.resolve_left (by omega);omega
 have ak1:=zgm (show k<4611686018427387904 by omega);simp -dsimp only[zck.l2,zck.k1,ea.idx,ea.f2,ea.l2,ea.len,B.zeh,zoq,leq2000,B.ze,zgm (show k<4611686018427387904 by omega)];by_cases hq':q<r.Names.length
 rotate_left
 ·have:=hout (.inr (by omega))
  simpa -dsimp[hq',-V.zia,ak1]using this
 by_cases h5:m <= 2000
 rotate_left
 ·have:=hout (.inl (by omega))
  have h5':¬ (m:Int) <= 2000:=by omega
  simpa -dsimp[hq',h5',-V.zia,ak1]using this
 have h5':(m:Int) <= 2000:=by omega
 have g1:(r.Names.map tc)[q]?=some (tc r.Names[q]):=by rw[getElem?_map,getElem?_eq_getElem hq'];rfl
 have i1:V.zda 1 a (.int .i64 (q:Int))=some (elp 1 a q 0):=ha.zmq (by simpa using hq');have c1:A.ldv h2 (elp 1 a q 0)=some (.str r.Names[q]):=ha.cell g1;have hnl:=n2 _ (getElem_mem hq');have lc:V.zny (.str r.Names[q])=some (.int .i64 (r.Names[q].length:Int)):=rfl;have key:Z [.int .i64 ((m+1+r.Names[q].length / 20:Nat):Int),.int .i64 ((q+1:Nat):Int)] h2:=by
  refine hZ (t2-1) _ _ (by omega) ⟨rfl,q+1,m+1+r.Names[q].length / 20,by omega,rfl,by omega,λhm2=>?_⟩;have:=hle (by omega);omega
 simp -dsimp only[hq',decide_true,B.zfl,B.z7,leq2000,h5,B.ze,B.zek,B.cond_true,ea.idx,ea.f2,ea.l2,B.zeh,i1,c1,lc,quo20 hnl,zgm (show m<4611686018427387904 by omega),zgm (show q<4611686018427387904 by omega),zpv (a:=m+1) (b:=r.Names[q].length / 20) (by omega)];exact key
def zlx(d:DL)(n:Nat):Prop:=∀w∈d.L,w.ze2.length+w.zfq.length <= n
theorem zlx.mono{d:DL}{n m:Nat}(h:zlx d n)(hm:n <= m):zlx d m:=λw hw=>Nat.le_trans (h w hw) hm
theorem putT_le1(l:List Key)(s:Key):(zhf l s).length <= l.length+1:=by
 induction l with
 | nil=>simp[zhf]
 | cons a r ih=>
  unfold zhf
  repeat' split
  all_goals simp only[length_cons]<;>omega
theorem wantD_len(w:DW)(names:List Key):(zf6 w names).length <= w.zfq.length+names.length:=by
 unfold zf6;generalize w.zfq=a
 induction names generalizing a with
 | nil=>simp
 | cons x r ih=>
  rw[foldl_cons,length_cons];refine Nat.le_trans (ih _) ?_;split
  ·have:=putT_le1 a x;omega
  ·omega
theorem puts_len(B H:List Key):(B.foldl zhf H).length <= H.length+B.length:=by
 induction B generalizing H with
 | nil=>simp
 | cons x r ih=>
  rw[foldl_cons,length_cons];have:=ih (zhf H x);have:=putT_le1 H x;omega
theorem workD_small{d:DL}{n:Nat}(h:zlx d n)(k:Int):(ze3 d k).ze2.length+(ze3 d k).zfq.length <= n:=by
 unfold ze3;cases e:findD d.L k with
 | none=>simp
 | some w=>exact h w (zlr e).1
theorem ask_small{d:DL}{n:Nat}(h:zlx d n)(k:Int)(names:List Key):zlx (zjk d k names).2 (n+names.length):=by
 have h1:=workD_small h k;have h2:=wantD_len (ze3 d k) names;have h3:=puts_len (zf6 (ze3 d k) names) (ze3 d k).ze2;unfold zjk;simp only;split
 all_goals
  intro w hw;rcases zl4 hw with rfl|hw
  ·simp only[length_nil];omega
  ·have:=h w hw;omega
theorem free_small{d:DL}{n:Nat}(h:zlx d n)(k:Int):zlx (zow d k) n:=λw hw=>h w (znv hw)
theorem holdsD_len{d:DL}{n:Nat}(h:zlx d n)(k:Int):(zjb d k).length <= n:=by
 unfold zjb;cases e:findD d.L k with
 | none=>simp
 | some w=>have:=h w (zlr e).1;simp only;omega
variable{C:z5}{N:zN}
theorem eql0N{n:Nat}:V.bin .eql (.int .i64 (n:Int)) (.int .i64 0)=some (.bool (decide (n=0))):=by rw[V.zf3];congr 3;exact propext (by omega)
structure zkl(s:Lk)(d:DL)(k n:Nat):Prop where
 ok:s.Ok
 rel:Rel s d
 zpg:zh0 d
 apart:zpo d
 last:d.zh3 <= k
 len:d.L.length <= k
 small:zlx d n
theorem zkl.zero{s:Lk}(hk:s.Ok)(hw:s.W=[])(hl:s.last=0):zkl s ⟨[],0⟩ 0 0:=
 ⟨hk,⟨hl,by rw[hw];exact .nil⟩,⟨Int.le_refl _,λw hw=>absurd hw (not_mem_nil),List.Pairwise.nil⟩,λa ha=>absurd ha (not_mem_nil),Int.le_refl _,Nat.le_refl _,λw hw=>absurd hw (not_mem_nil)⟩
theorem zkl.mono{s:Lk}{d:DL}{k n k' n':Nat}(h:zkl s d k n)(hk:k <= k')(hn:n <= n'):zkl s d k' n':=
 ⟨h.ok,h.rel,h.zpg,h.apart,by have:=h.last;omega,by have:=h.len;omega,h.small.mono hn⟩
section
variable{h0 h:zb}{A:List Ob}{s:Lk}{d:DL}{k n:Nat}{w:Int}
theorem zkl.ask(sA:zu.Spec C N)(hv:zkl s d k n)(ho:zc6 h0 h (A++s.obs))(hkk:k <= 1000){names:List Key}{x:za}{R:List (List za)}(hx:∀H,zc6 h0 H A->SlX H 1 x (names.map tc) R)(hn:names.length <= 100000){Q:zQ}
  (hq:∀(h':zb)(s':Lk),zkl s' (zjk d w names).2 (k+1) (n+names.length)->zc6 h0 h' (A++s'.obs)->s'.l=s.l->Q (.bool (zjk d w names).1) h'):C (N 489) [.ptr s.l 0 0,.int .i64 w,x] h Q:=by
 have e1:=hv.rel.len;have e2:=hv.rel.last;have e3:=hv.len;have e4:=hv.last;have e5:=hv.zpg.last;refine ask_fr sA ho hv.ok hv.rel (by omega) hx hn (by omega) (by omega) λh' s' k1 o1 n1 l1 r1=>hq h' s' ?_ o1 l1;have g:=ask_good hv.zpg w names;exact⟨k1,r1,g.1,ask_apart hv.apart w names,by omega,by omega,ask_small hv.small w names⟩
theorem zkl.free(sF:zcp.Spec C N)(hv:zkl s d k n)(ho:zc6 h0 h (A++s.obs)){Q:zQ}
  (hq:∀(h':zb)(s':Lk),zkl s' (zow d w) k n->zc6 h0 h' (A++s'.obs)->s'.l=s.l->Q (.tup []) h'):C (N 488) [.ptr s.l 0 0,.int .i64 w] h Q:=by
 refine free_fr sF ho hv.ok hv.rel λh' k1 o1 r1=>hq h' _ ⟨k1,r1,free_good hv.zpg w,free_apart hv.apart w,hv.last,?_,free_small hv.small w⟩ o1 rfl;have e3:=hv.len;have sub:∀L:List DW,(delD L w).length <= L.length:=by
  intro L
  induction L with
  | nil=>exact Nat.le_refl _
  | cons q L ih=>
   unfold delD;split
   ·simp
   ·simp only[length_cons];omega
 exact Nat.le_trans (sub d.L) e3
end
variable{C:z5}{N:zN}
section
variable{g:Key->Option Key}{ks:Key->Prop}{E:Key->Key->Prop}
end
variable{C:z5}{N:zN}
theorem putT_at{s:Key}:∀{L:List Key}{k:Nat},(∀x∈L.take k,zgo x s=true)->k <= L.length->(∀x,L[k]?=some x->zgo x s=false)->zhf L s=if L[k]?=some s then L else L.take k++s::L.drop k
 | [],0,_,_,_=>rfl
 | [],k+1,_,h,_=>by simp at h
 | x::l,0,_,_,h=>by
  have:=h x rfl
  unfold zhf
  rw[if_neg (by rw[this];exact Bool.false_ne_true)]
  by_cases e:x=s
  ·rw[if_pos e,if_pos (by rw[e];rfl)]
  ·have h0:¬ (x::l)[0]?=some s:=λh=>e (Option.some.inj h)
   rw[if_neg e,if_neg h0];rfl
 | x::l,k+1,h1,h2,h3=>by
  have hx:=h1 x (by simp)
  unfold zhf
  rw[if_pos hx,putT_at (k:=k) (λy hy=>h1 y (by simp[hy])) (by simpa using h2) (λy hy=>h3 y hy)]
  by_cases e:l[k]?=some s
  ·rw[if_pos e,if_pos (by exact e)]
  ·rw[if_neg e,if_neg (by exact e)];rfl
end Go.Ab
