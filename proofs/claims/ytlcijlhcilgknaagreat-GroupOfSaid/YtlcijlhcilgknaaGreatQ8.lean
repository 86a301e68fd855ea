/- What is proved: a part of the way to the statement: SrtP2. No conditions. -/
import Derived.Test.YtlcijlhcilgknaaGreatQ7
import Derived.Test.YtlcijlhcilgknaaGreatQ3
import Derived.Test.YtlcijlhcilgknaaGreatQ6
import Derived.KernelRfl
import Derived.Test.YtlcijlhcilgknaaGreatQ2
import Derived.Lib.Bytealg
set_option linter.unusedVariables false
set_option linter.unusedSimpArgs false
namespace Go.Ab
variable {C:CSem}
structure PInv {X:Type} (c:X->X->Int) (a b:Nat) (G:List X) (i j:Nat):Prop where
 hb:b <= G.length
 hi:a<i
 hj:j<b
 hij:i <= j+1
 lo: ∀ k (h:k<G.length) (ha:a<G.length),a<k->k<i->c G[k] G[a]<0
 hi2: ∀ k (h:k<G.length) (ha:a<G.length),j<k->k<b-> ¬ c G[k] G[a]<0
structure zkm {X:Type} (c:X->X->Int) (a b m:Nat) (G:List X):Prop where
 ge:a <= m
 lt:m<b
 hb:b <= G.length
 lo: ∀ k (h:k<G.length) (hm:m<G.length),a <= k->k<m->c G[k] G[m]<0
 hi: ∀ k (h:k<G.length) (hm:m<G.length),m<k->k<b-> ¬ c G[k] G[m]<0
section
variable {E:zx} {X:Type} {cs:X->List AVal} {v:X->AVal} {h0 h:za} {x f:AVal} {G:List X} {R:List (List AVal)} {c:X->X->Int} {Q:zQ} {Y1:zL} {a b i j:Nat}
theorem zg3 {X:Type} {G:List X} {i j:Nat} (hi:i<G.length) (hj:j<G.length) {k:Nat} (hk:k<(swp G i j hi hj).length) (hk':k<G.length):(swp G i j hi hj)[k]=if k=j then G[i] else if k=i then G[j] else G[k]:=by
 have:=swp_get hi hj k
 rw [List.getElem?_eq_getElem hk] at this
 split at this
 ·rename_i e;rw [if_pos e];exact Option.some.inj this
 ·rename_i e;rw [if_neg e]
  split at this
  ·rename_i e2;rw [if_pos e2];exact Option.some.inj this
  ·rename_i e2;rw [if_neg e2,List.getElem?_eq_getElem hk'] at *;exact Option.some.inj this
theorem zis {X:Type} {G:List X} {i j:Nat} (hi:i<G.length) (hj:j<G.length):(swp G i j hi hj).length=G.length:=by simp [swp]
theorem PInv.done (p:PInv c a b G i j) (hab:a<b) (hc:j<i) (hj:j<G.length) (ha:a<G.length):zkm c a b j (swp G j a hj ha):=by
 have h1:=p.hi;have h2:=p.hij;have h3:=p.hj;have h4:=p.hb
 have hl:=zis hj ha
 have pj: ∀ (hm:j<(swp G j a hj ha).length),(swp G j a hj ha)[j]=G[a]:=fun hm=>by
  rw [zg3 hj ha hm hj]
  by_cases e:j=a
  ·subst e;simp
  ·rw [if_neg e,if_pos rfl]
 refine ⟨by omega,h3,by omega,fun k hk hm k1 k2=> ?_,fun k hk hm k1 k2=> ?_⟩
 ·rw [pj,zg3 hj ha hk (by omega)]
  by_cases e:k=a
  ·rw [if_pos e];exact p.lo j hj ha (by omega) (by omega)
  ·rw [if_neg e,if_neg (by omega)];exact p.lo k (by omega) ha (by omega) (by omega)
 ·rw [pj,zg3 hj ha hk (by omega),if_neg (by omega),if_neg (by omega)]
  exact p.hi2 k (by omega) ha k1 k2
theorem PInv.swap (p:PInv c a b G i j) (hc:i <= j) (hi:i<G.length) (hj:j<G.length) (ha:a<G.length) (h1: ¬ c G[i] G[a]<0) (h2:c G[j] G[a]<0):PInv c a b (swp G i j hi hj) (i+1) (j-1):=by
 have k1:=p.hi;have k2:=p.hij;have k3:=p.hj;have k4:=p.hb
 have hne:i≠j:=fun e=>by subst e;exact h1 h2
 have hl:=zis hi hj
 have pa: ∀ (hm:a<(swp G i j hi hj).length),(swp G i j hi hj)[a]=G[a]:=fun hm=>by rw [zg3 hi hj hm ha,if_neg (by omega),if_neg (by omega)]
 refine ⟨by omega,by omega,by omega,by omega,fun k hk hm q1 q2=> ?_,fun k hk hm q1 q2=> ?_⟩
 ·rw [pa,zg3 hi hj hk (by omega),if_neg (by omega)]
  by_cases e:k=i
  ·rw [if_pos e];exact h2
  ·rw [if_neg e];exact p.lo k (by omega) ha q1 (by omega)
 ·rw [pa,zg3 hi hj hk (by omega)]
  by_cases e:k=j
  ·rw [if_pos e];exact h1
  ·rw [if_neg e,if_neg (by omega)];exact p.hi2 k (by omega) ha (by omega) q2
theorem part_j (S:zdc E cs v) (hc:zd0 C v c f h0) (ho:Rw E cs h0 h x G R) (hl:G.length<4611686018427387904) (hab:a<b) (p:PInv c a b G i j) (hi0:j<i \/ ∀ (h1:i<G.length) (h2:a<G.length),¬ c G[i] G[a]<0)
  (done: ∀ h' j',PInv c a b G i j'->j'<i->Rw E cs h0 h' x G R->ze.k1 C E Q x (.int .i64 (a:Int)) (.int .i64 (j':Int)) h')
  (next: ∀ h' j' (hi:i<G.length) (hj:j'<G.length) ,PInv c a b (swp G i j' hi hj) (i+1) (j'-1)->i<j'->j'<b->Rw E cs h0 h' x (swp G i j' hi hj) R->Y1 [.int .i64 ((i+1:Nat):Int),.int .i64 ((j'-1:Nat):Int)] h'):
  zg (ze.l4 C E Q Y1 x (.int .i64 (a:Int)) f (.int .i64 (i:Int))) [.int .i64 (j:Int)] h:=by
 refine zg.intro (fun t vs hh=>hh=h /\ ∃ j':Nat,t=j' /\ vs=[.int .i64 (j':Int)] /\ PInv c a b G i j' /\ (j'<i \/ ∀ (h1:i<G.length) (h2:a<G.length),¬ c G[i] G[a]<0)) j ?_ ⟨rfl,j,rfl,rfl,p,hi0⟩
 rintro Y j' vs hh ⟨rfl,_,rfl,rfl,p,hi0⟩ hY
 have k1:=p.hi;have k2:=p.hij;have k3:=p.hj;have k4:=p.hb
 have la:a<G.length:=by omega
 have lj:j'<G.length:=by omega
 simp -dsimp only [ze.l4,ze.k3,leqN,B.zd]
 by_cases hle:i <= j'
 ·have li:i<G.length:=by omega
  simp -dsimp only [hle,decide_true,B.gd_t,B.zde,ho.idx lj,ho.idx la,B.zd]
  refine ho.ld S (List.getElem?_eq_getElem lj) ?_
  refine ho.ld S (List.getElem?_eq_getElem la) ?_
  refine hc.call _ _ _ _ ho.le ?_
  simp -dsimp only [hle,decide_true,B.gd_t,B.zde,V.zd4,V.zia,B.zgg,B.zd]
  refine B.zn (fun hd=> ?_) (fun hd=> ?_)
  ·have hd': ¬ c G[j'] G[a]<0:=by simpa using hd
   have e1:=zg4 (a:=j') (b:=1) (by omega) (by omega)
   have e1':V.bin .sub (.int .i64 (j':Int)) (.int .i64 1)=some (.int .i64 ((j'-1:Nat):Int)):=e1
   simp -dsimp only [e1',B.zd]
   refine hY (j'-1) _ _ (by omega) ⟨rfl,j'-1,rfl,rfl,⟨k4,k1,by omega,by omega,p.lo,fun k hk ha q1 q2=> ?_⟩,?_⟩
   ·by_cases e:k=j'
    ·subst e;exact hd'
    ·exact p.hi2 k hk ha (by omega) q2
   ·rcases hi0 with h|h
    ·omega
    ·exact .inr h
  ·have hd':c G[j'] G[a]<0:=by simpa using hd
   have hni: ¬ c G[i] G[a]<0:=by
    rcases hi0 with h|h
    ·omega
    ·exact h li la
   simp -dsimp only [ze.k2,gtrN,show ¬ j'<i by omega,decide_false,B.cond_false,ho.idx lj,ho.idx li,B.zd]
   refine ho.ld S (List.getElem?_eq_getElem lj) ?_
   refine ho.ld S (List.getElem?_eq_getElem li) ?_
   refine ho.st S (t:=G[j']) li fun h1 o1=> ?_
   refine o1.st S (t:=G[i]) (by simpa using lj) fun h2 o2=> ?_
   have e1':V.bin .sub (.int .i64 (j':Int)) (.int .i64 1)=some (.int .i64 ((j'-1:Nat):Int)):=zg4 (a:=j') (b:=1) (by omega) (by omega)
   simp -dsimp only [add1 (show i<4611686018427387904 by omega),e1',B.zd]
   have hne:i≠j':=fun e=>by subst e;exact hni hd'
   exact next h2 j' li lj (p.swap hle li lj la hni hd') (by omega) k3 o2
 ·simp -dsimp only [hle,decide_false,B.gd_t,B.ze1,B.zhc,B.cond_false,ze.k2,gtrN,show j'<i by omega,decide_true,B.cond_true,B.zd]
  exact done hh j' p (by omega) ho
theorem part_i (S:zdc E cs v) (hc:zd0 C v c f h0) (ho:Rw E cs h0 h x G R) (hl:G.length<4611686018427387904) (hab:a<b) (p:PInv c a b G i j)
  (done: ∀ h' i' j',PInv c a b G i' j'->j'<i'->Rw E cs h0 h' x G R->ze.k1 C E Q x (.int .i64 (a:Int)) (.int .i64 (j':Int)) h')
  (next: ∀ h' i' j' (hi:i'<G.length) (hj:j'<G.length),PInv c a b (swp G i' j' hi hj) (i'+1) (j'-1)->a<i'->i <= i'->i'<j'->j'<b->Rw E cs h0 h' x (swp G i' j' hi hj) R->Y1 [.int .i64 ((i'+1:Nat):Int),.int .i64 ((j'-1:Nat):Int)] h'):
  zg (ze.l6 C E Q Y1 x (.int .i64 (a:Int)) f (.int .i64 (j:Int))) [.int .i64 (i:Int)] h:=by
 refine zg.intro (fun t vs hh=>hh=h /\ ∃ i':Nat,i'+t=b /\ i <= i' /\ vs=[.int .i64 (i':Int)] /\ PInv c a b G i' j) (b-i) ?_ ⟨rfl,i,by have:=p.hij;have:=p.hj;omega,Nat.le_refl _,rfl,p⟩
 rintro Y t vs hh ⟨rfl,i',hit,hii,rfl,p⟩ hY
 have k1:=p.hi;have k2:=p.hij;have k3:=p.hj;have k4:=p.hb
 have la:a<G.length:=by omega
 simp -dsimp only [ze.l6,ze.k5,leqN,B.zd]
 by_cases hle:i' <= j
 ·have li:i'<G.length:=by omega
  simp -dsimp only [hle,decide_true,B.gd_t,B.zde,ho.idx li,ho.idx la,B.zd]
  refine ho.ld S (List.getElem?_eq_getElem li) ?_
  refine ho.ld S (List.getElem?_eq_getElem la) ?_
  refine hc.call _ _ _ _ ho.le ?_
  simp -dsimp only [hle,decide_true,B.gd_t,B.zde,V.zd4,B.zgg,B.zd]
  refine B.zn (fun hd=> ?_) (fun hd=> ?_)
  ·have hd':c G[i'] G[a]<0:=by simpa using hd
   simp -dsimp only [add1 (show i'<4611686018427387904 by omega),B.zd]
   refine hY (b-(i'+1)) _ _ (by omega) ⟨rfl,i'+1,by omega,by omega,rfl,⟨k4,by omega,k3,by omega,fun k hk ha q1 q2=> ?_,p.hi2⟩⟩
   by_cases e:k=i'
   ·subst e;exact hd'
   ·exact p.lo k hk ha q1 (by omega)
  ·have hd': ¬ c G[i'] G[a]<0:=by simpa using hd
   exact part_j S hc ho hl hab p (.inr fun _ _=>hd') (fun h' j' p' hlt o'=>done h' i' j' p' hlt o') fun h' j' hi hj p' h1 h2 o'=>next h' i' j' hi hj p' k1 hii h1 h2 o'
 ·simp -dsimp only [hle,decide_false,B.gd_t,B.ze1,B.zhc,B.cond_false]
  exact part_j S hc ho hl hab p (.inl (by omega)) (fun h' j' p' hlt o'=>done h' i' j' p' hlt o') fun h' j' hi hj p' h1 h2 o'=>next h' i' j' hi hj p' k1 hii h1 h2 o'
theorem part_end (S:zdc E cs v) (ho:Rw E cs h0 h x G R) (hab:a<b) (p:PInv c a b G i j) (hlt:j<i) (hq: ∀ h' m G',zkm c a b m G'->zcp a b G G'->Rw E cs h0 h' x G' R->Q (.tup [.int .i64 (m:Int),.bool false]) h'):
  ze.k1 C E Q x (.int .i64 (a:Int)) (.int .i64 (j:Int)) h:=by
 have k1:=p.hi;have k2:=p.hij;have k3:=p.hj;have k4:=p.hb
 have la:a<G.length:=by omega
 have lj:j<G.length:=by omega
 simp -dsimp only [ze.k1,ho.idx lj,ho.idx la,B.zd]
 refine ho.ld S (List.getElem?_eq_getElem la) ?_
 refine ho.ld S (List.getElem?_eq_getElem lj) ?_
 refine ho.st S (t:=G[a]) lj fun h1 o1=> ?_
 refine o1.st S (t:=G[j]) (by simpa using la) fun h2 o2=> ?_
 exact hq h2 j _ (p.done hab hlt lj la) (zef lj la (by omega) k3 (Nat.le_refl _) hab) o2
theorem zst (S:zdc E cs v) (hc:zd0 C v c f h0) (ho:Rw E cs h0 h x G R) (hl:G.length<4611686018427387904) (hab:a<b) (p:PInv c a b G i j)
  (hq: ∀ h' m G',zkm c a b m G'->zcp a b G G'->Rw E cs h0 h' x G' R->Q (.tup [.int .i64 (m:Int),.bool false]) h'):
  zg (ze.l7 C E Q x (.int .i64 (a:Int)) f) [.int .i64 (i:Int),.int .i64 (j:Int)] h:=by
 refine zg.intro (fun t vs hh=> ∃ (i' j':Nat) (G':List X),i'+t=b /\ vs=[.int .i64 (i':Int),.int .i64 (j':Int)] /\ zcp a b G G' /\ PInv c a b G' i' j' /\ Rw E cs h0 hh x G' R) (b-i) ?_ ⟨i,j,G,by have:=p.hij;have:=p.hj;omega,rfl,zcp.refl _ _ _,p,ho⟩
 rintro Y t vs hh ⟨i',j',G',hit,rfl,W,p,o⟩ hY
 have hlen:=W.len
 simp -dsimp only [ze.l7]
 refine part_i S hc o (by omega) hab p (fun h' i2 j2 p2 hlt o2=>part_end S o2 hab p2 hlt fun h3 m G3 P3 W3 o3=>hq h3 m G3 P3 (W.trans W3) o3) fun h' i2 j2 hi hj p2 h1 h2 h3 h4 o2=> ?_
 exact hY (b-(i2+1)) _ _ (by omega) ⟨i2+1,j2-1,_,by omega,rfl,W.trans (zef hi hj (by omega) (by omega) (by omega) h4),p2,o2⟩
end
end Go.Ab
namespace Go.Ab
variable {C:CSem}
section
variable {E:zx} {X:Type} {cs:X->List AVal} {v:X->AVal} {h0 h:za} {x f:AVal} {G:List X} {R:List (List AVal)} {c:X->X->Int} {Q:zQ} {a b i j:Nat}
abbrev PartQ (E:zx) {X:Type} (cs:X->List AVal) (h0:za) (x:AVal) (c:X->X->Int) (a b:Nat) (R:List (List AVal)) (G:List X) (Q:zQ):Prop:= ∀ h' m G' t,zkm c a b m G'->zcp a b G G'->Rw E cs h0 h' x G' R->Q (.tup [.int .i64 (m:Int),.bool t]) h'
theorem zpr (S:zdc E cs v) (hc:zd0 C v c f h0) (ho:Rw E cs h0 h x G R) (hl:G.length<4611686018427387904) (hab:a<b) (p:PInv c a b G i j)
  (hd:j<i \/ ∃ (h1:i<G.length) (h2:a<G.length) (h3:j<G.length),i <= j /\ ¬ c G[i] G[a]<0 /\ c G[j] G[a]<0) (hq:PartQ E cs h0 x c a b R G Q):
  ze.k10 C E Q x (.int .i64 (a:Int)) f (.int .i64 (i:Int)) (.int .i64 (j:Int)) h:=by
 have k1:=p.hi;have k2:=p.hij;have k3:=p.hj;have k4:=p.hb
 have la:a<G.length:=by omega
 have lj:j<G.length:=by omega
 rcases hd with hlt|⟨li,_,_,hle,n1,n2⟩
 ·simp -dsimp only [ze.k10,gtrN,hlt,decide_true,B.cond_true,ho.idx lj,ho.idx la,B.zd]
  refine ho.ld S (List.getElem?_eq_getElem la) ?_
  refine ho.ld S (List.getElem?_eq_getElem lj) ?_
  refine ho.st S (t:=G[a]) lj fun h1 o1=> ?_
  refine o1.st S (t:=G[j]) (by simpa using la) fun h2 o2=> ?_
  exact hq h2 j _ true (p.done hab hlt lj la) (zef lj la (by omega) k3 (Nat.le_refl _) hab) o2
 ·simp -dsimp only [ze.k10,ze.k9,gtrN,show ¬ j<i by omega,decide_false,B.cond_false,ho.idx lj,ho.idx li,B.zd]
  refine ho.ld S (List.getElem?_eq_getElem lj) ?_
  refine ho.ld S (List.getElem?_eq_getElem li) ?_
  refine ho.st S (t:=G[j]) li fun h1 o1=> ?_
  refine o1.st S (t:=G[i]) (by simpa using lj) fun h2 o2=> ?_
  have hne:i≠j:=fun e=>by subst e;exact n1 n2
  have e1':V.bin .sub (.int .i64 (j:Int)) (.int .i64 1)=some (.int .i64 ((j-1:Nat):Int)):=zg4 (a:=j) (b:=1) (by omega) (by omega)
  simp -dsimp only [ze.k8,add1 (show i<4611686018427387904 by omega),e1',B.zd]
  have W:=zef li lj (by omega) (by omega) (by omega:a <= j) k3
  exact zst S hc (G:=swp G i j li lj) o2 (by rw [zis li lj];omega) hab (p.swap hle li lj la n1 n2) fun h' m G' P' W' o'=>hq h' m G' false P' (W.trans W') o'
theorem zsu (S:zdc E cs v) (hc:zd0 C v c f h0) (ho:Rw E cs h0 h x G R) (hl:G.length<4611686018427387904) (hab:a<b) (p:PInv c a b G i j) (hi0:j<i \/ ∀ (h1:i<G.length) (h2:a<G.length),¬ c G[i] G[a]<0) (hq:PartQ E cs h0 x c a b R G Q):
  zg (ze.l12 C E Q x (.int .i64 (a:Int)) f (.int .i64 (i:Int))) [.int .i64 (j:Int)] h:=by
 refine zg.intro (fun t vs hh=>hh=h /\ ∃ j':Nat,t=j' /\ vs=[.int .i64 (j':Int)] /\ PInv c a b G i j' /\ (j'<i \/ ∀ (h1:i<G.length) (h2:a<G.length),¬ c G[i] G[a]<0)) j ?_ ⟨rfl,j,rfl,rfl,p,hi0⟩
 rintro Y j' vs hh ⟨rfl,_,rfl,rfl,p,hi0⟩ hY
 have k1:=p.hi;have k2:=p.hij;have k3:=p.hj;have k4:=p.hb
 have la:a<G.length:=by omega
 have lj:j'<G.length:=by omega
 simp -dsimp only [ze.l12,ze.k11,leqN,B.zd]
 by_cases hle:i <= j'
 ·have li:i<G.length:=by omega
  simp -dsimp only [hle,decide_true,B.gd_t,B.zde,ho.idx lj,ho.idx la,B.zd]
  refine ho.ld S (List.getElem?_eq_getElem lj) ?_
  refine ho.ld S (List.getElem?_eq_getElem la) ?_
  refine hc.call _ _ _ _ ho.le ?_
  simp -dsimp only [hle,decide_true,B.gd_t,B.zde,V.zd4,V.zia,B.zgg,B.zd]
  refine B.zn (fun hd=> ?_) (fun hd=> ?_)
  ·have hd': ¬ c G[j'] G[a]<0:=by simpa using hd
   have e1':V.bin .sub (.int .i64 (j':Int)) (.int .i64 1)=some (.int .i64 ((j'-1:Nat):Int)):=zg4 (a:=j') (b:=1) (by omega) (by omega)
   simp -dsimp only [e1',B.zd]
   refine hY (j'-1) _ _ (by omega) ⟨rfl,j'-1,rfl,rfl,⟨k4,k1,by omega,by omega,p.lo,fun k hk ha q1 q2=> ?_⟩,?_⟩
   ·by_cases e:k=j'
    ·subst e;exact hd'
    ·exact p.hi2 k hk ha (by omega) q2
   ·rcases hi0 with h|h
    ·omega
    ·exact .inr h
  ·have hd':c G[j'] G[a]<0:=by simpa using hd
   have hni: ¬ c G[i] G[a]<0:=by
    rcases hi0 with h|h
    ·omega
    ·exact h li la
   exact zpr S hc ho hl hab p (.inr ⟨li,la,lj,hle,hni,hd'⟩) hq
 ·simp -dsimp only [hle,decide_false,B.gd_t,B.ze1,B.zhc,B.cond_false]
  exact zpr S hc ho hl hab p (.inl (by omega)) hq
theorem part_i1 (S:zdc E cs v) (hc:zd0 C v c f h0) (ho:Rw E cs h0 h x G R) (hl:G.length<4611686018427387904) (hab:a<b) (p:PInv c a b G i j) (hq:PartQ E cs h0 x c a b R G Q):
  zg (ze.l14 C E Q x (.int .i64 (a:Int)) f (.int .i64 (j:Int))) [.int .i64 (i:Int)] h:=by
 refine zg.intro (fun t vs hh=>hh=h /\ ∃ i':Nat,i'+t=b /\ vs=[.int .i64 (i':Int)] /\ PInv c a b G i' j) (b-i) ?_ ⟨rfl,i,by have:=p.hij;have:=p.hj;omega,rfl,p⟩
 rintro Y t vs hh ⟨rfl,i',hit,rfl,p⟩ hY
 have k1:=p.hi;have k2:=p.hij;have k3:=p.hj;have k4:=p.hb
 have la:a<G.length:=by omega
 simp -dsimp only [ze.l14,ze.k13,leqN,B.zd]
 by_cases hle:i' <= j
 ·have li:i'<G.length:=by omega
  simp -dsimp only [hle,decide_true,B.gd_t,B.zde,ho.idx li,ho.idx la,B.zd]
  refine ho.ld S (List.getElem?_eq_getElem li) ?_
  refine ho.ld S (List.getElem?_eq_getElem la) ?_
  refine hc.call _ _ _ _ ho.le ?_
  simp -dsimp only [hle,decide_true,B.gd_t,B.zde,V.zd4,B.zgg,B.zd]
  refine B.zn (fun hd=> ?_) (fun hd=> ?_)
  ·have hd':c G[i'] G[a]<0:=by simpa using hd
   simp -dsimp only [add1 (show i'<4611686018427387904 by omega),B.zd]
   refine hY (b-(i'+1)) _ _ (by omega) ⟨rfl,i'+1,by omega,rfl,⟨k4,by omega,k3,by omega,fun k hk ha q1 q2=> ?_,p.hi2⟩⟩
   by_cases e:k=i'
   ·subst e;exact hd'
   ·exact p.lo k hk ha q1 (by omega)
  ·have hd': ¬ c G[i'] G[a]<0:=by simpa using hd
   exact zsu S hc ho hl hab p (.inr fun _ _=>hd') hq
 ·simp -dsimp only [hle,decide_false,B.gd_t,B.ze1,B.zhc,B.cond_false]
  exact zsu S hc ho hl hab p (.inl (by omega)) hq
theorem zlr (S:zdc E cs v) (hc:zd0 C v c f h0) (ho:Rw E cs h0 h x G R) (hl:G.length<4611686018427387904) {pv:Nat} (hp1:a <= pv) (hp2:pv<b) (hb:b <= G.length) (hq:PartQ E cs h0 x c a b R G Q):
  ze.cps C E x (.int .i64 (a:Int)) (.int .i64 (b:Int)) (.int .i64 (pv:Int)) f h Q:=by
 have la:a<G.length:=by omega
 have lp:pv<G.length:=by omega
 simp -dsimp only [ze.cps,ze.k16,ho.idx lp,ho.idx la,B.zd]
 refine ho.ld S (List.getElem?_eq_getElem lp) ?_
 refine ho.ld S (List.getElem?_eq_getElem la) ?_
 refine ho.st S (t:=G[pv]) la fun h1 o1=> ?_
 refine o1.st S (t:=G[a]) (by simpa using lp) fun h2 o2=> ?_
 have e1':V.bin .sub (.int .i64 (b:Int)) (.int .i64 1)=some (.int .i64 ((b-1:Nat):Int)):=zg4 (a:=b) (b:=1) (by omega) (by omega)
 simp -dsimp only [ze.k15,add1 (show a<4611686018427387904 by omega),e1',B.zd]
 have W:=zef la lp (Nat.le_refl _) (by omega) hp1 hp2
 have hsl:=zis la lp
 refine part_i1 S hc (G:=swp G a pv la lp) o2 (by omega) (by omega) ⟨by omega,by omega,by omega,by omega,fun k _ _ q1 q2=>by omega,fun k _ _ q1 q2=>by omega⟩ fun h' m G' t P' W' o'=>hq h' m G' t P' (W.trans W') o'
end
end Go.Ab
namespace Go.Ab
variable {C:CSem}
structure EInv {X:Type} (c:X->X->Int) (a b:Nat) (G:List X) (i j:Nat):Prop where
 hb:b <= G.length
 hi:a<i
 hj:j<b
 hij:i <= j+1
 lo: ∀ k (h:k<G.length) (ha:a<G.length),a<k->k<i-> ¬ c G[a] G[k]<0
 hi2: ∀ k (h:k<G.length) (ha:a<G.length),j<k->k<b->c G[a] G[k]<0
theorem EInv.swap {X:Type} {c:X->X->Int} {a b i j:Nat} {G:List X} (p:EInv c a b G i j) (hc:i <= j) (hi:i<G.length) (hj:j<G.length) (ha:a<G.length) (h1:c G[a] G[i]<0) (h2: ¬ c G[a] G[j]<0):EInv c a b (swp G i j hi hj) (i+1) (j-1):=by
 have k1:=p.hi;have k2:=p.hij;have k3:=p.hj;have k4:=p.hb
 have hne:i≠j:=fun e=>by subst e;exact h2 h1
 have hl:=zis hi hj
 have pa: ∀ (hm:a<(swp G i j hi hj).length),(swp G i j hi hj)[a]=G[a]:=fun hm=>by rw [zg3 hi hj hm ha,if_neg (by omega),if_neg (by omega)]
 refine ⟨by omega,by omega,by omega,by omega,fun k hk hm q1 q2=> ?_,fun k hk hm q1 q2=> ?_⟩
 ·rw [pa,zg3 hi hj hk (by omega),if_neg (by omega)]
  by_cases e:k=i
  ·rw [if_pos e];exact h2
  ·rw [if_neg e];exact p.lo k (by omega) ha q1 (by omega)
 ·rw [pa,zg3 hi hj hk (by omega)]
  by_cases e:k=j
  ·rw [if_pos e];exact h1
  ·rw [if_neg e,if_neg (by omega)];exact p.hi2 k (by omega) ha (by omega) q2
section
variable {E:zx} {X:Type} {cs:X->List AVal} {v:X->AVal} {h0 h:za} {x f:AVal} {G:List X} {R:List (List AVal)} {c:X->X->Int} {Q:zQ} {Y1:zL} {a b i j:Nat}
theorem eq_j (S:zdc E cs v) (hc:zd0 C v c f h0) (ho:Rw E cs h0 h x G R) (hl:G.length<4611686018427387904) (hab:a<b) (p:EInv c a b G i j) (hi0:j<i \/ ∀ (h1:i<G.length) (h2:a<G.length),c G[a] G[i]<0)
  (done: ∀ h' j',EInv c a b G i j'->j'<i->Rw E cs h0 h' x G R->Q (.int .i64 (i:Int)) h')
  (next: ∀ h' j' (hi:i<G.length) (hj:j'<G.length),EInv c a b (swp G i j' hi hj) (i+1) (j'-1)->i<j'->j'<b->Rw E cs h0 h' x (swp G i j' hi hj) R->Y1 [.int .i64 ((i+1:Nat):Int),.int .i64 ((j'-1:Nat):Int)] h'):
  zg (zj.l3 C E Q Y1 x (.int .i64 (a:Int)) f (.int .i64 (i:Int))) [.int .i64 (j:Int)] h:=by
 refine zg.intro (fun t vs hh=>hh=h /\ ∃ j':Nat,t=j' /\ vs=[.int .i64 (j':Int)] /\ EInv c a b G i j' /\ (j'<i \/ ∀ (h1:i<G.length) (h2:a<G.length),c G[a] G[i]<0)) j ?_ ⟨rfl,j,rfl,rfl,p,hi0⟩
 rintro Y j' vs hh ⟨rfl,_,rfl,rfl,p,hi0⟩ hY
 have k1:=p.hi;have k2:=p.hij;have k3:=p.hj;have k4:=p.hb
 have la:a<G.length:=by omega
 have lj:j'<G.length:=by omega
 simp -dsimp only [zj.l3,zj.k2,leqN,B.zd]
 by_cases hle:i <= j'
 ·have li:i<G.length:=by omega
  simp -dsimp only [hle,decide_true,B.gd_t,B.zde,ho.idx lj,ho.idx la,B.zd]
  refine ho.ld S (List.getElem?_eq_getElem la) ?_
  refine ho.ld S (List.getElem?_eq_getElem lj) ?_
  refine hc.call _ _ _ _ ho.le ?_
  simp -dsimp only [hle,decide_true,B.gd_t,B.zde,V.zd4,B.zgg,B.zd]
  refine B.zn (fun hd=> ?_) (fun hd=> ?_)
  ·have hd':c G[a] G[j']<0:=by simpa using hd
   have e1':V.bin .sub (.int .i64 (j':Int)) (.int .i64 1)=some (.int .i64 ((j'-1:Nat):Int)):=zg4 (a:=j') (b:=1) (by omega) (by omega)
   simp -dsimp only [e1',B.zd]
   refine hY (j'-1) _ _ (by omega) ⟨rfl,j'-1,rfl,rfl,⟨k4,k1,by omega,by omega,p.lo,fun k hk ha q1 q2=> ?_⟩,?_⟩
   ·by_cases e:k=j'
    ·subst e;exact hd'
    ·exact p.hi2 k hk ha (by omega) q2
   ·rcases hi0 with h|h
    ·omega
    ·exact .inr h
  ·have hd': ¬ c G[a] G[j']<0:=by simpa using hd
   have hni:c G[a] G[i]<0:=by
    rcases hi0 with h|h
    ·omega
    ·exact h li la
   simp -dsimp only [zj.k1,gtrN,show ¬ j'<i by omega,decide_false,B.cond_false,ho.idx lj,ho.idx li,B.zd]
   refine ho.ld S (List.getElem?_eq_getElem lj) ?_
   refine ho.ld S (List.getElem?_eq_getElem li) ?_
   refine ho.st S (t:=G[j']) li fun h1 o1=> ?_
   refine o1.st S (t:=G[i]) (by simpa using lj) fun h2 o2=> ?_
   have e1':V.bin .sub (.int .i64 (j':Int)) (.int .i64 1)=some (.int .i64 ((j'-1:Nat):Int)):=zg4 (a:=j') (b:=1) (by omega) (by omega)
   simp -dsimp only [add1 (show i<4611686018427387904 by omega),e1',B.zd]
   have hne:i≠j':=fun e=>by subst e;exact hd' hni
   exact next h2 j' li lj (p.swap hle li lj la hni hd') (by omega) k3 o2
 ·simp -dsimp only [hle,decide_false,B.gd_t,B.ze1,B.zhc,B.cond_false,zj.k1,gtrN,show j'<i by omega,decide_true,B.cond_true,B.zd]
  exact done hh j' p (by omega) ho
theorem eq_i (S:zdc E cs v) (hc:zd0 C v c f h0) (ho:Rw E cs h0 h x G R) (hl:G.length<4611686018427387904) (hab:a<b) (p:EInv c a b G i j)
  (done: ∀ h' i' j',EInv c a b G i' j'->j'<i'->Rw E cs h0 h' x G R->Q (.int .i64 (i':Int)) h')
  (next: ∀ h' i' j' (hi:i'<G.length) (hj:j'<G.length),EInv c a b (swp G i' j' hi hj) (i'+1) (j'-1)->a<i'->i <= i'->i'<j'->j'<b->Rw E cs h0 h' x (swp G i' j' hi hj) R->Y1 [.int .i64 ((i'+1:Nat):Int),.int .i64 ((j'-1:Nat):Int)] h'):
  zg (zj.l5 C E Q Y1 x (.int .i64 (a:Int)) f (.int .i64 (j:Int))) [.int .i64 (i:Int)] h:=by
 refine zg.intro (fun t vs hh=>hh=h /\ ∃ i':Nat,i'+t=b /\ i <= i' /\ vs=[.int .i64 (i':Int)] /\ EInv c a b G i' j) (b-i) ?_ ⟨rfl,i,by have:=p.hij;have:=p.hj;omega,Nat.le_refl _,rfl,p⟩
 rintro Y t vs hh ⟨rfl,i',hit,hii,rfl,p⟩ hY
 have k1:=p.hi;have k2:=p.hij;have k3:=p.hj;have k4:=p.hb
 have la:a<G.length:=by omega
 simp -dsimp only [zj.l5,zj.k4,leqN,B.zd]
 by_cases hle:i' <= j
 ·have li:i'<G.length:=by omega
  simp -dsimp only [hle,decide_true,B.gd_t,B.zde,ho.idx li,ho.idx la,B.zd]
  refine ho.ld S (List.getElem?_eq_getElem la) ?_
  refine ho.ld S (List.getElem?_eq_getElem li) ?_
  refine hc.call _ _ _ _ ho.le ?_
  simp -dsimp only [hle,decide_true,B.gd_t,B.zde,V.zd4,V.zia,B.zgg,B.zd]
  refine B.zn (fun hd=> ?_) (fun hd=> ?_)
  ·have hd': ¬ c G[a] G[i']<0:=by simpa using hd
   simp -dsimp only [add1 (show i'<4611686018427387904 by omega),B.zd]
   refine hY (b-(i'+1)) _ _ (by omega) ⟨rfl,i'+1,by omega,by omega,rfl,⟨k4,by omega,k3,by omega,fun k hk ha q1 q2=> ?_,p.hi2⟩⟩
   by_cases e:k=i'
   ·subst e;exact hd'
   ·exact p.lo k hk ha q1 (by omega)
  ·have hd':c G[a] G[i']<0:=by simpa using hd
   exact eq_j S hc ho hl hab p (.inr fun _ _=>hd') (fun h' j' p' hlt o'=>done h' i' j' p' hlt o') fun h' j' hi hj p' h1 h2 o'=>next h' i' j' hi hj p' k1 hii h1 h2 o'
 ·simp -dsimp only [hle,decide_false,B.gd_t,B.ze1,B.zhc,B.cond_false]
  exact eq_j S hc ho hl hab p (.inl (by omega)) (fun h' j' p' hlt o'=>done h' i' j' p' hlt o') fun h' j' hi hj p' h1 h2 o'=>next h' i' j' hi hj p' k1 hii h1 h2 o'
theorem eq_main (S:zdc E cs v) (hc:zd0 C v c f h0) (ho:Rw E cs h0 h x G R) (hl:G.length<4611686018427387904) (hab:a<b) (p:EInv c a b G i j)
  (hq: ∀ h' i' j' G',EInv c a b G' i' j'->j'<i'->zcp (a+1) b G G'->Rw E cs h0 h' x G' R->Q (.int .i64 (i':Int)) h'):
  zg (zj.l6 C E Q x (.int .i64 (a:Int)) f) [.int .i64 (i:Int),.int .i64 (j:Int)] h:=by
 refine zg.intro (fun t vs hh=> ∃ (i' j':Nat) (G':List X),i'+t=b /\ vs=[.int .i64 (i':Int),.int .i64 (j':Int)] /\ zcp (a+1) b G G' /\ EInv c a b G' i' j' /\ Rw E cs h0 hh x G' R) (b-i) ?_ ⟨i,j,G,by have:=p.hij;have:=p.hj;omega,rfl,zcp.refl _ _ _,p,ho⟩
 rintro Y t vs hh ⟨i',j',G',hit,rfl,W,p,o⟩ hY
 have hlen:=W.len
 simp -dsimp only [zj.l6]
 refine eq_i S hc o (by omega) hab p (fun h' i2 j2 p2 hlt o2=>hq h' i2 j2 G' p2 hlt W o2) fun h' i2 j2 hi hj p2 h1 h2 h3 h4 o2=> ?_
 exact hY (b-(i2+1)) _ _ (by omega) ⟨i2+1,j2-1,_,by omega,rfl,W.trans (zef hi hj (by omega) (by omega) (by omega) h4),p2,o2⟩
theorem ziv (S:zdc E cs v) (hc:zd0 C v c f h0) (ho:Rw E cs h0 h x G R) (hl:G.length<4611686018427387904) {pv:Nat} (hp1:a <= pv) (hp2:pv<b) (hb:b <= G.length)
  (hq: ∀ h' i' j' G',EInv c a b G' i' j'->j'<i'->zcp a b G G'->(∀ (h1:a<G'.length) (h2:pv<G.length),G'[a]=G[pv])->Rw E cs h0 h' x G' R->Q (.int .i64 (i':Int)) h'):
  zj.cps C E x (.int .i64 (a:Int)) (.int .i64 (b:Int)) (.int .i64 (pv:Int)) f h Q:=by
 have la:a<G.length:=by omega
 have lp:pv<G.length:=by omega
 simp -dsimp only [zj.cps,zj.k8,ho.idx lp,ho.idx la,B.zd]
 refine ho.ld S (List.getElem?_eq_getElem lp) ?_
 refine ho.ld S (List.getElem?_eq_getElem la) ?_
 refine ho.st S (t:=G[pv]) la fun h1 o1=> ?_
 refine o1.st S (t:=G[a]) (by simpa using lp) fun h2 o2=> ?_
 have e1':V.bin .sub (.int .i64 (b:Int)) (.int .i64 1)=some (.int .i64 ((b-1:Nat):Int)):=zg4 (a:=b) (b:=1) (by omega) (by omega)
 simp -dsimp only [zj.k7,add1 (show a<4611686018427387904 by omega),e1',B.zd]
 have W:=zef la lp (Nat.le_refl _) (by omega) hp1 hp2
 have hsl:=zis la lp
 refine eq_main S hc (G:=swp G a pv la lp) o2 (by omega) (by omega) ⟨by omega,by omega,by omega,by omega,fun k _ _ q1 q2=>by omega,fun k _ _ q1 q2=>by omega⟩ fun h' i' j' G' p' hlt W' o'=>hq h' i' j' G' p' hlt (W.trans (W'.mono (by omega) (Nat.le_refl _))) (fun h1 h2=> ?_) o'
 rw [W'.same (.inl (by omega)) h1 (by omega),zg3 la lp (by omega) la]
 split
 ·rename_i e;simp only [e]
 ·rw [if_pos rfl]
end
end Go.Ab
namespace Go.Ab
structure SInv {X:Type} (c:X->X->Int) (a n lo r:Nat) (G:List X):Prop where
 len:a+n <= G.length
 heap: ∀ k,0<k->(hk:k<n)->lo <= (k-1) / 2->(k-1) / 2≠r->(h1:a+(k-1) / 2<G.length)->(h2:a+k<G.length)-> ¬ c G[a+(k-1) / 2] G[a+k]<0
 grand:lo <= (r-1) / 2->0<r-> ∀ k,0<k->(hk:k<n)->(k-1) / 2=r->(h1:a+(r-1) / 2<G.length)->(h2:a+k<G.length)-> ¬ c G[a+(r-1) / 2] G[a+k]<0
def Heap {X:Type} (c:X->X->Int) (a n lo:Nat) (G:List X):Prop:= ∀ k,0<k->(hk:k<n)->lo <= (k-1) / 2->(h1:a+(k-1) / 2<G.length)->(h2:a+k<G.length)-> ¬ c G[a+(k-1) / 2] G[a+k]<0
section
variable {X:Type} {c:X->X->Int} {a n lo r ch:Nat} {G:List X}
theorem SInv.done (p:SInv c a n lo r G) (hr: ∀ k,0<k->k<n->(k-1) / 2=r->(h1:a+r<G.length)->(h2:a+k<G.length)-> ¬ c G[a+r] G[a+k]<0):Heap c a n lo G:=fun k h0 hk hl h1 h2=>by
 by_cases e:(k-1) / 2=r
 ·have:=hr k h0 hk e (by rw [<- e];exact h1) h2
  simp only [e];exact this
 ·exact p.heap k h0 hk hl e h1 h2
theorem SInv.step (W:Weak (ze4 c)) (p:SInv c a n lo r G) (hlo:lo <= r) (hch:ch<n) (hp:(ch-1) / 2=r) (h0:0<ch) (hr:a+r<G.length) (hc:a+ch<G.length) (hlt:c G[a+r] G[a+ch]<0)
  (hmax: ∀ k,0<k->k<n->(k-1) / 2=r->(h2:a+k<G.length)-> ¬ c G[a+ch] G[a+k]<0):SInv c a n lo ch (swp G (a+r) (a+ch) hr hc):=by
 have hl:=zis hr hc
 have hrc:r<ch:=by omega
 have asym: ¬ c G[a+ch] G[a+r]<0:=by
  have:=W.asym (a:=G[a+r]) (b:=G[a+ch]) (by unfold ze4;exact decide_eq_true hlt)
  unfold ze4 at this;exact of_decide_eq_false this
 refine ⟨by rw [hl];exact p.len,fun k k0 hk hlk hne h1 h2=> ?_,fun _ _ k k0 hk hkp h1 h2=> ?_⟩
 ·have g1:a+(k-1) / 2<G.length:=by omega
  have g2:a+k<G.length:=by omega
  rw [zg3 hr hc h1 g1,zg3 hr hc h2 g2,if_neg (by omega: ¬ a+(k-1) / 2=a+ch)]
  by_cases e1:(k-1) / 2=r
  ·rw [if_pos (by omega)]
   by_cases e2:k=ch
   ·rw [if_pos (by omega)];exact asym
   ·rw [if_neg (by omega),if_neg (by omega)];exact hmax k k0 hk e1 g2
  ·rw [if_neg (by omega)]
   by_cases e2:k=r
   ·rw [if_neg (by omega),if_pos (by omega)]
    subst e2
    exact p.grand hlk k0 ch h0 hch hp g1 hc
   ·rw [if_neg (by omega),if_neg (by omega)];exact p.heap k k0 hk hlk e1 g1 g2
 ·have g1:a+(ch-1) / 2<G.length:=by omega
  have g2:a+k<G.length:=by omega
  rw [zg3 hr hc h1 g1,zg3 hr hc h2 g2,if_neg (by omega),if_pos (by omega),if_neg (by omega),if_neg (by omega)]
  have:=p.heap k k0 hk (by omega) (by omega) (by omega) g2
  simp only [hkp] at this
  exact this
end
end Go.Ab
namespace Go.Ab
variable {C:CSem}
section
variable {E:zx} {X:Type} {cs:X->List AVal} {v:X->AVal} {h0 h:za} {x f:AVal} {G:List X} {R:List (List AVal)} {c:X->X->Int} {Q:zQ} {Y1:zL} {a n lo r ch:Nat}
theorem sift_k1 (S:zdc E cs v) (W:Weak (ze4 c)) (hc:zd0 C v c f h0) (ho:Rw E cs h0 h x G R) (hl:G.length<1000000000) (p:SInv c a n lo r G) (hlo:lo <= r) (hch:ch<n) (hp:(ch-1) / 2=r) (hc0:0<ch)
  (hmax: ∀ k,0<k->k<n->(k-1) / 2=r->(h1:a+ch<G.length)->(h2:a+k<G.length)-> ¬ c G[a+ch] G[a+k]<0)
  (done: ∀ h',Heap c a n lo G->Rw E cs h0 h' x G R->Q (.tup []) h')
  (next: ∀ h' (hr:a+r<G.length) (hcl:a+ch<G.length),SInv c a n lo ch (swp G (a+r) (a+ch) hr hcl)->Rw E cs h0 h' x (swp G (a+r) (a+ch) hr hcl) R->Y1 [.int .i64 (ch:Int)] h'):
  zbk.k1 C E Q Y1 x (.int .i64 (n:Int)) (.int .i64 (a:Int)) f (.int .i64 (r:Int)) (.int .i64 (ch:Int)) h:=by
 have hlen:=p.len
 have lr:a+r<G.length:=by omega
 have lc:a+ch<G.length:=by omega
 have ar:=zj6 (a:=a) (b:=r) (by omega)
 have ac:=zj6 (a:=a) (b:=ch) (by omega)
 simp -dsimp only [zbk.k1,ar,ac,ho.idx lr,ho.idx lc,B.zd]
 refine ho.ld S (List.getElem?_eq_getElem lr) ?_
 refine ho.ld S (List.getElem?_eq_getElem lc) ?_
 refine hc.call _ _ _ _ ho.le ?_
 simp -dsimp only [V.zd4,V.zia,B.zd]
 refine B.zn (fun hd=> ?_) (fun hd=> ?_)
 ·have hd': ¬ c G[a+r] G[a+ch]<0:=by simpa using hd
  refine done h (p.done fun k k0 hk hkp h1 h2=> ?_) ho
  have:=W.zor (a:=G[a+r]) (b:=G[a+ch]) (c:=G[a+k]) (by unfold ze4;exact decide_eq_false hd') (by unfold ze4;exact decide_eq_false (hmax k k0 hk hkp lc h2))
  unfold ze4 at this;exact of_decide_eq_false this
 ·have hd':c G[a+r] G[a+ch]<0:=by simpa using hd
  simp -dsimp only [ar,ac,ho.idx lr,ho.idx lc,B.zd]
  refine ho.ld S (List.getElem?_eq_getElem lc) ?_
  refine ho.ld S (List.getElem?_eq_getElem lr) ?_
  refine ho.st S (t:=G[a+ch]) lr fun h1 o1=> ?_
  refine o1.st S (t:=G[a+r]) (by simpa using lc) fun h2 o2=> ?_
  exact next h2 lr lc (p.step W hlo hch hp hc0 lr lc hd' fun k k0 hk hkp h2=>hmax k k0 hk hkp lc h2) o2
theorem zjb (S:zdc E cs v) (W:Weak (ze4 c)) (hc:zd0 C v c f h0) (ho:Rw E cs h0 h x G R) (hl:G.length<1000000000) (p:SInv c a n lo r G) (hlo:lo <= r) (hrn:r <= n) {b:Nat} (hb:a+n <= b)
  (hq: ∀ h' G',Heap c a n lo G'->zcp a b G G'->Rw E cs h0 h' x G' R->Q (.tup []) h'):
  zbk.cps C E x (.int .i64 (r:Int)) (.int .i64 (n:Int)) (.int .i64 (a:Int)) f h Q:=by
 simp -dsimp only [zbk.cps]
 refine zg.intro (fun t vs hh=> ∃ (r':Nat) (G':List X),r'+t=n /\ vs=[.int .i64 (r':Int)] /\ lo <= r' /\ SInv c a n lo r' G' /\ zcp a b G G' /\ Rw E cs h0 hh x G' R) (n-r) ?_ ⟨r,G,by omega,rfl,hlo,p,zcp.refl _ _ _,ho⟩
 rintro Y t vs hh ⟨r',G',hrt,rfl,hlo',p',W',o⟩ hY
 have hlen:=W'.len
 have pl:=p'.len
 have e1:V.bin .mul (.int .i64 2) (.int .i64 (r':Int))=some (.int .i64 ((2*r':Nat):Int)):=mulN (a:=2) (b:=r') (by omega)
 simp -dsimp only [zbk.l4,zbk.k3,e1,add1 (show 2*r'<4611686018427387904 by omega),geqN,B.zd]
 refine B.zn (fun hd=> ?_) (fun hd=> ?_)
 ·rw [decide_eq_true_eq] at hd
  exact hq hh G' (p'.done fun k k0 hk hkp _ _=>by omega) W' o
 ·rw [decide_eq_false_iff_not] at hd
  have fin: ∀ ch,ch<n->(ch-1) / 2=r'->0<ch->(∀ k,0<k->k<n->(k-1) / 2=r'->(h1:a+ch<G'.length)->(h2:a+k<G'.length)-> ¬ c G'[a+ch] G'[a+k]<0)->zbk.k1 C E Q Y x (.int .i64 (n:Int)) (.int .i64 (a:Int)) f (.int .i64 (r':Int)) (.int .i64 (ch:Int)) hh:=fun ch c1 c2 c3 c4=>
   sift_k1 S W hc o (by omega) p' hlo' c1 c2 c3 c4 (fun h' hp o'=>hq h' G' hp W' o') fun h' hr hcl p2 o2=>hY (n-ch) _ _ (by omega) ⟨ch,_,by omega,rfl,by omega,p2,W'.trans (zef hr hcl (by omega) (by omega) (by omega) (by omega)),o2⟩
  have irr: ∀ t:X,¬ c t t<0:=fun t=>by
   have:=W.irr t;unfold ze4 at this;exact of_decide_eq_false this
  have a1:=zj6 (a:=a) (b:=2*r'+1) (by omega)
  simp -dsimp only [zbk.k2,add1 (show 2*r'+1<4611686018427387904 by omega),lssN,B.zd]
  by_cases h2:2*r'+1+1<n
  ·have l1:a+(2*r'+1)<G'.length:=by omega
   have l2:a+(2*r'+1)+1<G'.length:=by omega
   simp -dsimp only [h2,decide_true,B.gd_t,B.zde,a1,add1 (show a+(2*r'+1)<4611686018427387904 by omega),o.idx l1,o.idx l2,B.zd]
   refine o.ld S (List.getElem?_eq_getElem l1) ?_
   refine o.ld S (List.getElem?_eq_getElem l2) ?_
   refine hc.call _ _ _ _ o.le ?_
   simp -dsimp only [h2,decide_true,B.gd_t,B.zde,V.zd4,B.zgg,B.zd]
   refine B.zn (fun hf=> ?_) (fun hf=> ?_)
   ·have hf':c G'[a+(2*r'+1)] G'[a+(2*r'+1)+1]<0:=by simpa using hf
    simp -dsimp only [add1 (show 2*r'+1<4611686018427387904 by omega),B.zd]
    refine fin (2*r'+1+1) h2 (by omega) (by omega) fun k k0 hk hkp h1 h3=> ?_
    rcases (show k=2*r'+1 \/ k=2*r'+1+1 by omega) with rfl|rfl
    ·have:=W.asym (a:=G'[a+(2*r'+1)]) (b:=G'[a+(2*r'+1)+1]) (by unfold ze4;exact decide_eq_true hf')
     unfold ze4 at this;exact of_decide_eq_false this
    ·exact irr _
   ·have hf': ¬ c G'[a+(2*r'+1)] G'[a+(2*r'+1)+1]<0:=by simpa using hf
    refine fin (2*r'+1) (by omega) (by omega) (by omega) fun k k0 hk hkp h1 h3=> ?_
    rcases (show k=2*r'+1 \/ k=2*r'+1+1 by omega) with rfl|rfl
    ·exact irr _
    ·exact hf'
  ·simp -dsimp only [h2,decide_false,B.gd_t,B.ze1,B.zhc,B.cond_false]
   refine fin (2*r'+1) (by omega) (by omega) (by omega) fun k k0 hk hkp h1 h3=> ?_
   have:k=2*r'+1:=by omega
   subst this;exact irr _
end
end Go.Ab
namespace Go.Ab
section
variable {X:Type} {c:X->X->Int} {a b n lo:Nat} {G G':List X}
theorem Heap.sinv {X:Type} {c:X->X->Int} {a n lo:Nat} {G:List X} (p:Heap c a n (lo+1) G) (hl:a+n <= G.length):SInv c a n lo lo G:=
 ⟨hl,fun k k0 hk h1 hne h2 h3=>p k k0 hk (by omega) h2 h3,fun h1 h0=>by omega⟩
theorem Heap.none_ {X:Type} {c:X->X->Int} {a n lo:Nat} {G:List X} (h:n <= 2*lo+1):Heap c a n lo G:=fun k k0 hk h1 _ _=>by omega
theorem Heap.root (W:Weak (ze4 c)) (p:Heap c a n 0 G) (hl:a+n <= G.length): ∀ (k:Nat) (hk:k<n),¬ c (G[a]'(by omega)) (G[a+k]'(by omega))<0:=by
 intro k
 induction k using Nat.strongRecOn with
 | ind k ih=>
  intro hk
  by_cases e:k=0
  ·subst e
   have:=W.irr (G[a]'(by omega));unfold ze4 at this;simpa using this
  ·have h1:=ih ((k-1) / 2) (by omega) (by omega)
   have h2:=p k (by omega) hk (by omega) (by omega) (by omega)
   have:=W.zor (a:=G[a]'(by omega)) (b:=G[a+(k-1) / 2]'(by omega)) (c:=G[a+k]'(by omega)) (by unfold ze4;exact decide_eq_false h1) (by unfold ze4;exact decide_eq_false h2)
   unfold ze4 at this;exact of_decide_eq_false this
theorem zcp.take (w:zcp a b G G'):G'.take a=G.take a:=List.ext_getElem? fun i=>by
 rw [List.getElem?_take,List.getElem?_take]
 split
 ·rename_i h;exact w.out i (.inl h)
 ·rfl
theorem zcp.drop (w:zcp a b G G'):G'.drop b=G.drop b:=List.ext_getElem? fun i=>by
 rw [List.getElem?_drop,List.getElem?_drop];exact w.out (b+i) (.inr (by omega))
theorem split3 (hab:a <= b) (G:List X):G=G.take a++((G.take b).drop a++G.drop b):=by
 have h1:G.take a=(G.take b).take a:=by rw [List.take_take,Nat.min_eq_left hab]
 rw [h1, <- List.append_assoc,List.take_append_drop,List.take_append_drop]
theorem zcp.mid (w:zcp a b G G') (hab:a <= b):((G'.take b).drop a).Perm ((G.take b).drop a):=by
 have h:=w.perm
 rw [split3 hab G,split3 hab G',w.take,w.drop] at h
 exact (List.perm_append_right_iff _).1 ((List.perm_append_left_iff _).1 h)
theorem zcp.mem (w:zcp a b G G') {k:Nat} (h1:a <= k) (h2:k<b) (hk:k<G'.length): ∃ k',a <= k' /\ k'<b /\ ∃ h':k'<G.length,G'[k]=G[k']:=by
 have hm:G'[k]∈(G'.take b).drop a:=by
  rw [List.mem_iff_getElem?]
  refine ⟨k-a,?_⟩
  rw [List.getElem?_drop,List.getElem?_take,if_pos (by omega),Nat.add_sub_cancel' h1,List.getElem?_eq_getElem hk]
 have:=(w.mid (by omega)).mem_iff.1 hm
 rw [List.mem_iff_getElem?] at this
 obtain ⟨i,hi⟩:=this
 rw [List.getElem?_drop,List.getElem?_take] at hi
 split at hi
 ·rename_i hlt
  obtain ⟨hb,e⟩:=List.getElem?_eq_some_iff.1 hi
  exact ⟨a+i,by omega,hlt,hb,e.symm⟩
 ·cases hi
def Cut {X:Type} (c:X->X->Int) (A B a b:Nat) (G:List X):Prop:= ∀ p q,A <= p->p<q->q<B->p<a \/ b <= q-> ∀ (h1:p<G.length) (h2:q<G.length),¬ c G[q] G[p]<0
def Srt {X:Type} (c:X->X->Int) (A B:Nat) (G:List X):Prop:= ∀ p q,A <= p->p<q->q<B-> ∀ (h1:p<G.length) (h2:q<G.length),¬ c G[q] G[p]<0
theorem Cut.within {A B:Nat} (x:Cut c A B a b G) (w:zcp a b G G') (ha:A <= a) (hb:b <= B):Cut c A B a b G':=fun p q hp hpq hq h h1 h2=>by
 have hl:=w.len
 rcases h with h|h
 ·rw [w.same (.inl h) h1 (by omega)]
  by_cases hq2:a <= q /\ q<b
  ·obtain ⟨q',h3,h4,h5,e⟩:=w.mem hq2.1 hq2.2 h2
   rw [e];exact x p q' hp (by omega) (by omega) (.inl h) (by omega) h5
  ·rw [w.same (by omega) h2 (by omega)];exact x p q hp hpq hq (.inl h) _ _
 ·rw [w.same (k:=q) (.inr h) h2 (by omega)]
  by_cases hp2:a <= p /\ p<b
  ·obtain ⟨p',h3,h4,h5,e⟩:=w.mem hp2.1 hp2.2 h1
   rw [e];exact x p' q (by omega) (by omega) hq (.inr h) h5 (by omega)
  ·rw [w.same (k:=p) (by omega) h1 (by omega)];exact x p q hp hpq hq (.inr h) _ _
theorem Cut.join {A B:Nat} (x:Cut c A B a b G) (s:Srt c a b G):Srt c A B G:=fun p q hp hpq hq h1 h2=>by
 by_cases h:p<a \/ b <= q
 ·exact x p q hp hpq hq h h1 h2
 ·exact s p q (by omega) hpq (by omega) h1 h2
theorem Cut.small {A B:Nat} (x:Cut c A B a b G) (s:b <= a+1):Srt c A B G:=x.join fun p q _ _ _ _ _=>by omega
theorem ztw {M:List X} (hab:a <= b) (hb:b <= G.length) (hp:M.Perm ((G.take b).drop a)):zcp a b G (G.take a++(M++G.drop b)):=by
 have hl:=hp.length_eq
 simp only [List.length_drop,List.length_take] at hl
 refine ⟨?_,fun i hi=> ?_⟩
 ·have:=(hp.append_right (G.drop b)).append_left (G.take a)
  rw [<- split3 hab G] at this;exact this
 ·rcases hi with hi|hi
  ·rw [List.getElem?_append_left (by rw [List.length_take];omega),List.getElem?_take,if_pos hi]
  ·rw [List.getElem?_append_right (by rw [List.length_take];omega),List.getElem?_append_right (by rw [List.length_take];omega),List.getElem?_drop,List.length_take]
   congr 1;omega
theorem srt_mid {M:List X} (hab:a <= b) (hb:b <= G.length) (hl:M.length=b-a) (hp:M.Pairwise fun x y=> ¬ c y x<0):Srt c a b (G.take a++(M++G.drop b)):=fun p q hp1 hpq hq h1 h2=>by
 have e: ∀ k (h1:a <= k) (h2:k<b) (hk:k<(G.take a++(M++G.drop b)).length),(G.take a++(M++G.drop b))[k]=M[k-a]'(by omega):=fun k h1 h2 hk=>by
  rw [List.getElem_append_right (by rw [List.length_take];omega),List.getElem_append_left (by rw [List.length_take];omega)]
  congr 1;rw [List.length_take];omega
 rw [e p hp1 (by omega),e q (by omega) hq]
 exact List.pairwise_iff_getElem.1 hp _ _ _ _ (by omega)
end
variable {C:CSem}
abbrev SiftI (C:CSem) (E:zx) (f1:Nat):Prop:= ∀ (v0 v1 v2 v3 v4:AVal) (h:za) (Q:zQ),zbk.cps C E v0 v1 v2 v3 v4 h (dn Q)->C f1 [v0,v1,v2,v3,v4] h Q
section
variable {E:zx} {X:Type} {cs:X->List AVal} {v:X->AVal} {h0 h:za} {x f:AVal} {G:List X} {R:List (List AVal)} {c:X->X->Int} {Q:zQ} {a b:Nat}
theorem zml (S:zdc E cs v) (W:Weak (ze4 c)) (hc:zd0 C v c f h0) (ho:Rw E cs h0 h x G R) (hl:G.length <= 100000000) (hab:a <= b) (hb:b <= G.length)
  (hq: ∀ h' G',zcp a b G G'->Srt c a b G'->Rw E cs h0 h' x G' R->Q (.tup []) h'):zbh.cps C E x (.int .i64 (a:Int)) (.int .i64 (b:Int)) f h Q:=by
 have e0: ∀ (L:List X),(L.map (fun y=>(y,0))).map (fun p:X×Nat=>cs p.1)=L.map cs:=fun L=>by rw [List.map_map];rfl
 have e1: ∀ (L:List (X×Nat)),L.map (fun p:X×Nat=>cs p.1)=(L.map (·.1)).map cs:=fun L=>by rw [List.map_map];rfl
 have lt:(G.take a).length=a:=by rw [List.length_take];omega
 have lm:((G.take b).drop a).length=b-a:=by rw [List.length_drop,List.length_take];omega
 refine zjk (P:=(G.take a).map (fun y=>(y,0))) (M:=((G.take b).drop a).zipIdx) (U:=(G.drop b).map (fun y=>(y,0))) S W ?_ ?_ hc ?_ ?_ ?_ ?_ (R:=R) (h0:=h0)
 ·simp only [List.length_append,List.length_map,List.length_zipIdx,lt,lm,List.length_drop];omega
 ·have:(((G.take b).drop a).zipIdx.map (·.2)).Pairwise (· < ·):=by
   rw [List.zipIdx_map_snd];exact List.pairwise_lt_range'
  rwa [List.pairwise_map] at this
 ·rw [List.length_map,lt]
 ·rw [List.length_map,List.length_zipIdx,lt,lm];omega
 ·unfold Rw
  rw [List.map_append,List.map_append,e0,e0,e1,List.zipIdx_map_fst, <- List.map_append, <- List.map_append, <- split3 hab G]
  exact ho
 ·intro h' M' hp hs ho'
  have hp':(M'.map (·.1)).Perm ((G.take b).drop a):=by
   have:=hp.map (·.1);rwa [List.zipIdx_map_fst] at this
  refine hq h' (G.take a++(M'.map (·.1)++G.drop b)) (ztw hab hb hp') (srt_mid hab hb (by rw [hp'.length_eq,lm]) ?_) ?_
  ·rw [List.pairwise_map]
   refine hs.imp fun {x y} hxy=> ?_
   have hx:ze4 c y.1 x.1=false:=hxy.elim (fun h=>W.asym h) fun ⟨h,_⟩=>h
   unfold ze4 at hx;exact of_decide_eq_false hx
  ·unfold Rw at ho' ⊢
   rw [List.map_append,List.map_append,e0,e0,e1] at ho'
   rwa [List.map_append,List.map_append]
theorem zmm {f1:Nat} (is:SiftI C E f1) (S:zdc E cs v) (W:Weak (ze4 c)) (hc:zd0 C v c f h0) (ho:Rw E cs h0 h x G R) (hl:G.length <= 100000000) (hab:a<b) (hb:b <= G.length)
  (hq: ∀ h' G',zcp a b G G'->Srt c a b G'->Rw E cs h0 h' x G' R->Q (.tup []) h'):zbc.cps C E f1 x (.int .i64 (a:Int)) (.int .i64 (b:Int)) f h Q:=by
 have e1:=zg4 (a:=b) (b:=a) (by omega) (by omega)
 obtain ⟨n,hn⟩: ∃ n,n=b-a:=⟨_,rfl⟩
 have e2:V.bin .quo (.int .i64 ((n-1:Nat):Int)) (.int .i64 2)=some (.int .i64 (((n-1) / 2:Nat):Int)):=by
  rw [V.zmr _ _ _ (by omega),show ((n-1:Nat):Int).tdiv 2=(((n-1) / 2:Nat):Int) from rfl,wrap_i64 (by omega) (by omega)]
 have m1: ∀ k:Nat,k <= 100000000->V.bin .sub (.int .i64 (k:Int)) (.int .i64 1)=some (.int .i64 ((k:Int)-1)):=fun k hk=>by
  rw [V.zh6,wrap_i64 (by omega) (by omega)]
 have m2: ∀ k:Nat,k <= 100000000->V.bin .sub (.int .i64 ((k+1:Nat)-1:Int)) (.int .i64 1)=some (.int .i64 ((k:Int)-1)):=fun k hk=>by
  rw [V.zh6,wrap_i64 (by omega) (by omega)];congr 2;omega
 simp -dsimp only [zbc.cps,zbc.k5,e1,B.zd]
 rw [<- hn]
 simp -dsimp only [sub1 (show 1 <= n by omega) (by omega),e2,B.zd]
 refine zg.intro (fun t vs hh=> ∃ (G':List X),vs=[.int .i64 ((t:Int)-1)] /\ t <= n /\ Heap c a n t G' /\ zcp a b G G' /\ Rw E cs h0 hh x G' R) ((n-1) / 2+1) ?_ ⟨G,by congr 2;omega,by omega,Heap.none_ (by omega),zcp.refl _ _ _,ho⟩
 rintro Y t vs hh ⟨G1,rfl,htn,p1,W1,o1⟩ hY
 have l1:=W1.len
 simp -dsimp only [zbc.l4,zbc.k3,V.zjr,B.zd]
 cases t with
 | succ k=>
  rw [show decide ((0:Int) <= ((k+1:Nat):Int)-1)=true by simp,B.cond_true,show (((k+1:Nat):Int)-1)=(k:Int) by omega]
  refine is _ _ _ _ _ _ _ (zjb (b:=b) S W hc o1 (by omega) (p1.sinv (by omega)) (Nat.le_refl _) (by omega) (by omega) fun h2 G2 p2 w2 o2=>zbe ?_)
  simp -dsimp only [m1 k (by omega),B.zd]
  exact hY k _ _ (by omega) ⟨G2,rfl,by omega,p2,W1.trans w2,o2⟩
 | zero=>
  rw [show decide ((0:Int) <= ((0:Nat):Int)-1)=false by simp,B.cond_false]
  simp -dsimp only [m1 n (by omega),B.zd]
  refine zg.intro (fun t vs hh=> ∃ (G':List X),vs=[.int .i64 ((t:Int)-1)] /\ t <= n /\ Heap c a t 0 G' /\ Cut c a b a (a+t) G' /\ zcp a b G G' /\ Rw E cs h0 hh x G' R) n ?_ ⟨G1,rfl,Nat.le_refl _,p1,fun p q _ _ h3 h4=>by omega,W1,o1⟩
  rintro Z t vs hh ⟨G2,rfl,htn,p2,c2,W2,o2⟩ hZ
  have l2:=W2.len
  simp -dsimp only [zbc.l2,zbc.k1,V.zjr,B.zd]
  cases t with
  | zero=>
   rw [show decide ((0:Int) <= ((0:Nat):Int)-1)=false by simp,B.cond_false]
   exact hq hh G2 W2 (c2.small (by omega)) o2
  | succ k=>
   rw [show decide ((0:Int) <= ((k+1:Nat):Int)-1)=true by simp,B.cond_true,show (((k+1:Nat):Int)-1)=(k:Int) by omega]
   have ac:=zj6 (a:=a) (b:=k) (by omega)
   have la:a<G2.length:=by omega
   have lk:a+k<G2.length:=by omega
   simp -dsimp only [ac,o2.idx la,o2.idx lk,B.zd]
   refine o2.ld S (List.getElem?_eq_getElem lk) ?_
   refine o2.ld S (List.getElem?_eq_getElem la) ?_
   refine o2.swap S la lk fun h3 o3=> ?_
   have hsl:=zis la lk
   have w3:zcp a (a+(k+1)) G2 (swp G2 a (a+k) la lk):=zef la lk (by omega) (by omega) (by omega) (by omega)
   have c3:=c2.within w3 (Nat.le_refl _) (by omega)
   have c4:Cut c a b a (a+k) (swp G2 a (a+k) la lk):=fun p q h1 h2 h3 h4 h5 h6=>by
    by_cases e:a+(k+1) <= q
    ·exact c3 p q h1 h2 h3 (.inr e) h5 h6
    ·have:q=a+k:=by omega
     subst this
     rw [zg3 la lk h6 (by omega),if_pos rfl,zg3 la lk h5 (by omega),if_neg (by omega)]
     split
     ·exact p2.root W (by omega) k (by omega)
     ·have:=p2.root W (by omega) (p-a) (by omega)
      simpa only [show a+(p-a)=p by omega] using this
   have s3:SInv c a k 0 0 (swp G2 a (a+k) la lk):=⟨by omega,fun j j0 hj _ hne h1 h2=>by
    rw [zg3 la lk h1 (by omega),if_neg (by omega),if_neg (by omega),zg3 la lk h2 (by omega),if_neg (by omega),if_neg (by omega)]
    exact p2 j j0 (by omega) (by omega) (by omega) (by omega),fun _ h=>by omega⟩
   refine is _ _ _ _ _ _ _ (zjb (r:=0) (b:=a+k) S W hc o3 (by omega) s3 (Nat.le_refl _) (by omega) (by omega) fun h4 G4 p4 w4 o4=>zbe ?_)
   simp -dsimp only [m1 k (by omega),B.zd]
   exact hZ k _ _ (by omega) ⟨G4,rfl,by omega,p4,c4.within w4 (Nat.le_refl _) (by omega),(W2.trans (w3.mono (Nat.le_refl _) (by omega))).trans (w4.mono (Nat.le_refl _) (by omega)),o4⟩
end
end Go.Ab
namespace Go.Ab
variable {C:CSem}
def Pre {X:Type} (c:X->X->Int) (a b:Nat) (G:List X):Prop:=0<a-> ∀ i,a <= i->i<b-> ∀ (h1:i<G.length) (h2:a-1<G.length),¬ c G[i] G[a-1]<0
theorem Pre.within {X:Type} {c:X->X->Int} {a b:Nat} {G G':List X} (p:Pre c a b G) (w:zcp a b G G'):Pre c a b G':=fun h0 i h1 h2 h3 h4=>by
 have hl:=w.len
 obtain ⟨k,k1,k2,k3,e⟩:=w.mem h1 h2 h3
 rw [e,w.same (k:=a-1) (.inl (by omega)) h4 (by omega)]
 exact p h0 k k1 k2 _ _
def But1 {X:Type} (c:X->X->Int) (A B j:Nat) (G:List X):Prop:= ∀ p q,A <= p->p<q->q<B->q≠j-> ∀ (h1:p<G.length) (h2:q<G.length),¬ c G[q] G[p]<0
section
variable {X:Type} {c:X->X->Int} {A B j:Nat} {G:List X}
theorem But1.done (W:Weak (ze4 c)) (x:But1 c A B j G) (hj:j<G.length) (h:j <= A \/ ∀ (h1:j-1<G.length),¬ c G[j] G[j-1]<0):Srt c A B G:=fun p q h1 h2 h3 h4 h5=>by
 by_cases e:q=j
 ·subst e
  have h:=h.resolve_left (by omega)
  by_cases e2:p=q-1
  ·subst e2;exact h _
  ·have k1:=x p (q-1) h1 (by omega) (by omega) (by omega) h4 (by omega)
   have:=W.zor (a:=G[q]) (b:=G[q-1]'(by omega)) (c:=G[p]) (by unfold ze4;exact decide_eq_false (h _)) (by unfold ze4;exact decide_eq_false k1)
   unfold ze4 at this;exact of_decide_eq_false this
 ·exact x p q h1 h2 h3 e h4 h5
theorem But1.step (W:Weak (ze4 c)) (x:But1 c A B j G) (hA:A<j) (hj:j<G.length) (hj1:j-1<G.length) (hlt:c G[j] G[j-1]<0):But1 c A B (j-1) (swp G j (j-1) hj hj1):=fun p q h1 h2 h3 h4 h5 h6=>by
 have hl:=zis hj hj1
 rw [zg3 hj hj1 h6 (by omega),if_neg h4,zg3 hj hj1 h5 (by omega)]
 by_cases e:q=j
 ·rw [if_pos e]
  split
  ·have:=W.asym (a:=G[j]) (b:=G[j-1]) (by unfold ze4;exact decide_eq_true hlt)
   unfold ze4 at this;exact of_decide_eq_false this
  ·rw [if_neg (by omega)];exact x p (j-1) h1 (by omega) (by omega) (by omega) (by omega) hj1
 ·rw [if_neg e]
  split
  ·exact x j q (by omega) (by omega) h3 e hj (by omega)
  ·split
   ·exact x (j-1) q (by omega) (by omega) h3 e hj1 (by omega)
   ·exact x p q h1 h2 h3 e (by omega) (by omega)
end
section
variable {E:zx} {X:Type} {cs:X->List AVal} {v:X->AVal} {h0 h:za} {x f:AVal} {G:List X} {R:List (List AVal)} {c:X->X->Int} {Q:zQ} {Y1:zL} {a b i s:Nat}
theorem pis_k3 (S:zdc E cs v) (hc:zd0 C v c f h0) (ho:Rw E cs h0 h x G R) (hl:G.length <= 100000000) (hi0:0<i) (hi:i<b) (hb:b <= G.length) (hs:s <= 5)
  (hY: ∀ h' G',zcp i b G G'->Rw E cs h0 h' x G' R->Y1 [.int .i64 (i:Int),.int .i64 ((s+1:Nat):Int)] h'):
  zb.k3 C E Q Y1 x (.int .i64 (a:Int)) (.int .i64 (b:Int)) f (.int .i64 (i:Int)) (.int .i64 (s:Int)) h:=by
 have hge:V.bin .geq (.int .i64 ((b-i:Nat):Int)) (.int .i64 2)=some (.bool (decide (2 <= b-i))):=geqN (b:=2)
 simp -dsimp only [zb.k3,zg4 (show i <= b by omega) (by omega),hge,add1 (show s<4611686018427387904 by omega),add1 (show i<4611686018427387904 by omega),B.zd]
 refine B.zn (fun hd=> ?_) (fun hd=> ?_)
 rotate_left
 ·simp -dsimp only [add1 (show s<4611686018427387904 by omega),B.zd]
  exact hY h G (zcp.refl _ _ _) ho
 rw [decide_eq_true_eq] at hd
 simp -dsimp only [add1 (show i<4611686018427387904 by omega),B.zd]
 refine zg.intro (fun t vs hh=> ∃ (j:Nat) (G':List X),j+t=b /\ vs=[.int .i64 (j:Int)] /\ i<j /\ zcp i b G G' /\ Rw E cs h0 hh x G' R) (b-(i+1)) ?_ ⟨i+1,G,by omega,rfl,by omega,zcp.refl _ _ _,ho⟩
 rintro Y t vs hh ⟨j,G1,hjt,rfl,hij,W1,o⟩ hY2
 have hlen:=W1.len
 simp -dsimp only [zb.l2,zb.k1,lssN,B.zd]
 refine B.zn (fun he=> ?_) (fun he=> ?_)
 ·rw [decide_eq_true_eq] at he
  have lj:j<G1.length:=by omega
  have lj1:j-1<G1.length:=by omega
  have sj:=sub1 (a:=j) (by omega) (by omega)
  simp -dsimp only [sj,o.idx lj,o.idx lj1,B.zd]
  refine o.ld S (List.getElem?_eq_getElem lj) ?_
  refine o.ld S (List.getElem?_eq_getElem lj1) ?_
  refine hc.call _ _ _ _ o.le ?_
  simp -dsimp only [V.zd4,V.zia,B.zd]
  refine B.zn (fun hd=> ?_) (fun hd=> ?_)
  ·simp -dsimp only [add1 (show s<4611686018427387904 by omega),B.zd]
   exact hY hh G1 W1 o
  ·simp -dsimp only [sj,o.idx lj,o.idx lj1,B.zd]
   refine o.ld S (List.getElem?_eq_getElem lj1) ?_
   refine o.ld S (List.getElem?_eq_getElem lj) ?_
   refine o.swap S lj lj1 fun h2 o2=> ?_
   simp -dsimp only [add1 (show j<4611686018427387904 by omega),B.zd]
   exact hY2 (b-(j+1)) _ _ (by omega) ⟨j+1,_,by omega,rfl,by omega,W1.trans (zef lj lj1 (by omega) (by omega) (by omega) (by omega)),o2⟩
 ·simp -dsimp only [add1 (show s<4611686018427387904 by omega),B.zd]
  exact hY hh G1 W1 o
theorem pis_k6 (S:zdc E cs v) (W:Weak (ze4 c)) (hc:zd0 C v c f h0) (ho:Rw E cs h0 h x G R) (hl:G.length <= 100000000) (hai:a<i) (hi:i<b) (hb:b <= G.length) (hs:s <= 5) (hp:Pre c a b G) (h1:But1 c a i (i-1) G)
  (hY: ∀ h' G',zcp a b G G'->Srt c a i G'->Rw E cs h0 h' x G' R->Y1 [.int .i64 (i:Int),.int .i64 ((s+1:Nat):Int)] h'):
  zb.k6 C E Q Y1 x (.int .i64 (a:Int)) (.int .i64 (b:Int)) f (.int .i64 (i:Int)) (.int .i64 (s:Int)) h:=by
 have fin: ∀ {hh G1},Rw E cs h0 hh x G1 R->zcp a b G G1->Srt c a i G1->zb.k3 C E Q Y1 x (.int .i64 (a:Int)) (.int .i64 (b:Int)) f (.int .i64 (i:Int)) (.int .i64 (s:Int)) hh:=fun {hh G1} o W1 s1=>by
  have l1:=W1.len
  refine pis_k3 S hc o (by omega) (by omega) hi (by omega) hs fun h2 G2 W2 o2=>hY h2 G2 (W1.trans (W2.mono (by omega) (Nat.le_refl _))) (fun p q h1 h2 h3 h4 h5=> ?_) o2
  have l2:=W2.len
  rw [W2.same (k:=p) (.inl (by omega)) h4 (by omega),W2.same (k:=q) (.inl (by omega)) h5 (by omega)]
  exact s1 p q h1 h2 h3 _ _
 have hge:V.bin .geq (.int .i64 ((i-a:Nat):Int)) (.int .i64 2)=some (.bool (decide (2 <= i-a))):=geqN (b:=2)
 simp -dsimp only [zb.k6,zg4 (show a <= i by omega) (by omega),hge,sub1 (show 1 <= i by omega) (by omega),B.zd]
 refine B.zn (fun hd=> ?_) (fun hd=> ?_)
 ·simp -dsimp only [sub1 (show 1 <= i by omega) (show i<4611686018427387904 by omega),B.zd]
  refine zg.intro (fun t vs hh=> ∃ (G':List X),vs=[.int .i64 (t:Int)] /\ a <= t /\ t<i /\ But1 c a i t G' /\ zcp a b G G' /\ Rw E cs h0 hh x G' R) (i-1) ?_ ⟨G,rfl,by omega,by omega,h1,zcp.refl _ _ _,ho⟩
  rintro Y j vs hh ⟨G1,rfl,haj,hji,b1,W1,o⟩ hY2
  have hlen:=W1.len
  have lj:j<G1.length:=by omega
  have hg1:V.bin .geq (.int .i64 (j:Int)) (.int .i64 1)=some (.bool (decide (1 <= j))):=geqN (b:=1)
  simp -dsimp only [zb.l5,zb.k4,hg1,B.zd]
  refine B.zn (fun he=> ?_) (fun he=> ?_)
  ·rw [decide_eq_true_eq] at he
   have lj1:j-1<G1.length:=by omega
   have sj:=sub1 (a:=j) (by omega) (by omega)
   simp -dsimp only [sj,o.idx lj,o.idx lj1,B.zd]
   refine o.ld S (List.getElem?_eq_getElem lj) ?_
   refine o.ld S (List.getElem?_eq_getElem lj1) ?_
   refine hc.call _ _ _ _ o.le ?_
   simp -dsimp only [V.zd4,V.zia,B.zd]
   refine B.zn (fun hd=> ?_) (fun hd=> ?_)
   ·exact fin o W1 (b1.done W lj (.inr fun _=>by simpa using hd))
   ·have hlt:c G1[j] G1[j-1]<0:=by simpa using hd
    have haj2:a<j:=by
     rcases Nat.lt_or_ge a j with k|k
     ·exact k
     ·have:j=a:=by omega
      subst this
      exact absurd hlt ((hp.within W1) (by omega) j (Nat.le_refl _) (by omega) _ _)
    simp -dsimp only [sj,o.idx lj,o.idx lj1,B.zd]
    refine o.ld S (List.getElem?_eq_getElem lj1) ?_
    refine o.ld S (List.getElem?_eq_getElem lj) ?_
    refine o.swap S lj lj1 fun h2 o2=> ?_
    exact hY2 (j-1) _ _ (by omega) ⟨_,rfl,by omega,by omega,b1.step W haj2 lj lj1 hlt,W1.trans (zef lj lj1 (by omega) (by omega) (by omega) (by omega)),o2⟩
  ·rw [decide_eq_false_iff_not] at he
   exact fin o W1 (b1.done W lj (.inl (by omega)))
 ·rw [decide_eq_false_iff_not] at hd
  exact fin ho (zcp.refl _ _ _) fun p q _ _ _ _ _=>by omega
theorem zg7 (S:zdc E cs v) (W:Weak (ze4 c)) (hc:zd0 C v c f h0) (ho:Rw E cs h0 h x G R) (hl:G.length <= 100000000) (hab:a<b) (hb:b <= G.length) (hp:Pre c a b G)
  (hq: ∀ h' G' t,zcp a b G G'->(t=true->Srt c a b G')->Rw E cs h0 h' x G' R->Q (.bool t) h'):
  zb.cps C E x (.int .i64 (a:Int)) (.int .i64 (b:Int)) f h Q:=by
 simp -dsimp only [zb.cps,add1 (show a<4611686018427387904 by omega),B.zd]
 refine zg.intro (fun t vs hh=> ∃ (s i:Nat) (G':List X),s+t=5 /\ vs=[.int .i64 (i:Int),.int .i64 (s:Int)] /\ a<i /\ i <= b /\ Srt c a i G' /\ zcp a b G G' /\ Rw E cs h0 hh x G' R) 5 ?_ ⟨0,a+1,G,rfl,rfl,by omega,by omega,fun p q _ _ _ _ _=>by omega,zcp.refl _ _ _,ho⟩
 rintro Y t vs hh ⟨s,i,G1,hst,rfl,hai,hib,s1,W1,o⟩ hY
 have hl1:=W1.len
 have h5:V.bin .lss (.int .i64 (s:Int)) (.int .i64 5)=some (.bool (decide (s<5))):=lssN (b:=5)
 simp -dsimp only [zb.l12,zb.k11,h5,B.zd]
 refine B.zn (fun hd=> ?_) (fun hd=>hq hh G1 false W1 (fun h=>by cases h) o)
 rw [decide_eq_true_eq] at hd
 refine zg.intro (fun t vs hh=> ∃ (i:Nat),i+t=b /\ vs=[.int .i64 (i:Int)] /\ a<i /\ Srt c a i G1 /\ Rw E cs h0 hh x G1 R) (b-i) ?_ ⟨i,by omega,rfl,hai,s1,o⟩
 rintro Z t vs hh ⟨i,hit,rfl,hai,s2,o2⟩ hZ
 simp -dsimp only [zb.l10,zb.k9,lssN,B.zd]
 by_cases hd2:i<b
 ·have li:i<G1.length:=by omega
  have li1:i-1<G1.length:=by omega
  have si:=sub1 (a:=i) (by omega) (by omega)
  simp -dsimp only [hd2,decide_true,B.gd_t,B.zde,si,o2.idx li,o2.idx li1,B.zd]
  refine o2.ld S (List.getElem?_eq_getElem li) ?_
  refine o2.ld S (List.getElem?_eq_getElem li1) ?_
  refine hc.call _ _ _ _ o2.le ?_
  simp -dsimp only [hd2,decide_true,B.gd_t,B.zde,V.zd4,V.zia,B.zgg,B.zd]
  refine B.zn (fun he=> ?_) (fun he=> ?_)
  ·have hnl: ¬ c G1[i] G1[i-1]<0:=by simpa using he
   simp -dsimp only [add1 (show i<4611686018427387904 by omega),B.zd]
   refine hZ (t-1) _ _ (by omega) ⟨i+1,by omega,rfl,by omega,?_,o2⟩
   exact But1.done W (j:=i) (fun p q h1 h2 h3 h4 h5 h6=>s2 p q h1 h2 (by omega) h5 h6) li (.inr fun _=>hnl)
  ·have hlt:c G1[i] G1[i-1]<0:=by simpa using he
   have hne:V.bin .eql (.int .i64 (i:Int)) (.int .i64 (b:Int))=some (.bool false):=by rw [V.zhf];simp;omega
   simp -dsimp only [hne,B.zd,B.cond_false,zb.k8,zb.k7,zg4 (show a <= b by omega) (show b<4611686018427387904 by omega)]
   rw [show V.bin .lss (.int .i64 ((b-a:Nat):Int)) (.int .i64 50)=some (.bool (decide (b-a<50))) from lssN (b:=50)]
   simp -dsimp only [B.zd]
   refine B.zn (fun hf=>hq hh G1 false W1 (fun h=>by cases h) o2) (fun hf=> ?_)
   simp -dsimp only [zb.k7,si,o2.idx li,o2.idx li1,B.zd]
   refine o2.ld S (List.getElem?_eq_getElem li1) ?_
   refine o2.ld S (List.getElem?_eq_getElem li) ?_
   refine o2.swap S li li1 fun h3 o3=> ?_
   have hsl:=zis li li1
   have w3:zcp a b G1 (swp G1 i (i-1) li li1):=zef li li1 (by omega) (by omega) (by omega) (by omega)
   have W3:=W1.trans w3
   refine pis_k6 S W hc o3 (by omega) hai hd2 (by omega) (by omega) (hp.within W3) (fun p q h1 h2 h3 h4 h5 h6=> ?_) fun h4 G4 W4 s4 o4=>hY (5-(s+1)) _ _ (by omega) ⟨s+1,i,G4,by omega,rfl,hai,by omega,s4,W3.trans W4,o4⟩
   rw [zg3 li li1 h6 (by omega),if_neg h4,if_neg (by omega),zg3 li li1 h5 (by omega),if_neg (by omega),if_neg (by omega)]
   exact s2 p q h1 h2 h3 _ _
 ·have e:i=b:=by omega
  subst e
  have heq:V.bin .eql (.int .i64 (i:Int)) (.int .i64 (i:Int))=some (.bool true):=by rw [V.zhf];simp
  simp -dsimp only [hd2,decide_false,B.gd_t,B.ze1,B.zhc,B.cond_false,heq,B.cond_true,B.zd]
  exact hq hh G1 true W1 (fun _=>s2) o2
end
end Go.Ab
namespace Go.Ab
variable {C:CSem} {N:zN}
def be (n:Int):Nat->List UInt8
 | 0=>[]
 | k+1=>byt (n.fdiv (2 ^ (8*k)))::be n k
@[simp] theorem be_len (n:Int): ∀ k,(be n k).length=k
 | 0=>rfl
 | k+1=>by simp [be,be_len n k]
end Go.Ab
namespace Go.Ab
variable {C:CSem} {N:zN}
structure Rdr where
 at_:Nat
 bad:Bool
theorem bin_shl {k j:IntKind} {a b:Int} (h0:0 <= b) (h1:b<k.bits):V.bin .shl (.int k a) (.int j b)=some (.int k (k.wrap (a*2 ^ b.toNat))):=by
 simp only [V.bin,V.shift]
 rw [if_neg (by omega),Nat.min_eq_left (by omega)]
end Go.Ab
namespace Go.Ab
variable {C:CSem} {N:zN}
theorem V.bin_xor (k:IntKind) (a b:Int):V.bin .xor (.int k a) (.int k b)=some (.int k (k.wrap (BitVec.ofInt k.bits a ^^^ BitVec.ofInt k.bits b).toNat)):=by simp [V.bin,V.arith]
theorem V.bin_and (k:IntKind) (a b:Int):V.bin .and (.int k a) (.int k b)=some (.int k (k.wrap (BitVec.ofInt k.bits a &&& BitVec.ofInt k.bits b).toNat)):=by simp [V.bin,V.arith]
theorem wrapU {n:Nat} (h:n<18446744073709551616):IntKind.u64.wrap (n:Int)=n:=by rw [wrap_u64];omega
theorem toUN {n:Nat} (h:n<18446744073709551616):V.toInt .u64 (.int .i64 (n:Int))=some (.int .u64 (n:Int)):=by rw [V.toInt_int,wrapU h]
theorem toIN {k:IntKind} {n:Nat} (h:n<4611686018427387904):V.toInt .i64 (.int k (n:Int))=some (.int .i64 (n:Int)):=by rw [V.toInt_int,wrap_i64 (by omega) (by omega)]
theorem and_le {z:Int} {m:Nat} (h:m<4611686018427387904): ∃ o:Nat,o <= m /\ V.bin .and (.int .u64 z) (.int .u64 (m:Int))=some (.int .u64 (o:Int)):=by
 refine ⟨(BitVec.ofInt 64 z &&& BitVec.ofInt 64 (m:Int)).toNat,?_,?_⟩
 ·rw [BitVec.toNat_and]
  refine Nat.le_trans Nat.and_le_right ?_
  rw [BitVec.toNat_ofInt];omega
 ·rw [V.bin_and]
  show some (AVal.int .u64 (IntKind.u64.wrap ((BitVec.ofInt 64 z &&& BitVec.ofInt 64 (m:Int)).toNat:Int)))=_
  rw [wrapU (BitVec.isLt _)]
def lenT:List UInt8:=[0,1,2,2,3,3,3,3,4,4,4,4,4,4,4,4,5,5,5,5,5,5,5,5,5,5,5,5,5,5,5,5,6,6,6,6,6,6,6,6,6,6,6,6,6,6,6,6,6,6,6,6,6,6,6,6,6,6,6,6,6,6,6,6,7,7,7,7,7,7,7,7,7,7,7,7,7,7,7,7,7,7,7,7,7,7,7,7,7,7,7,7,7,7,7,7,7,7,7,7,7,7,7,7,7,7,7,7,7,7,7,7,7,7,7,7,7,7,7,7,7,7,7,7,7,7,7,7,8,8,8,8,8,8,8,8,8,8,8,8,8,8,8,8,8,8,8,8,8,8,8,8,8,8,8,8,8,8,8,8,8,8,8,8,8,8,8,8,8,8,8,8,8,8,8,8,8,8,8,8,8,8,8,8,8,8,8,8,8,8,8,8,8,8,8,8,8,8,8,8,8,8,8,8,8,8,8,8,8,8,8,8,8,8,8,8,8,8,8,8,8,8,8,8,8,8,8,8,8,8,8,8,8,8,8,8,8,8,8,8,8,8,8,8,8,8,8,8,8,8,8,8,8,8,8,8]
theorem idxStr_u8 {s:List UInt8} {k:Nat} {b:UInt8} (hb:s[k]? =some b):V.zp4 (.str s) (.int .u8 (k:Int))=some (.int .u8 b.toNat):=by
 simp [V.zp4,hb]
theorem lenT_all: ∀ k:Fin 256,∃ b:Fin 9,lenT[k.val]? =some (UInt8.ofNat b.val) /\ (0<k.val->2 ^ b.val <= 2*k.val):=by decide +kernel
theorem lenTab {k:Nat} (h:k<256): ∃ b:Nat,V.zp4 (.str lenT) (.int .u8 (k:Int))=some (.int .u8 (b:Int)) /\ b <= 8 /\ (0<k->2 ^ b <= 2*k):=by
 obtain ⟨b,e,hb⟩:=lenT_all ⟨k,h⟩
 have hb9:=b.isLt
 refine ⟨b.val,?_,by omega,hb⟩
 rw [idxStr_u8 e]
 congr 2
 rw [UInt8.toNat_ofNat',Nat.mod_eq_of_lt (by omega)]
theorem Len64_k1 {Q:zQ} {v0 v2:AVal} {h:za}:zb2.k1 C N Q v0 v2 h=(B.pv (V.toInt .u8 v0) fun v21=>
  B.pv (V.zp4 (.str lenT) v21) fun v22=>
  B.pv (V.toInt .i64 v22) fun v23=>
  B.pv (V.bin .add v2 v23) fun v24=>
  Q v24 h):=rfl
theorem Len64_spec {x:Nat} (hx:x <= 100000000) {h:za} {Q:zQ} (hq: ∀ r:Nat,r <= 32->(0<x->2 ^ r <= 2*x)->Q (.int .i64 (r:Int)) h):zb2.cps C N (.int .u64 (x:Int)) h Q:=by
 have fin: ∀ (y s:Nat),y<256->s <= 24->(0<x->0<y)->2 ^ s*y <= x->zb2.k1 C N Q (.int .u64 (y:Int)) (.int .i64 (s:Int)) h:=fun y s hy hs h0 hle=>by
  obtain ⟨b,e,hb,hp⟩:=lenTab hy
  have e1:V.toInt .u8 (.int .u64 (y:Int))=some (.int .u8 (y:Int)):=by rw [V.toInt_int,wrap_u8];congr 2;omega
  rw [Len64_k1]
  simp -dsimp only [e1,B.zd,e,toIN (show b<4611686018427387904 by omega),zj6 (show s+b<4611686018427387904 by omega)]
  refine hq (s+b) (by omega) fun hx0=> ?_
  have h1:=hp (h0 hx0)
  have h2:2 ^ s*2 ^ b <= 2 ^ s*(2*y):=Nat.mul_le_mul_left _ h1
  rw [Nat.pow_add]
  have h3:2 ^ s*(2*y)=2*(2 ^ s*y):=by rw [Nat.mul_left_comm]
  omega
 have sh: ∀ (y j:Nat),j<64->V.bin .shr (.int .u64 (y:Int)) (.int .u64 (j:Int))=some (.int .u64 ((y / 2 ^ j:Nat):Int)):=fun y j hj=>by
  rw [bin_shr (by omega) (by simp [IntKind.bits];omega),Int.toNat_natCast]
  congr 2
  rw [Int.fdiv_eq_ediv_of_nonneg _ (by exact_mod_cast Nat.zero_le (2 ^ j))]
  simp
 have g3:V.bin .geq (.int .u64 (x:Int)) (.int .u64 4294967296)=some (.bool false):=by rw [V.zjr];simp;omega
 have gk: ∀ y m:Nat,V.bin .geq (.int .u64 (y:Int)) (.int .u64 (m:Int))=some (.bool (decide (m <= y))):=fun y m=>by rw [V.zjr];congr 3;exact propext (by omega)
 have low: ∀ (y s:Nat),y<65536->s <= 16->(0<x->0<y)->2 ^ s*y <= x->zb2.k2 C N Q (.int .u64 (y:Int)) (.int .i64 (s:Int)) h:=fun y s hy hs h0 hle=>by
  have g1:V.bin .geq (.int .u64 (y:Int)) (.int .u64 256)=some (.bool (decide (256 <= y))):=gk y 256
  have s1:V.bin .shr (.int .u64 (y:Int)) (.int .u64 8)=some (.int .u64 ((y / 2 ^ 8:Nat):Int)):=sh y 8 (by omega)
  have a1:V.bin .add (.int .i64 (s:Int)) (.int .i64 8)=some (.int .i64 ((s+8:Nat):Int)):=zj6 (a:=s) (b:=8) (by omega)
  simp -dsimp only [zb2.k2,g1,B.zd]
  refine B.zn (fun hd=> ?_) (fun hd=> ?_)
  ·rw [decide_eq_true_eq] at hd
   simp -dsimp only [s1,a1,B.zd]
   refine fin (y / 2 ^ 8) (s+8) (by omega) (by omega) (fun _=>by omega) ?_
   rw [Nat.pow_add,Nat.mul_assoc]
   refine Nat.le_trans (Nat.mul_le_mul_left _ ?_) hle
   omega
  ·rw [decide_eq_false_iff_not] at hd
   exact fin y s (by omega) (by omega) h0 hle
 have g2:V.bin .geq (.int .u64 (x:Int)) (.int .u64 65536)=some (.bool (decide (65536 <= x))):=gk x 65536
 have s2:V.bin .shr (.int .u64 (x:Int)) (.int .u64 16)=some (.int .u64 ((x / 2 ^ 16:Nat):Int)):=sh x 16 (by omega)
 simp -dsimp only [zb2.cps,zb2.k4,zb2.k3,g3,g2,s2,B.zd,B.cond_false]
 refine B.zn (fun hd=> ?_) (fun hd=> ?_)
 ·rw [decide_eq_true_eq] at hd
  simp -dsimp only [s2,show V.bin .add (.int .i64 0) (.int .i64 16)=some (.int .i64 ((16:Nat):Int)) from rfl,B.zd]
  exact low (x / 2 ^ 16) 16 (by omega) (by omega) (fun _=>by omega) (by omega)
 ·rw [decide_eq_false_iff_not] at hd
  exact low x 0 (by omega) (by omega) id (by simp)
theorem Len_spec (i:zb2.Imp C N) {x:Nat} (hx:x <= 100000000) {h:za} {Q:zQ} (hq: ∀ r:Nat,r <= 32->(0<x->2 ^ r <= 2*x)->Q (.int .i64 (r:Int)) h):zeq.cps C N (.int .u64 (x:Int)) h Q:=by
 simp -dsimp only [zeq.cps,zeq.k1,B.cond_false]
 exact i _ _ _ (Len64_spec hx fun r h1 h2=>zbe (hq r h1 h2))
def LenI (C:CSem) (f:Nat):Prop:= ∀ (x:Nat) (h:za) (Q:zQ),x <= 100000000->(∀ r:Nat,r <= 32->(0<x->2 ^ r <= 2*x)->Q (.int .i64 (r:Int)) h)->C f [.int .u64 (x:Int)] h Q
theorem zeq.spec (i:zeq.Imp C N) (i2:zb2.Imp C N):LenI C (N 287):=fun x h Q hx hq=>i _ _ _ (Len_spec i2 hx fun r h1 h2=>zbe (hq r h1 h2))
def PowI (C:CSem) (f:Nat):Prop:= ∀ (n:Nat) (h:za) (Q:zQ),0<n->n <= 100000000->(∀ m:Nat,0<m->m <= 2*n->Q (.int .u64 (m:Int)) h)->C f [.int .i64 (n:Int)] h Q
theorem zdl.spec (i:zdl.Imp C N) (hl:LenI C (N 287)):PowI C (N 299):=fun n h Q h0 hn hq=>by
 apply i
 simp -dsimp only [zdl.cps,toUN (show n<18446744073709551616 by omega),B.zd]
 refine hl n h _ hn fun r hr hp=> ?_
 have e:V.bin .shl (.int .u64 1) (.int .i64 (r:Int))=some (.int .u64 ((2 ^ r:Nat):Int)):=by
  rw [bin_shl (by omega) (by simp [IntKind.bits];omega),Int.toNat_natCast]
  have:(1:Int)*2 ^ r=((2 ^ r:Nat):Int):=by simp
  rw [this,wrapU]
  have:=hp h0
  omega
 simp -dsimp only [e,B.zd]
 exact zbe (hq (2 ^ r) (Nat.pos_of_ne_zero (by simp)) (hp h0))
def NextI (C:CSem) (f:Nat):Prop:= ∀ (h0 h:za) (p:AVal) (n:Int) (Q:zQ),Owns h0 h [.box p [.int .u64 n]]->(∀ m m' h',Owns h0 h' [.box p [.int .u64 m']]->Q (.int .u64 m) h')->C f [p] h Q
theorem zc7.spec (i:zc7.Imp C N):NextI C (N 298):=fun h0 h p n Q ho hq=>by
 have key: ∀ {h:za} {n:Int},Owns h0 h [.box p [.int .u64 n]]-> ∃ id,p= .ptr id 0 0 /\ A.ldv h (.ptr id 0 0)=some (.int .u64 n):=fun {h n} ho=>by
  obtain ⟨id,rfl,hb⟩:=ho.zqc 0 rfl
  exact ⟨id,rfl,by rw [zl3 hb];rfl⟩
 apply i
 obtain ⟨id,rfl,ld⟩:=key ho
 simp -dsimp only [zc7.cps,zc7.k1,B.zi5,B.zg0,ld,B.zd,bin_shl (k:= .u64) (j:= .u64) (b:=13) (by omega) (by simp [IntKind.bits]),V.bin_xor]
 refine ho.ztt 0 (off:=0) rfl rfl (by simp) fun h1 o1 _=> ?_
 simp only [List.set_cons_zero] at o1
 obtain ⟨id1,e,ld1⟩:=key o1
 cases e
 simp -dsimp only [B.zi5,B.zg0,ld1,B.zd,bin_shr (k:= .u64) (j:= .u64) (b:=7) (by omega) (by simp [IntKind.bits]),V.bin_xor]
 refine o1.ztt 0 (off:=0) rfl rfl (by simp) fun h2 o2 _=> ?_
 simp only [List.set_cons_zero] at o2
 obtain ⟨id2,e,ld2⟩:=key o2
 cases e
 simp -dsimp only [B.zi5,B.zg0,ld2,B.zd,bin_shl (k:= .u64) (j:= .u64) (b:=17) (by omega) (by simp [IntKind.bits]),V.bin_xor]
 refine o2.ztt 0 (off:=0) rfl rfl (by simp) fun h3 o3 _=> ?_
 simp only [List.set_cons_zero] at o3
 obtain ⟨id3,e,ld3⟩:=key o3
 cases e
 simp -dsimp only [B.zi5,B.zg0,ld3,B.zd]
 exact zbe (hq _ _ _ o3)
section
variable {E:zx} {X:Type} {cs:X->List AVal} {v:X->AVal} {h0 h:za} {x f:AVal} {G:List X} {R:List (List AVal)} {Q:zQ} {a b:Nat}
theorem zjq {f1 f2:Nat} (hn:NextI C f1) (hp:PowI C f2) (S:zdc E cs v) (ho:Rw E cs h0 h x G R) (hl:G.length <= 100000000) (hab:a <= b) (hb:b <= G.length)
  (hq: ∀ h' G',zcp a b G G'->Rw E cs h0 h' x G' R->Q (.tup []) h'):zk.cps C E f1 f2 x (.int .i64 (a:Int)) (.int .i64 (b:Int)) f h Q:=by
 obtain ⟨n,en⟩: ∃ n,n=b-a:=⟨_,rfl⟩
 have e1:=zg4 hab (show b<4611686018427387904 by omega)
 rw [<- en] at e1
 have g8:V.bin .geq (.int .i64 (n:Int)) (.int .i64 8)=some (.bool (decide (8 <= n))):=geqN (b:=8)
 simp -dsimp only [zk.cps,zk.k8,e1,g8,B.zd]
 refine B.zn (fun hd=> ?_) (fun hd=>hq h G (zcp.refl _ _ _) ho)
 rw [decide_eq_true_eq] at hd
 simp -dsimp only [zk.k7,toUN (show n<18446744073709551616 by omega),B.zd]
 intro id hid
 have o:=Owns.zq9 ho hid [.int .u64 0]
 simp only [List.cons_append,List.nil_append] at o
 refine o.ztt 1 (off:=0) rfl rfl (by simp) fun h1 o1 _=> ?_
 simp only [List.set_cons_succ,List.set_cons_zero] at o1
 refine hp n _ _ (by omega) (by omega) fun m hm0 hm=> ?_
 have m4:V.bin .quo (.int .i64 (n:Int)) (.int .i64 4)=some (.int .i64 ((n / 4:Nat):Int)):=quo4 (by omega)
 have m2:V.bin .mul (.int .i64 ((n / 4:Nat):Int)) (.int .i64 2)=some (.int .i64 ((n / 4*2:Nat):Int)):=mulN (a:=n / 4) (b:=2) (by omega)
 have m5:V.bin .add (.int .i64 (a:Int)) (.int .i64 ((n / 4*2:Nat):Int))=some (.int .i64 ((a+n / 4*2:Nat):Int)):=zj6 (by omega)
 simp -dsimp only [zk.k6,m4,m2,m5,sub1 (show 1 <= a+n / 4*2 by omega) (by omega),B.zd]
 refine zg.intro (fun t vs hh=> ∃ (i:Nat) (G':List X) (z:Int),i+t=a+n / 4*2+2 /\ vs=[.int .i64 (i:Int)] /\ a <= i /\ zcp a b G G' /\ Owns h0 hh [.sl E.es x (G'.map cs) R,.box (.ptr id 0 0) [.int .u64 z]]) 3 ?_ ⟨a+n / 4*2-1,G,_,by omega,rfl,by omega,zcp.refl _ _ _,o1⟩
 rintro Y t vs hh ⟨i,G1,z,hit,rfl,hai,W1,o2⟩ hY
 have l1:=W1.len
 simp -dsimp only [zk.l5,zk.k4,m4,m2,m5,add1 (show a+n / 4*2<4611686018427387904 by omega),leqN,B.zd]
 refine B.zn (fun he=> ?_) (fun he=>hq hh G1 W1 (o2.sub (by simp)))
 rw [decide_eq_true_eq] at he
 have oo:=Owns.out (l1:=[.sl E.es x (G1.map cs) R]) (l2:=[.box (.ptr id 0 0) [.int .u64 z]]) o2
 simp -dsimp only [zk.k3]
 refine hn _ _ _ _ _ oo.2 fun w z' h3 o3=> ?_
 have o4:=oo.1.join o3
 have s1:V.bin .sub (.int .u64 (m:Int)) (.int .u64 1)=some (.int .u64 ((m-1:Nat):Int)):=by
  rw [V.zh6,show (m:Int)-1=((m-1:Nat):Int) by omega,wrapU (by omega)]
 obtain ⟨ot,hot,ea⟩:=and_le (z:=w) (m:=m-1) (by omega)
 simp -dsimp only [s1,ea,toIN (show ot<4611686018427387904 by omega),B.zd,zk.k2,geqN]
 have fin: ∀ k:Nat,k<n->zk.k1 C E f1 f2 Q Y x (.int .i64 (a:Int)) (.int .i64 (n:Int)) (.ptr id 0 0) (.int .u64 (m:Int)) (.int .i64 (i:Int)) (.int .i64 (k:Int)) h3:=fun k hk=>by
  have la:a+k<G1.length:=by omega
  have li:i<G1.length:=by omega
  have op:=Owns.perm o4 (List.Perm.swap _ _ [])
  have oq:=Owns.out (l1:=[.box (.ptr id 0 0) [.int .u64 z']]) (l2:=[.sl E.es x (G1.map cs) R]) op
  have orw:Rw E cs _ h3 x G1 R:=oq.2
  simp -dsimp only [zk.k1,zj6 (show a+k<4611686018427387904 by omega),orw.idx la,orw.idx li,B.zd]
  refine orw.ld S (List.getElem?_eq_getElem la) ?_
  refine orw.ld S (List.getElem?_eq_getElem li) ?_
  refine orw.swap S li la fun h5 o5=> ?_
  simp -dsimp only [add1 (show i<4611686018427387904 by omega),B.zd]
  have o6:=oq.1.join o5
  exact hY (a+n / 4*2+2-(i+1)) _ _ (by omega) ⟨i+1,_,z',by omega,rfl,by omega,W1.trans (zef li la (by omega) (by omega) (by omega) (by omega)),o6.perm (List.Perm.swap _ _ [])⟩
 refine B.zn (fun hf=> ?_) (fun hf=> ?_)
 ·rw [decide_eq_true_eq] at hf
  simp -dsimp only [zg4 hf (show ot<4611686018427387904 by omega),B.zd]
  exact fin (ot-n) (by omega)
 ·rw [decide_eq_false_iff_not] at hf
  exact fin ot (by omega)
end
end Go.Ab
namespace Go.Ab
variable {C:CSem}
section
variable {X:Type} {c:X->X->Int} {a b m A0 Z0:Nat} {G G':List X}
theorem le_of (W:Weak (ze4 c)) {x y z:X} (h1: ¬ c x y<0) (h2: ¬ c y z<0): ¬ c x z<0:=by
 have:=W.zor (a:=x) (b:=y) (c:=z) (by unfold ze4;exact decide_eq_false h1) (by unfold ze4;exact decide_eq_false h2)
 unfold ze4 at this;exact of_decide_eq_false this
theorem nlt_of (W:Weak (ze4 c)) {x y:X} (h:c x y<0): ¬ c y x<0:=by
 have:=W.asym (a:=x) (b:=y) (by unfold ze4;exact decide_eq_true h)
 unfold ze4 at this;exact of_decide_eq_false this
theorem le_self (W:Weak (ze4 c)) (x:X): ¬ c x x<0:=by
 have:=W.irr x;unfold ze4 at this;exact of_decide_eq_false this
theorem zkm.pair (W:Weak (ze4 c)) (x:zkm c a b m G) {p q:Nat} (h1:a <= p) (h2:p<q) (h3:q<b) (h4:p <= m) (h5:m <= q) (hp:p<G.length) (hq:q<G.length): ¬ c G[q] G[p]<0:=by
 have hm:m<G.length:=by omega
 have e1:p<m-> ¬ c G[m] G[p]<0:=fun k=>nlt_of W (x.lo p hp hm h1 k)
 have e2:m<q-> ¬ c G[q] G[m]<0:=fun k=>x.hi q hq hm k h3
 by_cases k1:p=m
 ·subst k1;exact e2 (by omega)
 ·by_cases k2:q=m
  ·subst k2;exact e1 (by omega)
  ·exact le_of W (e2 (by omega)) (e1 (by omega))
theorem zkm.left (W:Weak (ze4 c)) (x:zkm c a b m G) (w:zcp a m G G'):zkm c a b m G':=by
 have hl:=w.len
 refine ⟨x.ge,x.lt,by have:=x.hb;omega,fun k h hm h1 h2=> ?_,fun k h hm h1 h2=> ?_⟩
 ·obtain ⟨k',k1,k2,k3,e⟩:=w.mem h1 h2 h
  rw [e,w.same (k:=m) (.inr (by omega)) hm (by omega)]
  exact x.lo k' k3 _ k1 k2
 ·rw [w.same (k:=m) (.inr (by omega)) hm (by omega),w.same (k:=k) (.inr (by omega)) h (by omega)]
  exact x.hi k _ _ h1 h2
theorem zkm.right (W:Weak (ze4 c)) (x:zkm c a b m G) (w:zcp (m+1) b G G'):zkm c a b m G':=by
 have hl:=w.len
 refine ⟨x.ge,x.lt,by have:=x.hb;omega,fun k h hm h1 h2=> ?_,fun k h hm h1 h2=> ?_⟩
 ·rw [w.same (k:=m) (.inl (by omega)) hm (by omega),w.same (k:=k) (.inl (by omega)) h (by omega)]
  exact x.lo k _ _ h1 h2
 ·obtain ⟨k',k1,k2,k3,e⟩:=w.mem (k:=k) (by omega) h2 h
  rw [e,w.same (k:=m) (.inl (by omega)) hm (by omega)]
  exact x.hi k' k3 _ (by omega) k2
theorem Cut.left (W:Weak (ze4 c)) (x:Cut c A0 Z0 a b G) (p:zkm c a b m G) (s:Srt c a m G):Cut c A0 Z0 (m+1) b G:=fun i j h1 h2 h3 h4 h5 h6=>by
 by_cases k:i<a \/ b <= j
 ·exact x i j h1 h2 h3 k h5 h6
 ·by_cases k2:j<m
  ·exact s i j (by omega) h2 k2 h5 h6
  ·exact p.pair W (by omega) h2 (by omega) (by omega) (by omega) h5 h6
theorem Cut.right (W:Weak (ze4 c)) (x:Cut c A0 Z0 a b G) (p:zkm c a b m G) (s:Srt c (m+1) b G):Cut c A0 Z0 a m G:=fun i j h1 h2 h3 h4 h5 h6=>by
 by_cases k:i<a \/ b <= j
 ·exact x i j h1 h2 h3 k h5 h6
 ·by_cases k2:m<i
  ·exact s i j (by omega) h2 (by omega) h5 h6
  ·exact p.pair W (by omega) h2 (by omega) (by omega) (by omega) h5 h6
theorem Cut.pre (x:Cut c A0 Z0 a b G) (h:A0<a) (hb:b <= Z0):Pre c a b G:=fun h0 i h1 h2 h3 h4=>x (a-1) i (by omega) (by omega) (by omega) (.inl (by omega)) h4 h3
theorem Pre.sub (x:Pre c a b G) (h:m <= b):Pre c a m G:=fun h0 i h1 h2 h3 h4=>x h0 i h1 (by omega) h3 h4
theorem Cut.equal (W:Weak (ze4 c)) {i j:Nat} (x:Cut c A0 Z0 a b G) (p:EInv c a b G i j) (hji:j<i) (ha:0<a) (hp:Pre c a b G) (hlt:a<b) (hd: ∀ (h1:a-1<G.length) (h2:a<G.length),¬ c G[a-1] G[a]<0):Cut c A0 Z0 i b G:=fun s t h1 h2 h3 h4 h5 h6=>by
 have e:=p.hij
 have e3:=p.hi
 by_cases k:s<a \/ b <= t
 ·exact x s t h1 h2 h3 k h5 h6
 ·have la:a<G.length:=by omega
  have sp: ¬ c G[a] G[s]<0:=by
   by_cases k3:s=a
   ·subst k3;exact le_self W _
   ·exact p.lo s h5 la (by omega) (by omega)
  by_cases k2:t<i
  ·have t1:=hp ha t (by omega) (by omega) h6 (by omega)
   exact le_of W (le_of W t1 (hd (by omega) la)) sp
  ·exact le_of W (nlt_of W (p.hi2 t h6 la (by omega) (by omega))) sp
end
abbrev I5 (F:AVal->AVal->AVal->AVal->AVal->za->(zQ)->Prop) (C:CSem) (n:Nat):Prop:= ∀ (v0 v1 v2 v3 v4:AVal) (h:za) (Q:zQ),F v0 v1 v2 v3 v4 h (dn Q)->C n [v0,v1,v2,v3,v4] h Q
abbrev I4 (F:AVal->AVal->AVal->AVal->za->(zQ)->Prop) (C:CSem) (n:Nat):Prop:= ∀ (v0 v1 v2 v3:AVal) (h:za) (Q:zQ),F v0 v1 v2 v3 h (dn Q)->C n [v0,v1,v2,v3] h Q
structure PdqI (C:CSem) (E:zx) (f1 f2 f3 f4 f5 f6 f7 f8 f9 g1 g2 g3 g4 g5 g6:Nat):Prop where
 eq:I5 (zj.cps C E) C f1
 part:I5 (ze.cps C E) C f2
 pdq:I5 (zm.cps C E f1 f2 f3 f4 f5 f6 f7 f8 f9) C f3
 pis:I4 (zb.cps C E) C f4
 rev:I4 (zcv.cps C E) C f5
 piv:I4 (zp.cps C E g2 g3) C f6
 brk:I4 (zk.cps C E g5 g6) C f7
 heap:I4 (zbc.cps C E g4) C f8
 ins:I4 (zbh.cps C E) C f9
 ord:O2I C E g1
 med:MedI C E g1 g2
 adj:AdjI C E g2 g3
 sift:SiftI C E g4
 next:NextI C g5
 pow:PowI C g6
section
variable {E:zx} {X:Type} {cs:X->List AVal} {v:X->AVal} {h0 h:za} {x f:AVal} {G:List X} {R:List (List AVal)} {c:X->X->Int} {Q:zQ} {Y:zL} {f1 f2 f3 f4 f5 f6 f7 f8 f9 g1 g2 g3 g4 g5 g6:Nat}
structure PS (E:zx) {X:Type} (cs:X->List AVal) (h0:za) (x:AVal) (R:List (List AVal)) (c:X->X->Int) (A0 Z0:Nat) (G0:List X) (a b:Nat) (G:List X) (h:za):Prop where
 hA:A0 <= a
 hab:a <= b
 hB:b <= Z0
 W:zcp A0 Z0 G0 G
 cut:Cut c A0 Z0 a b G
 pre:Pre c a b G
 o:Rw E cs h0 h x G R
theorem PS.turn {A0 Z0 a b:Nat} {G0 G':List X} {h':za} (p:PS E cs h0 x R c A0 Z0 G0 a b G h) (w:zcp a b G G') (o:Rw E cs h0 h' x G' R):PS E cs h0 x R c A0 Z0 G0 a b G' h':=
 ⟨p.hA,p.hab,p.hB,p.W.trans (w.mono p.hA p.hB),p.cut.within w p.hA p.hB,p.pre.within w,o⟩
abbrev Go1 (E:zx) {X:Type} (cs:X->List AVal) (h0:za) (x:AVal) (R:List (List AVal)) (c:X->X->Int) (A0 Z0:Nat) (G0:List X) (n:Nat) (Y:zL):Prop:=
 ∀ a b (lim:Int) w1 w2 G h,b-a<n->PS E cs h0 x R c A0 Z0 G0 a b G h->Y [.int .i64 (a:Int),.int .i64 (b:Int),.int .i64 lim,.bool w1,.bool w2] h
theorem pdq_k1 (J:PdqI C E f1 f2 f3 f4 f5 f6 f7 f8 f9 g1 g2 g3 g4 g5 g6) (S:zdc E cs v) (W:Weak (ze4 c)) (hc:zd0 C v c f h0) {A0 Z0 a b:Nat} {G0:List X} {lim:Int} {w1 w2:Bool} {pv:Nat} (p:PS E cs h0 x R c A0 Z0 G0 a b G h) (hl:G.length <= 100000000) (hBl:Z0 <= G.length)
  (h1:a <= pv) (h2:pv<b)
  (rcs: ∀ (a' b':Nat) (lim:Int) (h:za) (G:List X) (Q:zQ),b'-a'<b-a->a' <= b'->b' <= G.length->G.length <= 100000000->Pre c a' b' G->Rw E cs h0 h x G R->(∀ h' G',zcp a' b' G G'->Srt c a' b' G'->Rw E cs h0 h' x G' R->Q (.tup []) h') ->
   C f3 [x,.int .i64 (a':Int),.int .i64 (b':Int),.int .i64 lim,f] h Q)
  (hY:Go1 E cs h0 x R c A0 Z0 G0 (b-a) Y):
  zm.k1 C E f1 f2 f3 f4 f5 f6 f7 f8 f9 Q Y x (.int .i64 (a:Int)) (.int .i64 (b:Int)) (.int .i64 lim) f (.bool w1) (.bool w2) (.int .i64 ((b-a:Nat):Int)) (.int .i64 (pv:Int)) h:=by
 have hA:=p.hA;have hB:=p.hB;have o:=p.o
 have lp:pv<G.length:=by omega
 have part:zm.k1 C E f1 f2 f3 f4 f5 f6 f7 f8 f9 Q Y x (.int .i64 (a:Int)) (.int .i64 (b:Int)) (.int .i64 lim) f (.bool w1) (.bool w2) (.int .i64 ((b-a:Nat):Int)) (.int .i64 (pv:Int)) h =
  zm.k1 C E f1 f2 f3 f4 f5 f6 f7 f8 f9 Q Y x (.int .i64 (a:Int)) (.int .i64 (b:Int)) (.int .i64 lim) f (.bool w1) (.bool w2) (.int .i64 ((b-a:Nat):Int)) (.int .i64 (pv:Int)) h:=rfl
 clear part
 have part:C f2 [x,.int .i64 (a:Int),.int .i64 (b:Int),.int .i64 (pv:Int),f] h (fun v111 h=>
  B.pv (V.ext 0 v111) fun v112=>
  B.pv (V.ext 1 v111) fun v113=>
  B.pv (V.bin .sub v112 (.int .i64 (a:Int))) fun v117=>
  B.pv (V.bin .sub (.int .i64 (b:Int)) v112) fun v120=>
  B.pv (V.bin .quo (.int .i64 ((b-a:Nat):Int)) (.int .i64 8)) fun v122=>
  B.pv (V.bin .lss v117 v120) fun v125=>
  B.cond v125
  (B.pv (V.bin .geq v117 v122) fun v128=>
  B.call C f3 [x,.int .i64 (a:Int),v112,.int .i64 lim,f] h fun v134 h=>
  B.pv (V.bin .add v112 (.int .i64 1)) fun v136=>
  Y [v136,.int .i64 (b:Int),.int .i64 lim,v128,v113] h)
  (B.pv (V.bin .geq v120 v122) fun v139=>
  B.pv (V.bin .add v112 (.int .i64 1)) fun v142=>
  B.call C f3 [x,v142,.int .i64 (b:Int),.int .i64 lim,f] h fun v146 h=>
  Y [.int .i64 (a:Int),v112,.int .i64 lim,v139,v113] h)):=by
  refine J.part _ _ _ _ _ _ _ (zlr S hc o (by omega) h1 h2 (by omega) fun h3 m G3 t pt W3 o3=>zbe ?_)
  have p3:=p.turn W3 o3
  have l3:=W3.len
  have m1:=pt.ge;have m2:=pt.lt
  have q8:V.bin .quo (.int .i64 ((b-a:Nat):Int)) (.int .i64 8)=some (.int .i64 (((b-a) / 8:Nat):Int)):=by
   rw [V.zmr _ _ _ (by omega),show ((b-a:Nat):Int).tdiv 8=(((b-a) / 8:Nat):Int) from rfl,wrap_i64 (by omega) (by omega)]
  simp -dsimp only [V.zg8,List.getElem?_cons_zero,List.getElem?_cons_succ,B.zd,zg4 m1 (show m<4611686018427387904 by omega),zg4 (show m <= b by omega) (show b<4611686018427387904 by omega),q8,lssN,geqN,add1 (show m<4611686018427387904 by omega)]
  refine B.zn (fun hd=> ?_) (fun hd=> ?_)
  ·simp -dsimp only [geqN,add1 (show m<4611686018427387904 by omega),B.zd]
   refine rcs a m lim _ G3 _ (by omega) m1 (by omega) (by omega) (p3.pre.sub (by omega)) o3 fun h4 G4 W4 s4 o4=> ?_
   have pt4:=pt.left W W4
   have cut4:=(p3.cut.within (W4.mono (Nat.le_refl _) (by omega)) hA hB).left W pt4 s4
   simp -dsimp only [add1 (show m<4611686018427387904 by omega),B.zd]
   exact hY (m+1) b lim _ _ G4 h4 (by omega) ⟨by omega,by omega,hB,p3.W.trans (W4.mono hA (by omega)),cut4,cut4.pre (by omega) hB,o4⟩
  ·have c3:Pre c (m+1) b G3:=fun h0 i k1 k2 k3 k4=>pt.pair W (p:=m+1-1) (q:=i) (by omega) (by omega) k2 (by omega) (by omega) k4 k3
   simp -dsimp only [geqN,add1 (show m<4611686018427387904 by omega),B.zd]
   refine rcs (m+1) b lim _ G3 _ (by omega) (by omega) (by omega) (by omega) c3 o3 fun h4 G4 W4 s4 o4=> ?_
   have pt4:=pt.right W W4
   have W4':zcp a b G3 G4:=W4.mono (by omega) (Nat.le_refl _)
   have cut4:=(p3.cut.within W4' hA hB).right W pt4 s4
   exact hY a m lim _ _ G4 h4 (by omega) ⟨hA,m1,by omega,p3.W.trans (W4.mono (by omega) hB),cut4,(p3.pre.within W4').sub (by omega),o4⟩
 simp -dsimp only [zm.k1]
 have g0:V.bin .gtr (.int .i64 (a:Int)) (.int .i64 0)=some (.bool (decide (0<a))):=gtrN (b:=0)
 simp -dsimp only [g0,B.zd]
 by_cases ha:0<a
 ·have la:a-1<G.length:=by omega
  simp -dsimp only [ha,decide_true,B.gd_t,B.zde,sub1 (show 1 <= a by omega) (show a<4611686018427387904 by omega),o.idx la,o.idx lp,B.zd]
  refine o.ld S (List.getElem?_eq_getElem la) ?_
  refine o.ld S (List.getElem?_eq_getElem lp) ?_
  refine hc.call _ _ _ _ o.le ?_
  simp -dsimp only [ha,decide_true,B.gd_t,B.zde,V.zd4,V.zia,B.zgg,B.zd]
  refine B.zn (fun he=> ?_) (fun he=>part)
  have hd: ¬ c G[a-1] G[pv]<0:=by simpa using he
  refine J.eq _ _ _ _ _ _ _ (ziv S hc o (by omega) h1 h2 (by omega) fun h3 i j G3 pe hji W3 e3 o3=>zbe ?_)
  have p3:=p.turn W3 o3
  have l3:=W3.len
  have k1:=pe.hi;have k2:=pe.hij;have k3:=pe.hj
  have cut4:=p3.cut.equal W pe hji ha p3.pre (by omega) fun q1 q2=>by
   rw [e3 q2 lp,W3.same (.inl (by omega)) q1 la];exact hd
  exact hY i b lim _ _ G3 h3 (by omega) ⟨by omega,by omega,hB,p3.W,cut4,cut4.pre (by omega) hB,o3⟩
 ·simp -dsimp only [ha,decide_false,B.gd_t,B.ze1,B.zhc,B.cond_false]
  exact part
theorem pdq_spec (J:PdqI C E f1 f2 f3 f4 f5 f6 f7 f8 f9 g1 g2 g3 g4 g5 g6) (S:zdc E cs v) (W:Weak (ze4 c)) (hc:zd0 C v c f h0): ∀ (n:Nat) (A0 Z0:Nat) (lim:Int) (h:za) (G:List X) (Q:zQ),Z0-A0=n->A0 <= Z0->Z0 <= G.length->G.length <= 100000000->Pre c A0 Z0 G->Rw E cs h0 h x G R ->
  (∀ h' G',zcp A0 Z0 G G'->Srt c A0 Z0 G'->Rw E cs h0 h' x G' R->Q (.tup []) h')->zm.cps C E f1 f2 f3 f4 f5 f6 f7 f8 f9 x (.int .i64 (A0:Int)) (.int .i64 (Z0:Int)) (.int .i64 lim) f h Q:=by
 intro n
 induction n using Nat.strongRecOn with
 | ind n ih=>
 intro A0 Z0 lim h G0 Q hn hAB hBl hl hpre ho hq
 simp -dsimp only [zm.cps]
 refine zg.intro (fun t vs hh=> ∃ (a b:Nat) (lim:Int) (w1 w2:Bool) (G:List X),t=b-a /\ vs=[.int .i64 (a:Int),.int .i64 (b:Int),.int .i64 lim,.bool w1,.bool w2] /\ PS E cs h0 x R c A0 Z0 G0 a b G hh) (Z0-A0) ?_
  ⟨A0,Z0,lim,true,true,G0,rfl,rfl,⟨Nat.le_refl _,hAB,Nat.le_refl _,zcp.refl _ _ _,fun p q _ _ _ k=>by omega,hpre,ho⟩⟩
 rintro Y t vs hh ⟨a,b,lim,w1,w2,G,rfl,rfl,p⟩ hY'
 have hY:Go1 E cs h0 x R c A0 Z0 G0 (b-a) Y:=fun a' b' lim' w1' w2' G' h' hlt p'=>hY' (b'-a') _ _ hlt ⟨a',b',lim',w1',w2',G',rfl,rfl,p'⟩
 clear hY'
 have hA:=p.hA;have hab:=p.hab;have hB:=p.hB
 have lG:=p.W.len
 have rcs: ∀ (a' b':Nat) (lim:Int) (h:za) (G:List X) (Q:zQ),b'-a'<b-a->a' <= b'->b' <= G.length->G.length <= 100000000->Pre c a' b' G->Rw E cs h0 h x G R->(∀ h' G',zcp a' b' G G'->Srt c a' b' G'->Rw E cs h0 h' x G' R->Q (.tup []) h') ->
   C f3 [x,.int .i64 (a':Int),.int .i64 (b':Int),.int .i64 lim,f] h Q:=fun a' b' lim h G Q k1 k2 k3 k4 k5 k6 k7=>
  J.pdq _ _ _ _ _ _ _ (ih (b'-a') (by omega) a' b' lim h G _ rfl k2 k3 k4 k5 k6 fun h' G' w s o=>zbe (k7 h' G' w s o))
 have fin: ∀ {hh G G2},PS E cs h0 x R c A0 Z0 G0 a b G hh-> ∀ h',zcp a b G G2->Srt c a b G2->Rw E cs h0 h' x G2 R->Q (.tup []) h':=fun p h' w s o=>by
  have p2:=p.turn w o
  exact hq h' _ p2.W (p2.cut.join s) o
 have e12:V.bin .leq (.int .i64 ((b-a:Nat):Int)) (.int .i64 12)=some (.bool (decide (b-a <= 12))):=leqN (b:=12)
 simp -dsimp only [zm.l8,zg4 hab (show b<4611686018427387904 by omega),B.zd,zm.k7,e12]
 refine B.zn (fun hd=> ?_) (fun hd=> ?_)
 ·exact J.ins _ _ _ _ _ _ (zml S W hc p.o (by omega) hab (by omega) fun h' G' w s o=>zbe (fin p h' w s o))
 rw [decide_eq_false_iff_not] at hd
 simp -dsimp only [zm.k6,V.zhf,B.zd]
 refine B.zn (fun _=> ?_) (fun _=> ?_)
 ·exact J.heap _ _ _ _ _ _ (zmm J.sift S W hc p.o (by omega) (by omega) (by omega) fun h' G' w s o=>zbe (fin p h' w s o))
 have k4: ∀ {hh G} (lim:Int),PS E cs h0 x R c A0 Z0 G0 a b G hh->zm.k4 C E f1 f2 f3 f4 f5 f6 f7 f8 f9 Q Y x (.int .i64 (a:Int)) (.int .i64 (b:Int)) (.int .i64 lim) f (.bool w1) (.bool w2) (.int .i64 ((b-a:Nat):Int)) hh:=fun {hh G} lim p=>by
  have lG:=p.W.len
  simp -dsimp only [zm.k4]
  refine J.piv _ _ _ _ _ _ (zkd J.ord J.med J.adj S (Owns.slAt p.o 0 rfl) p.o.le hc (by omega) (by omega) (by omega) fun m hint h2 m1 m2 hle=>zbe ?_)
  have p2:PS E cs h0 x R c A0 Z0 G0 a b G h2:=⟨p.hA,p.hab,p.hB,p.W,p.cut,p.pre,Owns.grow p.o hle⟩
  simp -dsimp only [V.zg8,List.getElem?_cons_zero,List.getElem?_cons_succ,B.zd,zm.k3,V.zhf]
  have k2: ∀ {hh G} (pv:Nat) (hint:Int),a <= pv->pv<b->PS E cs h0 x R c A0 Z0 G0 a b G hh->zm.k2 C E f1 f2 f3 f4 f5 f6 f7 f8 f9 Q Y x (.int .i64 (a:Int)) (.int .i64 (b:Int)) (.int .i64 lim) f (.bool w1) (.bool w2) (.int .i64 ((b-a:Nat):Int)) (.int .i64 (pv:Int)) (.int .i64 hint) hh:=fun {hh G} pv hint q1 q2 p=>by
   have lG:=p.W.len
   have go:=pdq_k1 (Q:=Q) (lim:=lim) (w1:=w1) (w2:=w2) J S W hc p (by omega) (by omega) q1 q2 rcs hY
   simp -dsimp only [zm.k2]
   have two:B.cond (.bool true) (B.call C f4 [x,.int .i64 (a:Int),.int .i64 (b:Int),f] hh fun v80 h=>
     B.cond v80 (Q (.tup []) h) (zm.k1 C E f1 f2 f3 f4 f5 f6 f7 f8 f9 Q Y x (.int .i64 (a:Int)) (.int .i64 (b:Int)) (.int .i64 lim) f (.bool w1) (.bool w2) (.int .i64 ((b-a:Nat):Int)) (.int .i64 (pv:Int)) h))
     (zm.k1 C E f1 f2 f3 f4 f5 f6 f7 f8 f9 Q Y x (.int .i64 (a:Int)) (.int .i64 (b:Int)) (.int .i64 lim) f (.bool w1) (.bool w2) (.int .i64 ((b-a:Nat):Int)) (.int .i64 (pv:Int)) hh):=by
    rw [B.cond_true]
    refine J.pis _ _ _ _ _ _ (zg7 S W hc p.o (by omega) (by omega) (by omega) p.pre fun h' G' t w s o=>zbe ?_)
    have p':=p.turn w o
    have lG':=p'.W.len
    refine B.zn (fun ht=>fin p h' w (s ht) o) (fun _=> ?_)
    exact pdq_k1 (Q:=Q) (lim:=lim) (w1:=w1) (w2:=w2) J S W hc p' (by omega) (by omega) q1 q2 rcs hY
   cases w1<;>cases w2
   ·simp -dsimp only [B.gd_t,B.ze1,B.zhc,B.cond_false];exact go
   ·simp -dsimp only [B.gd_t,B.ze1,B.zhc,B.cond_false];exact go
   ·simp -dsimp only [B.gd_t,B.zde,B.ze1,B.zgg,B.zhc,B.cond_false];exact go
   ·by_cases hh1:hint=1
    ·simp -dsimp only [B.gd_t,B.zde,V.zhf,hh1,decide_true,B.zd,B.zgg];exact two
    ·simp -dsimp only [B.gd_t,B.zde,V.zhf,hh1,decide_false,B.zd,B.zgg,B.cond_false];exact go
  refine B.zn (fun _=> ?_) (fun _=>k2 m hint m1 m2 p2)
  refine J.rev _ _ _ _ _ _ (zjy S (by omega) p2.o (by omega) (by omega) fun h3 G3 w3 o3=>zbe ?_)
  simp -dsimp only [sub1 (show 1 <= b by omega) (show b<4611686018427387904 by omega),zg4 m1 (show m<4611686018427387904 by omega),zg4 (show m-a <= b-1 by omega) (show b-1<4611686018427387904 by omega),B.zd]
  exact k2 (b-1-(m-a)) 1 (by omega) (by omega) (p2.turn w3 o3)
 simp -dsimp only [zm.k5,V.zia,B.zd]
 refine B.zn (fun _=> ?_) (fun _=>k4 lim p)
 refine J.brk _ _ _ _ _ _ (zjq J.next J.pow S p.o (by omega) hab (by omega) fun h' G' w o=>zbe ?_)
 simp -dsimp only [V.zh6,B.zd]
 exact k4 _ (p.turn w o)
theorem SortFunc_spec {fl:Nat} (J:PdqI C E f1 f2 f3 f4 f5 f6 f7 f8 f9 g1 g2 g3 g4 g5 g6) (hlen:LenI C fl) (S:zdc E cs v) (W:Weak (ze4 c)) (hc:zd0 C v c f h0) (hl:G.length <= 100000000) (ho:Rw E cs h0 h x G R)
  (hq: ∀ h' G',G'.Perm G->G'.Pairwise (fun s t=> ¬ c t s<0)->Rw E cs h0 h' x G' R->Q (.tup []) h'):zg1.cps C E fl f3 x f h Q:=by
 simp -dsimp only [zg1.cps,zg1.k1,ho.lenE,toUN (show G.length<18446744073709551616 by omega),B.zd]
 refine hlen _ _ _ hl fun r hr _=> ?_
 refine J.pdq _ _ _ _ _ _ _ (pdq_spec J S W hc _ 0 G.length r h G _ rfl (by omega) (Nat.le_refl _) hl (fun h=>by omega) ho fun h' G' w s o=>zbe ?_)
 refine hq h' G' w.perm ?_ o
 rw [List.pairwise_iff_getElem]
 intro i j hi hj hij
 have:=w.len
 exact s i j (by omega) hij (by omega) hi hj
end
end Go.Ab
namespace Go.Ab.Ord
open Go.Ab
structure zd0 (C:CSem) {X:Type} (v:X->AVal) (c:X->X->Int) (fL:Nat) (h0:za):Prop where
 call: ∀ (h:za) (a b:X) (K:zQ),h0.le h->K (.bool (decide (c a b<0))) h->B.call C fL [v a,v b] h K
variable {C C0:CSem} {fL:Nat}
variable {C C0:CSem} {fL:Nat} {N:zN}
section
variable {E:zx} {X:Type} {cs:X->List AVal} {v:X->AVal} {h0 h:za} {x:AVal} {G:List X} {R:List (List AVal)}
end
section
variable {E:zx} {T:Type} {cs:T->List AVal} {v:T->AVal} {c:T->T->Int} {h0 h:za} {x f:AVal} {R:List (List AVal)} {Q:zQ}
theorem zjk (S:zdc E cs v) (W:Weak (ze4 c)) {P M U:List (T×Nat)} (hlen:(P++(M++U)).length <= 100000000) (ht:M.Pairwise fun a b=>a.2<b.2)
  (hc:zd0 C0 v c fL h0) {a b:Nat} (ha:a=P.length) (hb:b=P.length+M.length) (ho:Rw E (fun p:T×Nat=>cs p.1) h0 h x (P++(M++U)) R)
  (hq: ∀ h' M',M'.Perm M->M'.Pairwise (lt' (ze4 c))->Rw E (fun p:T×Nat=>cs p.1) h0 h' x (P++(M'++U)) R->Q (.tup []) h'):
  zdj.cps C E C0 fL x (.int .i64 (a:Int)) (.int .i64 (b:Int)) f h Q:=by
 have S':=S.comp (fun p:T×Nat=>p.1)
 subst ha
 have hlen':P.length+M.length+U.length <= 100000000:=by simpa [Nat.add_assoc] using hlen
 simp -dsimp only [zdj.cps,add1 (show P.length<4611686018427387904 by omega),B.zd]
 cases M with
 | nil=>
  intro Y hY
  refine hY _ _ ?_
  simp -dsimp only [zdj.l3,lssN,B.zd]
  rw [show decide (P.length+1<b)=false by simp at hb ⊢;omega,B.cond_false]
  exact hq h [] (List.Perm.refl _) .nil ho
 | cons m M1=>
 simp only [List.length_cons] at hlen' hb
 rw [List.pairwise_cons] at ht
 refine zg.intro (fun t vs hh=> ∃ (i:Nat) (L M2:List (T×Nat)),t=M2.length /\ vs=[.int .i64 i] /\ i=P.length+L.length /\ i+M2.length=b /\ Rw E (fun p:T×Nat=>cs p.1) h0 hh x (P++(L++(M2++U))) R /\
  (L++M2).Perm (m::M1) /\ L.Pairwise (lt' (ze4 c)) /\ M2.Pairwise (fun a b=>a.2<b.2) /\ ∀ p∈L,∀ q∈M2,p.2<q.2) M1.length ?_
  ⟨P.length+1,[m],M1,rfl,rfl,by simp,by omega,by simpa using ho,List.Perm.refl _,List.pairwise_singleton ..,ht.2,by simpa using ht.1⟩
 rintro Y t vs hh ⟨i,L,M2,rfl,rfl,hi,hib,o,hp,hs,ht2,htt⟩ hY
 simp -dsimp only [zdj.l3,lssN,B.zd]
 cases M2 with
 | nil=>
  rw [show decide (i<b)=false by simp at hib ⊢;omega,B.cond_false]
  rw [List.append_nil] at hp
  exact hq hh L hp hs o
 | cons x0 M2=>
  simp only [List.length_cons] at hib
  rw [show decide (i<b)=true by simp;omega,B.cond_true]
  rw [List.pairwise_cons] at ht2
  have hll:P.length+(L.length+(M2.length+1))=b:=by omega
  refine zg.intro (fun t vs h2=> ∃ (L1 L2:List (T×Nat)),t=L1.length /\ vs=[.int .i64 ((P.length+L1.length:Nat):Int)] /\ L=L1++L2 /\ Rw E (fun p:T×Nat=>cs p.1) h0 h2 x (P++(L1++x0::(L2++(M2++U)))) R /\
   ∀ q∈L2,lt' (ze4 c) x0 q) L.length ?_ ⟨L,[],rfl,by rw [hi],by simp,by simpa using o,by simp⟩
  rintro Z t vs h2 ⟨L1,L2,rfl,rfl,rfl,o2,hx⟩ hZ
  rw [List.pairwise_append] at hs
  have fin:(L1=[] \/ ∃ L0 y,L1=L0++[y] /\ lt' (ze4 c) y x0)->Y [.int .i64 ((i+1:Nat):Int)] h2:=fun hz=>by
   have hlow: ∀ p∈L1,lt' (ze4 c) p x0:=by
    rcases hz with rfl|⟨L0,y,rfl,hy⟩
    ·simp
    ·intro p hpm
     rcases List.mem_append.1 hpm with h1|h1
     ·exact lt'_trans W ((List.pairwise_append.1 hs.1).2.2 p h1 y (by simp)) hy
     ·rw [List.mem_singleton.1 h1];exact hy
   refine hY M2.length _ _ (by simp) ⟨i+1,L1++x0::L2,M2,rfl,rfl,by simp at hi ⊢;omega,by omega,by simpa using o2,?_,?_,ht2.2,?_⟩
   ·refine List.Perm.trans ?_ hp
    simp only [List.append_assoc,List.cons_append]
    refine List.Perm.append_left _ ?_
    exact (List.perm_middle (l₁:=L2) (l₂:=M2) (a:=x0)).symm
   ·rw [List.pairwise_append,List.pairwise_cons]
    refine ⟨hs.1,⟨hx,hs.2.1⟩,fun p h1 q h2=> ?_⟩
    rcases List.mem_cons.1 h2 with rfl|h2
    ·exact hlow p h1
    ·exact hs.2.2 p h1 q h2
   ·intro p h1 q h2
    rcases List.mem_append.1 h1 with h1|h1
    ·exact htt p (List.mem_append_left _ h1) q (List.mem_cons_of_mem _ h2)
    ·rcases List.mem_cons.1 h1 with rfl|h1
     ·exact ht2.1 q h2
     ·exact htt p (List.mem_append_right _ h1) q (List.mem_cons_of_mem _ h2)
  have hll2:i=P.length+(L1.length+L2.length):=by simpa using hi
  simp -dsimp only [zdj.l2,zdj.k1,gtrN,B.zd]
  obtain rfl|⟨L0,y,rfl⟩:=zs0 L1
  ·simp -dsimp [add1 (show i<4611686018427387904 by omega)]
   exact fin (.inl rfl)
  ·have hyx:y.2<x0.2:=htt y (by simp) x0 (by simp)
   have o2':=o2
   simp only [List.append_assoc,List.cons_append,List.nil_append] at o2'
   simp only [List.length_append,List.length_singleton] at hll2 hlen' hll
   have hj:P.length+(L0++[y]).length=P.length+L0.length+1:=by simp [Nat.add_assoc]
   rw [show decide (P.length<P.length+(L0++[y]).length)=true by simp]
   rw [hj]
   simp -dsimp only [B.gd_t,B.zns,B.zde,zjn,sub1 (show 1 <= P.length+L0.length+1 by omega) (by omega),Nat.add_sub_cancel,o2.idx (i:=P.length+L0.length+1) (by simp;omega),o2.idx (i:=P.length+L0.length) (by simp),B.zd]
   have o3:Rw E (fun p:T×Nat=>cs p.1) h0 h2 x ((P++L0)++y::([]++x0::(L2++(M2++U)))) R:=by simpa using o2
   have gy:((P++L0)++y::([]++x0::(L2++(M2++U))))[P.length+L0.length]? =some y:=get_mid (by simp)
   have gx:((P++L0)++y::([]++x0::(L2++(M2++U))))[P.length+L0.length+1]? =some x0:=get_mid2 (by simp)
   refine o3.ld S' gx ?_
   refine o3.ld S' gy ?_
   refine hc.call _ _ _ _ o2.le ?_
   simp -dsimp only [B.gd_t,B.zns,B.zde,zjn,V.zd4,B.zd,B.zgg]
   refine B.zn (fun hb2=> ?_) (fun hb2=> ?_)
   ·simp -dsimp only [sub1 (show 1 <= P.length+L0.length+1 by omega) (by omega),Nat.add_sub_cancel,o2.idx (i:=P.length+L0.length+1) (by simp;omega),o2.idx (i:=P.length+L0.length) (by simp),B.zd]
    refine o3.ld S' gy ?_
    refine o3.ld S' gx ?_
    refine o3.swapDn S' (by simp) (by simp) fun h4 o4=> ?_
    refine hZ L0.length _ _ (by simp) ⟨L0,y::L2,rfl,rfl,by simp,by simpa using o4,?_⟩
    intro q hq2
    rcases List.mem_cons.1 hq2 with rfl|hq2
    ·exact (lt'_gt hyx).2 hb2
    ·exact hx q hq2
   ·simp -dsimp only [add1 (show i<4611686018427387904 by omega),B.zd]
    exact fin (.inr ⟨L0,y,rfl,(lt'_le W hyx).2 hb2⟩)
end
section
variable {E:zx} {X:Type} {cs:X->List AVal} {v:X->AVal} {h0 h:za} {x f:AVal} {G:List X} {R:List (List AVal)} {c:X->X->Int}
theorem ziz (S:zdc E cs v) (hx:SlX h0 E.es x (G.map cs) R) (hc:zd0 C0 v c fL h0) {p:AVal} {n:Int} (ho:Owns h0 h [.box p [.int .i64 n]]) {i j:Nat} (hi:i<G.length) (hj:j<G.length) {Q:zQ}
  (hq: ∀ (i' j':Nat) (n':Int) h',(i'=i \/ i'=j)->(j'=i \/ j'=j)->Owns h0 h' [.box p [.int .i64 n']]->Q (.tup [.int .i64 (i':Int),.int .i64 (j':Int)]) h'):zg5.cps C E C0 fL x (.int .i64 (i:Int)) (.int .i64 (j:Int)) p f h Q:=by
 have hxx:=hx.mono ho.le
 have ii:V.idxS E.es x (.int .i64 (i:Int))=some (elp E.es x i 0):=hxx.idxN (by simpa using hi)
 have ij:V.idxS E.es x (.int .i64 (j:Int))=some (elp E.es x j 0):=hxx.idxN (by simpa using hj)
 have gi:(G.map cs)[i]? =some (cs G[i]):=by rw [List.getElem?_map,List.getElem?_eq_getElem hi];rfl
 have gj:(G.map cs)[j]? =some (cs G[j]):=by rw [List.getElem?_map,List.getElem?_eq_getElem hj];rfl
 obtain ⟨id,rfl,hb⟩:=ho.zqc 0 rfl
 have ld:A.ldv h (.ptr id 0 0)=some (.int .i64 n):=by rw [zl3 hb];rfl
 simp -dsimp only [zg5.cps,zg5.k1,ij,B.zd]
 refine S.ld hxx gj ?_
 simp -dsimp only [ii,B.zd]
 refine S.ld hxx gi ?_
 refine hc.call _ _ _ _ ho.le ?_
 refine B.zn (fun hd=> ?_) (fun hd=> ?_)
 ·simp -dsimp only [B.zi5,B.zg0,ld,V.zfa,B.zd]
  refine ho.ztt 0 (off:=0) rfl rfl (by simp) fun h2 o2 _=> ?_
  exact hq j i _ h2 (.inr rfl) (.inl rfl) (by simpa using o2)
 ·exact hq i j n h (.inl rfl) (.inr rfl) ho
abbrev O2I (C:CSem) (E:zx) (C0:CSem) (fL:Nat) (f1:Nat):Prop:= ∀ (v0 v1 v2 v3 v4:AVal) (h:za) (Q:zQ),zg5.cps C E C0 fL v0 v1 v2 v3 v4 h (dn Q)->C f1 [v0,v1,v2,v3,v4] h Q
abbrev MedI (C:CSem) (E:zx) (C0:CSem) (fL:Nat) (f1 f2:Nat):Prop:= ∀ (v0 v1 v2 v3 v4 v5:AVal) (h:za) (Q:zQ),zg6.cps C E C0 fL f1 v0 v1 v2 v3 v4 v5 h (dn Q)->C f2 [v0,v1,v2,v3,v4,v5] h Q
abbrev AdjI (C:CSem) (E:zx) (C0:CSem) (fL:Nat) (f2 f3:Nat):Prop:= ∀ (v0 v1 v2 v3:AVal) (h:za) (Q:zQ),zfd.cps C E C0 fL f2 v0 v1 v2 v3 h (dn Q)->C f3 [v0,v1,v2,v3] h Q
theorem zi0 {f1:Nat} (io:O2I C E C0 fL f1) (S:zdc E cs v) (hx:SlX h0 E.es x (G.map cs) R) (hc:zd0 C0 v c fL h0) {p:AVal} {n:Int} (ho:Owns h0 h [.box p [.int .i64 n]]) {i j k:Nat} (hi:i<G.length) (hj:j<G.length) (hk:k<G.length) {Q:zQ}
  (hq: ∀ (m:Nat) (n':Int) h',(m=i \/ m=j \/ m=k)->Owns h0 h' [.box p [.int .i64 n']]->Q (.int .i64 (m:Int)) h'):zg6.cps C E C0 fL f1 x (.int .i64 (i:Int)) (.int .i64 (j:Int)) (.int .i64 (k:Int)) p f h Q:=by
 simp -dsimp only [zg6.cps,zg6.k1]
 refine io _ _ _ _ _ _ _ (ziz S hx hc ho hi hj fun a b n1 h1 ha hb o1=>zbe ?_)
 simp -dsimp only [V.zg8,List.getElem?_cons_zero,List.getElem?_cons_succ,B.zd]
 have la:a<G.length:=by rcases ha with rfl|rfl<;>assumption
 have lb:b<G.length:=by rcases hb with rfl|rfl<;>assumption
 refine io _ _ _ _ _ _ _ (ziz S hx hc o1 lb hk fun a2 b2 n2 h2 ha2 hb2 o2=>zbe ?_)
 simp -dsimp only [V.zg8,List.getElem?_cons_zero,List.getElem?_cons_succ,B.zd]
 have la2:a2<G.length:=by rcases ha2 with rfl|rfl<;>assumption
 refine io _ _ _ _ _ _ _ (ziz S hx hc o2 la la2 fun a3 b3 n3 h3 ha3 hb3 o3=>zbe ?_)
 simp -dsimp only [V.zg8,List.getElem?_cons_zero,List.getElem?_cons_succ,B.zd]
 refine hq b3 n3 h3 ?_ o3
 omega
theorem zfr {f1 f2:Nat} (io:O2I C E C0 fL f1) (im:MedI C E C0 fL f1 f2) (S:zdc E cs v) (hx:SlX h0 E.es x (G.map cs) R) (hc:zd0 C0 v c fL h0) {p:AVal} {n:Int} (ho:Owns h0 h [.box p [.int .i64 n]]) {i:Nat} (hi:0<i) (hi2:i+1<G.length) (hl:G.length<4611686018427387904) {Q:zQ}
  (hq: ∀ (m:Nat) (n':Int) h',i-1 <= m->m <= i+1->Owns h0 h' [.box p [.int .i64 n']]->Q (.int .i64 (m:Int)) h'):zfd.cps C E C0 fL f2 x (.int .i64 (i:Int)) p f h Q:=by
 have e1:V.bin .sub (.int .i64 (i:Int)) (.int .i64 1)=some (.int .i64 ((i-1:Nat):Int)):=by
  rw [V.zh6,wrap_i64 (by omega) (by omega)];congr 2;omega
 simp -dsimp only [zfd.cps,zfd.k1,e1,add1 (show i<4611686018427387904 by omega),B.zd]
 exact im _ _ _ _ _ _ _ _ (zi0 io S hx hc ho (by omega) (by omega) hi2 fun m n' h' hm o'=>zbe (hq m n' h' (by omega) (by omega) o'))
theorem zjy (S:zdc E cs v) (hl:G.length<4611686018427387904) (ho:Rw E cs h0 h x G R) {a b:Nat} (hab:a<b) (hb:b <= G.length) {Q:zQ} (hq: ∀ h' G',zcp a b G G'->Rw E cs h0 h' x G' R->Q (.tup []) h'):
  zet.cps C E C0 fL x (.int .i64 (a:Int)) (.int .i64 (b:Int)) f h Q:=by
 have e1:V.bin .sub (.int .i64 (b:Int)) (.int .i64 1)=some (.int .i64 ((b-1:Nat):Int)):=by
  rw [V.zh6,wrap_i64 (by omega) (by omega)];congr 2;omega
 simp -dsimp only [zet.cps,e1,B.zd]
 refine zg.intro (fun t vs hh=> ∃ (i j:Nat) (G':List X),t=j /\ vs=[.int .i64 (i:Int),.int .i64 (j:Int)] /\ a <= i /\ j<b /\ zcp a b G G' /\ Rw E cs h0 hh x G' R) (b-1) ?_ ⟨a,b-1,G,rfl,rfl,Nat.le_refl _,by omega,zcp.refl _ _ _,ho⟩
 rintro Y j vs hh ⟨i,_,G',rfl,rfl,hi,hj,W,o⟩ hY
 simp -dsimp only [zet.l2,zet.k1,lssN,B.zd]
 have hlen:=W.len
 refine B.zn (fun hc=> ?_) (fun hc=>hq hh G' W o)
 rw [decide_eq_true_eq] at hc
 have li:i<G'.length:=by omega
 have lj:j<G'.length:=by omega
 simp -dsimp only [o.idx lj,B.zd]
 refine o.ld S (List.getElem?_eq_getElem lj) ?_
 simp -dsimp only [o.idx li,B.zd]
 refine o.ld S (List.getElem?_eq_getElem li) ?_
 have ij:=o.idx lj
 refine o.st S (t:=G'[j]) li fun h1 o1=> ?_
 simp -dsimp only [ij,B.zd]
 refine o1.st S (t:=G'[i]) (by simpa using lj) fun h2 o2=> ?_
 have e2:V.bin .sub (.int .i64 (j:Int)) (.int .i64 1)=some (.int .i64 ((j-1:Nat):Int)):=by
  rw [V.zh6,wrap_i64 (by omega) (by omega)];congr 2;omega
 simp -dsimp only [add1 (show i<4611686018427387904 by omega),e2,B.zd]
 exact hY (j-1) _ _ (by omega) ⟨i+1,j-1,_,rfl,rfl,by omega,by omega,W.trans (zef li lj hi (by omega) (by omega) hj),o2⟩
theorem zkd {f1 f2 f3:Nat} (io:O2I C E C0 fL f1) (im:MedI C E C0 fL f1 f2) (ia:AdjI C E C0 fL f2 f3) (S:zdc E cs v) (hx:SlX h E.es x (G.map cs) R) (h0le:h0.le h) (hc:zd0 C0 v c fL h0) (hl:G.length <= 100000000) {a b:Nat} (hab:a+8 <= b) (hb:b <= G.length) {Q:zQ}
  (hq: ∀ (m:Nat) (hint:Int) h',a <= m->m<b->h.le h'->Q (.tup [.int .i64 (m:Int),.int .i64 hint]) h'):zbv.cps C E C0 fL f2 f3 x (.int .i64 (a:Int)) (.int .i64 (b:Int)) f h Q:=by
 have e1:=zg4 (a:=b) (b:=a) (by omega) (by omega)
 simp -dsimp only [zbv.cps,e1,B.zd]
 intro id hid
 have o:=(Owns.start h).zq9 hid [.int .i64 0]
 simp only [List.nil_append] at o
 have q4:=quo4 (a:=b-a) (by omega)
 have m1:=mulN (a:=(b-a) / 4) (b:=1) (by omega)
 have m2:=mulN (a:=(b-a) / 4) (b:=2) (by omega)
 have m3:=mulN (a:=(b-a) / 4) (b:=3) (by omega)
 have a1:=zj6 (a:=a) (b:=(b-a) / 4*1) (by omega)
 have a2:=zj6 (a:=a) (b:=(b-a) / 4*2) (by omega)
 have a3:=zj6 (a:=a) (b:=(b-a) / 4*3) (by omega)
 have g8:V.bin .geq (.int .i64 ((b-a:Nat):Int)) (.int .i64 8)=some (.bool true):=by rw [V.zjr,decide_eq_true (by omega)]
 have hc':zd0 C0 v c fL h:=⟨fun h2 s t K hle hk=>hc.call h2 s t K (za.le_trans h0le hle) hk⟩
 simp -dsimp only [zbv.k6,zbv.k5,zbv.k4,zbv.k3,q4,B.zd]
 have m1':V.bin .mul (.int .i64 (((b-a) / 4:Nat):Int)) (.int .i64 1)=some (.int .i64 (((b-a) / 4*1:Nat):Int)):=m1
 have m2':V.bin .mul (.int .i64 (((b-a) / 4:Nat):Int)) (.int .i64 2)=some (.int .i64 (((b-a) / 4*2:Nat):Int)):=m2
 have m3':V.bin .mul (.int .i64 (((b-a) / 4:Nat):Int)) (.int .i64 3)=some (.int .i64 (((b-a) / 4*3:Nat):Int)):=m3
 simp -dsimp only [q4,m1',m2',m3',a1,a2,a3,g8,B.cond_true,zbv.k5,zbv.k4,zbv.k3,zbv.k2,B.zd]
 have fin: ∀ (m:Nat) (n':Int) h',a <= m->m<b->Owns h h' [.box (.ptr id 0 0) [.int .i64 n']]->zbv.k1 C E C0 fL f2 f3 Q (.ptr id 0 0) (.int .i64 (m:Int)) h':=fun m n' h' k1 k2 o'=>by
  obtain ⟨id',e,hb'⟩:=o'.zqc 0 rfl
  cases e
  have ld:A.ldv h' (.ptr id 0 0)=some (.int .i64 n'):=by rw [zl3 hb'];rfl
  simp -dsimp only [zbv.k1,B.zg0,ld,V.zhf,B.zd]
  refine B.zn (fun _=>hq m _ h' k1 k2 o'.le) (fun _=> ?_)
  refine B.zn (fun _=>hq m _ h' k1 k2 o'.le) (fun _=>hq m _ h' k1 k2 o'.le)
 have g50:V.bin .geq (.int .i64 ((b-a:Nat):Int)) (.int .i64 50)=some (.bool (decide (50 <= b-a))):=geqN (b:=50)
 simp -dsimp only [g50,B.zd]
 refine B.zn (fun hd=> ?_) (fun hd=> ?_)
 ·rw [decide_eq_true_eq] at hd
  refine ia _ _ _ _ _ _ (zfr io im S hx hc' o (by omega) (by omega) (by omega) fun i n1 h1 i1 i2 o1=>zbe ?_)
  refine ia _ _ _ _ _ _ (zfr io im S hx hc' o1 (by omega) (by omega) (by omega) fun j n2 h2 j1 j2 o2=>zbe ?_)
  refine ia _ _ _ _ _ _ (zfr io im S hx hc' o2 (by omega) (by omega) (by omega) fun k n3 h3 k1 k2 o3=>zbe ?_)
  refine im _ _ _ _ _ _ _ _ (zi0 io S hx hc' o3 (by omega) (by omega) (by omega) fun m n4 h4 hm o4=>zbe ?_)
  exact fin m n4 h4 (by omega) (by omega) o4
 ·refine im _ _ _ _ _ _ _ _ (zi0 io S hx hc' o (by omega) (by omega) (by omega) fun m n4 h4 hm o4=>zbe ?_)
  exact fin m n4 h4 (by omega) (by omega) o4
end
section
variable {E:zx} {X:Type} {cs:X->List AVal} {v:X->AVal} {h0 h:za} {x f:AVal} {G:List X} {R:List (List AVal)} {c:X->X->Int} {Q:zQ} {Y1:zL} {a b i j:Nat}
theorem part_j (S:zdc E cs v) (hc:zd0 C0 v c fL h0) (ho:Rw E cs h0 h x G R) (hl:G.length<4611686018427387904) (hab:a<b) (p:PInv c a b G i j) (hi0:j<i \/ ∀ (h1:i<G.length) (h2:a<G.length),¬ c G[i] G[a]<0)
  (done: ∀ h' j',PInv c a b G i j'->j'<i->Rw E cs h0 h' x G R->zq.k1 C E C0 fL Q x (.int .i64 (a:Int)) (.int .i64 (j':Int)) h')
  (next: ∀ h' j' (hi:i<G.length) (hj:j'<G.length) ,PInv c a b (swp G i j' hi hj) (i+1) (j'-1)->i<j'->j'<b->Rw E cs h0 h' x (swp G i j' hi hj) R->Y1 [.int .i64 ((i+1:Nat):Int),.int .i64 ((j'-1:Nat):Int)] h'):
  zg (zq.l4 C E C0 fL Q Y1 x (.int .i64 (a:Int)) f (.int .i64 (i:Int))) [.int .i64 (j:Int)] h:=by
 refine zg.intro (fun t vs hh=>hh=h /\ ∃ j':Nat,t=j' /\ vs=[.int .i64 (j':Int)] /\ PInv c a b G i j' /\ (j'<i \/ ∀ (h1:i<G.length) (h2:a<G.length),¬ c G[i] G[a]<0)) j ?_ ⟨rfl,j,rfl,rfl,p,hi0⟩
 rintro Y j' vs hh ⟨rfl,_,rfl,rfl,p,hi0⟩ hY
 have k1:=p.hi;have k2:=p.hij;have k3:=p.hj;have k4:=p.hb
 have la:a<G.length:=by omega
 have lj:j'<G.length:=by omega
 simp -dsimp only [zq.l4,zq.k3,leqN,B.zd]
 by_cases hle:i <= j'
 ·have li:i<G.length:=by omega
  simp -dsimp only [hle,decide_true,B.gd_t,B.zde,ho.idx lj,ho.idx la,B.zd]
  refine ho.ld S (List.getElem?_eq_getElem lj) ?_
  refine ho.ld S (List.getElem?_eq_getElem la) ?_
  refine hc.call _ _ _ _ ho.le ?_
  simp -dsimp only [hle,decide_true,B.gd_t,B.zde,V.zd4,V.zia,B.zgg,B.zd]
  refine B.zn (fun hd=> ?_) (fun hd=> ?_)
  ·have hd': ¬ c G[j'] G[a]<0:=by simpa using hd
   have e1:=zg4 (a:=j') (b:=1) (by omega) (by omega)
   have e1':V.bin .sub (.int .i64 (j':Int)) (.int .i64 1)=some (.int .i64 ((j'-1:Nat):Int)):=e1
   simp -dsimp only [e1',B.zd]
   refine hY (j'-1) _ _ (by omega) ⟨rfl,j'-1,rfl,rfl,⟨k4,k1,by omega,by omega,p.lo,fun k hk ha q1 q2=> ?_⟩,?_⟩
   ·by_cases e:k=j'
    ·subst e;exact hd'
    ·exact p.hi2 k hk ha (by omega) q2
   ·rcases hi0 with h|h
    ·omega
    ·exact .inr h
  ·have hd':c G[j'] G[a]<0:=by simpa using hd
   have hni: ¬ c G[i] G[a]<0:=by
    rcases hi0 with h|h
    ·omega
    ·exact h li la
   simp -dsimp only [zq.k2,gtrN,show ¬ j'<i by omega,decide_false,B.cond_false,ho.idx lj,ho.idx li,B.zd]
   refine ho.ld S (List.getElem?_eq_getElem lj) ?_
   refine ho.ld S (List.getElem?_eq_getElem li) ?_
   refine ho.st S (t:=G[j']) li fun h1 o1=> ?_
   refine o1.st S (t:=G[i]) (by simpa using lj) fun h2 o2=> ?_
   have e1':V.bin .sub (.int .i64 (j':Int)) (.int .i64 1)=some (.int .i64 ((j'-1:Nat):Int)):=zg4 (a:=j') (b:=1) (by omega) (by omega)
   simp -dsimp only [add1 (show i<4611686018427387904 by omega),e1',B.zd]
   have hne:i≠j':=fun e=>by subst e;exact hni hd'
   exact next h2 j' li lj (p.swap hle li lj la hni hd') (by omega) k3 o2
 ·simp -dsimp only [hle,decide_false,B.gd_t,B.ze1,B.zhc,B.cond_false,zq.k2,gtrN,show j'<i by omega,decide_true,B.cond_true,B.zd]
  exact done hh j' p (by omega) ho
theorem part_i (S:zdc E cs v) (hc:zd0 C0 v c fL h0) (ho:Rw E cs h0 h x G R) (hl:G.length<4611686018427387904) (hab:a<b) (p:PInv c a b G i j)
  (done: ∀ h' i' j',PInv c a b G i' j'->j'<i'->Rw E cs h0 h' x G R->zq.k1 C E C0 fL Q x (.int .i64 (a:Int)) (.int .i64 (j':Int)) h')
  (next: ∀ h' i' j' (hi:i'<G.length) (hj:j'<G.length),PInv c a b (swp G i' j' hi hj) (i'+1) (j'-1)->a<i'->i <= i'->i'<j'->j'<b->Rw E cs h0 h' x (swp G i' j' hi hj) R->Y1 [.int .i64 ((i'+1:Nat):Int),.int .i64 ((j'-1:Nat):Int)] h'):
  zg (zq.l6 C E C0 fL Q Y1 x (.int .i64 (a:Int)) f (.int .i64 (j:Int))) [.int .i64 (i:Int)] h:=by
 refine zg.intro (fun t vs hh=>hh=h /\ ∃ i':Nat,i'+t=b /\ i <= i' /\ vs=[.int .i64 (i':Int)] /\ PInv c a b G i' j) (b-i) ?_ ⟨rfl,i,by have:=p.hij;have:=p.hj;omega,Nat.le_refl _,rfl,p⟩
 rintro Y t vs hh ⟨rfl,i',hit,hii,rfl,p⟩ hY
 have k1:=p.hi;have k2:=p.hij;have k3:=p.hj;have k4:=p.hb
 have la:a<G.length:=by omega
 simp -dsimp only [zq.l6,zq.k5,leqN,B.zd]
 by_cases hle:i' <= j
 ·have li:i'<G.length:=by omega
  simp -dsimp only [hle,decide_true,B.gd_t,B.zde,ho.idx li,ho.idx la,B.zd]
  refine ho.ld S (List.getElem?_eq_getElem li) ?_
  refine ho.ld S (List.getElem?_eq_getElem la) ?_
  refine hc.call _ _ _ _ ho.le ?_
  simp -dsimp only [hle,decide_true,B.gd_t,B.zde,V.zd4,B.zgg,B.zd]
  refine B.zn (fun hd=> ?_) (fun hd=> ?_)
  ·have hd':c G[i'] G[a]<0:=by simpa using hd
   simp -dsimp only [add1 (show i'<4611686018427387904 by omega),B.zd]
   refine hY (b-(i'+1)) _ _ (by omega) ⟨rfl,i'+1,by omega,by omega,rfl,⟨k4,by omega,k3,by omega,fun k hk ha q1 q2=> ?_,p.hi2⟩⟩
   by_cases e:k=i'
   ·subst e;exact hd'
   ·exact p.lo k hk ha q1 (by omega)
  ·have hd': ¬ c G[i'] G[a]<0:=by simpa using hd
   exact part_j S hc ho hl hab p (.inr fun _ _=>hd') (fun h' j' p' hlt o'=>done h' i' j' p' hlt o') fun h' j' hi hj p' h1 h2 o'=>next h' i' j' hi hj p' k1 hii h1 h2 o'
 ·simp -dsimp only [hle,decide_false,B.gd_t,B.ze1,B.zhc,B.cond_false]
  exact part_j S hc ho hl hab p (.inl (by omega)) (fun h' j' p' hlt o'=>done h' i' j' p' hlt o') fun h' j' hi hj p' h1 h2 o'=>next h' i' j' hi hj p' k1 hii h1 h2 o'
theorem part_end (S:zdc E cs v) (ho:Rw E cs h0 h x G R) (hab:a<b) (p:PInv c a b G i j) (hlt:j<i) (hq: ∀ h' m G',zkm c a b m G'->zcp a b G G'->Rw E cs h0 h' x G' R->Q (.tup [.int .i64 (m:Int),.bool false]) h'):
  zq.k1 C E C0 fL Q x (.int .i64 (a:Int)) (.int .i64 (j:Int)) h:=by
 have k1:=p.hi;have k2:=p.hij;have k3:=p.hj;have k4:=p.hb
 have la:a<G.length:=by omega
 have lj:j<G.length:=by omega
 simp -dsimp only [zq.k1,ho.idx lj,ho.idx la,B.zd]
 refine ho.ld S (List.getElem?_eq_getElem la) ?_
 refine ho.ld S (List.getElem?_eq_getElem lj) ?_
 refine ho.st S (t:=G[a]) lj fun h1 o1=> ?_
 refine o1.st S (t:=G[j]) (by simpa using la) fun h2 o2=> ?_
 exact hq h2 j _ (p.done hab hlt lj la) (zef lj la (by omega) k3 (Nat.le_refl _) hab) o2
theorem zst (S:zdc E cs v) (hc:zd0 C0 v c fL h0) (ho:Rw E cs h0 h x G R) (hl:G.length<4611686018427387904) (hab:a<b) (p:PInv c a b G i j)
  (hq: ∀ h' m G',zkm c a b m G'->zcp a b G G'->Rw E cs h0 h' x G' R->Q (.tup [.int .i64 (m:Int),.bool false]) h'):
  zg (zq.l7 C E C0 fL Q x (.int .i64 (a:Int)) f) [.int .i64 (i:Int),.int .i64 (j:Int)] h:=by
 refine zg.intro (fun t vs hh=> ∃ (i' j':Nat) (G':List X),i'+t=b /\ vs=[.int .i64 (i':Int),.int .i64 (j':Int)] /\ zcp a b G G' /\ PInv c a b G' i' j' /\ Rw E cs h0 hh x G' R) (b-i) ?_ ⟨i,j,G,by have:=p.hij;have:=p.hj;omega,rfl,zcp.refl _ _ _,p,ho⟩
 rintro Y t vs hh ⟨i',j',G',hit,rfl,W,p,o⟩ hY
 have hlen:=W.len
 simp -dsimp only [zq.l7]
 refine part_i S hc o (by omega) hab p (fun h' i2 j2 p2 hlt o2=>part_end S o2 hab p2 hlt fun h3 m G3 P3 W3 o3=>hq h3 m G3 P3 (W.trans W3) o3) fun h' i2 j2 hi hj p2 h1 h2 h3 h4 o2=> ?_
 exact hY (b-(i2+1)) _ _ (by omega) ⟨i2+1,j2-1,_,by omega,rfl,W.trans (zef hi hj (by omega) (by omega) (by omega) h4),p2,o2⟩
end
section
variable {E:zx} {X:Type} {cs:X->List AVal} {v:X->AVal} {h0 h:za} {x f:AVal} {G:List X} {R:List (List AVal)} {c:X->X->Int} {Q:zQ} {a b i j:Nat}
theorem zpr (S:zdc E cs v) (hc:zd0 C0 v c fL h0) (ho:Rw E cs h0 h x G R) (hl:G.length<4611686018427387904) (hab:a<b) (p:PInv c a b G i j)
  (hd:j<i \/ ∃ (h1:i<G.length) (h2:a<G.length) (h3:j<G.length),i <= j /\ ¬ c G[i] G[a]<0 /\ c G[j] G[a]<0) (hq:PartQ E cs h0 x c a b R G Q):
  zq.k10 C E C0 fL Q x (.int .i64 (a:Int)) f (.int .i64 (i:Int)) (.int .i64 (j:Int)) h:=by
 have k1:=p.hi;have k2:=p.hij;have k3:=p.hj;have k4:=p.hb
 have la:a<G.length:=by omega
 have lj:j<G.length:=by omega
 rcases hd with hlt|⟨li,_,_,hle,n1,n2⟩
 ·simp -dsimp only [zq.k10,gtrN,hlt,decide_true,B.cond_true,ho.idx lj,ho.idx la,B.zd]
  refine ho.ld S (List.getElem?_eq_getElem la) ?_
  refine ho.ld S (List.getElem?_eq_getElem lj) ?_
  refine ho.st S (t:=G[a]) lj fun h1 o1=> ?_
  refine o1.st S (t:=G[j]) (by simpa using la) fun h2 o2=> ?_
  exact hq h2 j _ true (p.done hab hlt lj la) (zef lj la (by omega) k3 (Nat.le_refl _) hab) o2
 ·simp -dsimp only [zq.k10,zq.k9,gtrN,show ¬ j<i by omega,decide_false,B.cond_false,ho.idx lj,ho.idx li,B.zd]
  refine ho.ld S (List.getElem?_eq_getElem lj) ?_
  refine ho.ld S (List.getElem?_eq_getElem li) ?_
  refine ho.st S (t:=G[j]) li fun h1 o1=> ?_
  refine o1.st S (t:=G[i]) (by simpa using lj) fun h2 o2=> ?_
  have hne:i≠j:=fun e=>by subst e;exact n1 n2
  have e1':V.bin .sub (.int .i64 (j:Int)) (.int .i64 1)=some (.int .i64 ((j-1:Nat):Int)):=zg4 (a:=j) (b:=1) (by omega) (by omega)
  simp -dsimp only [zq.k8,add1 (show i<4611686018427387904 by omega),e1',B.zd]
  have W:=zef li lj (by omega) (by omega) (by omega:a <= j) k3
  exact zst S hc (G:=swp G i j li lj) o2 (by rw [zis li lj];omega) hab (p.swap hle li lj la n1 n2) fun h' m G' P' W' o'=>hq h' m G' false P' (W.trans W') o'
theorem zsu (S:zdc E cs v) (hc:zd0 C0 v c fL h0) (ho:Rw E cs h0 h x G R) (hl:G.length<4611686018427387904) (hab:a<b) (p:PInv c a b G i j) (hi0:j<i \/ ∀ (h1:i<G.length) (h2:a<G.length),¬ c G[i] G[a]<0) (hq:PartQ E cs h0 x c a b R G Q):
  zg (zq.l12 C E C0 fL Q x (.int .i64 (a:Int)) f (.int .i64 (i:Int))) [.int .i64 (j:Int)] h:=by
 refine zg.intro (fun t vs hh=>hh=h /\ ∃ j':Nat,t=j' /\ vs=[.int .i64 (j':Int)] /\ PInv c a b G i j' /\ (j'<i \/ ∀ (h1:i<G.length) (h2:a<G.length),¬ c G[i] G[a]<0)) j ?_ ⟨rfl,j,rfl,rfl,p,hi0⟩
 rintro Y j' vs hh ⟨rfl,_,rfl,rfl,p,hi0⟩ hY
 have k1:=p.hi;have k2:=p.hij;have k3:=p.hj;have k4:=p.hb
 have la:a<G.length:=by omega
 have lj:j'<G.length:=by omega
 simp -dsimp only [zq.l12,zq.k11,leqN,B.zd]
 by_cases hle:i <= j'
 ·have li:i<G.length:=by omega
  simp -dsimp only [hle,decide_true,B.gd_t,B.zde,ho.idx lj,ho.idx la,B.zd]
  refine ho.ld S (List.getElem?_eq_getElem lj) ?_
  refine ho.ld S (List.getElem?_eq_getElem la) ?_
  refine hc.call _ _ _ _ ho.le ?_
  simp -dsimp only [hle,decide_true,B.gd_t,B.zde,V.zd4,V.zia,B.zgg,B.zd]
  refine B.zn (fun hd=> ?_) (fun hd=> ?_)
  ·have hd': ¬ c G[j'] G[a]<0:=by simpa using hd
   have e1':V.bin .sub (.int .i64 (j':Int)) (.int .i64 1)=some (.int .i64 ((j'-1:Nat):Int)):=zg4 (a:=j') (b:=1) (by omega) (by omega)
   simp -dsimp only [e1',B.zd]
   refine hY (j'-1) _ _ (by omega) ⟨rfl,j'-1,rfl,rfl,⟨k4,k1,by omega,by omega,p.lo,fun k hk ha q1 q2=> ?_⟩,?_⟩
   ·by_cases e:k=j'
    ·subst e;exact hd'
    ·exact p.hi2 k hk ha (by omega) q2
   ·rcases hi0 with h|h
    ·omega
    ·exact .inr h
  ·have hd':c G[j'] G[a]<0:=by simpa using hd
   have hni: ¬ c G[i] G[a]<0:=by
    rcases hi0 with h|h
    ·omega
    ·exact h li la
   exact zpr S hc ho hl hab p (.inr ⟨li,la,lj,hle,hni,hd'⟩) hq
 ·simp -dsimp only [hle,decide_false,B.gd_t,B.ze1,B.zhc,B.cond_false]
  exact zpr S hc ho hl hab p (.inl (by omega)) hq
theorem part_i1 (S:zdc E cs v) (hc:zd0 C0 v c fL h0) (ho:Rw E cs h0 h x G R) (hl:G.length<4611686018427387904) (hab:a<b) (p:PInv c a b G i j) (hq:PartQ E cs h0 x c a b R G Q):
  zg (zq.l14 C E C0 fL Q x (.int .i64 (a:Int)) f (.int .i64 (j:Int))) [.int .i64 (i:Int)] h:=by
 refine zg.intro (fun t vs hh=>hh=h /\ ∃ i':Nat,i'+t=b /\ vs=[.int .i64 (i':Int)] /\ PInv c a b G i' j) (b-i) ?_ ⟨rfl,i,by have:=p.hij;have:=p.hj;omega,rfl,p⟩
 rintro Y t vs hh ⟨rfl,i',hit,rfl,p⟩ hY
 have k1:=p.hi;have k2:=p.hij;have k3:=p.hj;have k4:=p.hb
 have la:a<G.length:=by omega
 simp -dsimp only [zq.l14,zq.k13,leqN,B.zd]
 by_cases hle:i' <= j
 ·have li:i'<G.length:=by omega
  simp -dsimp only [hle,decide_true,B.gd_t,B.zde,ho.idx li,ho.idx la,B.zd]
  refine ho.ld S (List.getElem?_eq_getElem li) ?_
  refine ho.ld S (List.getElem?_eq_getElem la) ?_
  refine hc.call _ _ _ _ ho.le ?_
  simp -dsimp only [hle,decide_true,B.gd_t,B.zde,V.zd4,B.zgg,B.zd]
  refine B.zn (fun hd=> ?_) (fun hd=> ?_)
  ·have hd':c G[i'] G[a]<0:=by simpa using hd
   simp -dsimp only [add1 (show i'<4611686018427387904 by omega),B.zd]
   refine hY (b-(i'+1)) _ _ (by omega) ⟨rfl,i'+1,by omega,rfl,⟨k4,by omega,k3,by omega,fun k hk ha q1 q2=> ?_,p.hi2⟩⟩
   by_cases e:k=i'
   ·subst e;exact hd'
   ·exact p.lo k hk ha q1 (by omega)
  ·have hd': ¬ c G[i'] G[a]<0:=by simpa using hd
   exact zsu S hc ho hl hab p (.inr fun _ _=>hd') hq
 ·simp -dsimp only [hle,decide_false,B.gd_t,B.ze1,B.zhc,B.cond_false]
  exact zsu S hc ho hl hab p (.inl (by omega)) hq
theorem zlr (S:zdc E cs v) (hc:zd0 C0 v c fL h0) (ho:Rw E cs h0 h x G R) (hl:G.length<4611686018427387904) {pv:Nat} (hp1:a <= pv) (hp2:pv<b) (hb:b <= G.length) (hq:PartQ E cs h0 x c a b R G Q):
  zq.cps C E C0 fL x (.int .i64 (a:Int)) (.int .i64 (b:Int)) (.int .i64 (pv:Int)) f h Q:=by
 have la:a<G.length:=by omega
 have lp:pv<G.length:=by omega
 simp -dsimp only [zq.cps,zq.k16,ho.idx lp,ho.idx la,B.zd]
 refine ho.ld S (List.getElem?_eq_getElem lp) ?_
 refine ho.ld S (List.getElem?_eq_getElem la) ?_
 refine ho.st S (t:=G[pv]) la fun h1 o1=> ?_
 refine o1.st S (t:=G[a]) (by simpa using lp) fun h2 o2=> ?_
 have e1':V.bin .sub (.int .i64 (b:Int)) (.int .i64 1)=some (.int .i64 ((b-1:Nat):Int)):=zg4 (a:=b) (b:=1) (by omega) (by omega)
 simp -dsimp only [zq.k15,add1 (show a<4611686018427387904 by omega),e1',B.zd]
 have W:=zef la lp (Nat.le_refl _) (by omega) hp1 hp2
 have hsl:=zis la lp
 refine part_i1 S hc (G:=swp G a pv la lp) o2 (by omega) (by omega) ⟨by omega,by omega,by omega,by omega,fun k _ _ q1 q2=>by omega,fun k _ _ q1 q2=>by omega⟩ fun h' m G' t P' W' o'=>hq h' m G' t P' (W.trans W') o'
end
section
variable {E:zx} {X:Type} {cs:X->List AVal} {v:X->AVal} {h0 h:za} {x f:AVal} {G:List X} {R:List (List AVal)} {c:X->X->Int} {Q:zQ} {Y1:zL} {a b i j:Nat}
theorem eq_j (S:zdc E cs v) (hc:zd0 C0 v c fL h0) (ho:Rw E cs h0 h x G R) (hl:G.length<4611686018427387904) (hab:a<b) (p:EInv c a b G i j) (hi0:j<i \/ ∀ (h1:i<G.length) (h2:a<G.length),c G[a] G[i]<0)
  (done: ∀ h' j',EInv c a b G i j'->j'<i->Rw E cs h0 h' x G R->Q (.int .i64 (i:Int)) h')
  (next: ∀ h' j' (hi:i<G.length) (hj:j'<G.length),EInv c a b (swp G i j' hi hj) (i+1) (j'-1)->i<j'->j'<b->Rw E cs h0 h' x (swp G i j' hi hj) R->Y1 [.int .i64 ((i+1:Nat):Int),.int .i64 ((j'-1:Nat):Int)] h'):
  zg (zba.l3 C E C0 fL Q Y1 x (.int .i64 (a:Int)) f (.int .i64 (i:Int))) [.int .i64 (j:Int)] h:=by
 refine zg.intro (fun t vs hh=>hh=h /\ ∃ j':Nat,t=j' /\ vs=[.int .i64 (j':Int)] /\ EInv c a b G i j' /\ (j'<i \/ ∀ (h1:i<G.length) (h2:a<G.length),c G[a] G[i]<0)) j ?_ ⟨rfl,j,rfl,rfl,p,hi0⟩
 rintro Y j' vs hh ⟨rfl,_,rfl,rfl,p,hi0⟩ hY
 have k1:=p.hi;have k2:=p.hij;have k3:=p.hj;have k4:=p.hb
 have la:a<G.length:=by omega
 have lj:j'<G.length:=by omega
 simp -dsimp only [zba.l3,zba.k2,leqN,B.zd]
 by_cases hle:i <= j'
 ·have li:i<G.length:=by omega
  simp -dsimp only [hle,decide_true,B.gd_t,B.zde,ho.idx lj,ho.idx la,B.zd]
  refine ho.ld S (List.getElem?_eq_getElem la) ?_
  refine ho.ld S (List.getElem?_eq_getElem lj) ?_
  refine hc.call _ _ _ _ ho.le ?_
  simp -dsimp only [hle,decide_true,B.gd_t,B.zde,V.zd4,B.zgg,B.zd]
  refine B.zn (fun hd=> ?_) (fun hd=> ?_)
  ·have hd':c G[a] G[j']<0:=by simpa using hd
   have e1':V.bin .sub (.int .i64 (j':Int)) (.int .i64 1)=some (.int .i64 ((j'-1:Nat):Int)):=zg4 (a:=j') (b:=1) (by omega) (by omega)
   simp -dsimp only [e1',B.zd]
   refine hY (j'-1) _ _ (by omega) ⟨rfl,j'-1,rfl,rfl,⟨k4,k1,by omega,by omega,p.lo,fun k hk ha q1 q2=> ?_⟩,?_⟩
   ·by_cases e:k=j'
    ·subst e;exact hd'
    ·exact p.hi2 k hk ha (by omega) q2
   ·rcases hi0 with h|h
    ·omega
    ·exact .inr h
  ·have hd': ¬ c G[a] G[j']<0:=by simpa using hd
   have hni:c G[a] G[i]<0:=by
    rcases hi0 with h|h
    ·omega
    ·exact h li la
   simp -dsimp only [zba.k1,gtrN,show ¬ j'<i by omega,decide_false,B.cond_false,ho.idx lj,ho.idx li,B.zd]
   refine ho.ld S (List.getElem?_eq_getElem lj) ?_
   refine ho.ld S (List.getElem?_eq_getElem li) ?_
   refine ho.st S (t:=G[j']) li fun h1 o1=> ?_
   refine o1.st S (t:=G[i]) (by simpa using lj) fun h2 o2=> ?_
   have e1':V.bin .sub (.int .i64 (j':Int)) (.int .i64 1)=some (.int .i64 ((j'-1:Nat):Int)):=zg4 (a:=j') (b:=1) (by omega) (by omega)
   simp -dsimp only [add1 (show i<4611686018427387904 by omega),e1',B.zd]
   have hne:i≠j':=fun e=>by subst e;exact hd' hni
   exact next h2 j' li lj (p.swap hle li lj la hni hd') (by omega) k3 o2
 ·simp -dsimp only [hle,decide_false,B.gd_t,B.ze1,B.zhc,B.cond_false,zba.k1,gtrN,show j'<i by omega,decide_true,B.cond_true,B.zd]
  exact done hh j' p (by omega) ho
theorem eq_i (S:zdc E cs v) (hc:zd0 C0 v c fL h0) (ho:Rw E cs h0 h x G R) (hl:G.length<4611686018427387904) (hab:a<b) (p:EInv c a b G i j)
  (done: ∀ h' i' j',EInv c a b G i' j'->j'<i'->Rw E cs h0 h' x G R->Q (.int .i64 (i':Int)) h')
  (next: ∀ h' i' j' (hi:i'<G.length) (hj:j'<G.length),EInv c a b (swp G i' j' hi hj) (i'+1) (j'-1)->a<i'->i <= i'->i'<j'->j'<b->Rw E cs h0 h' x (swp G i' j' hi hj) R->Y1 [.int .i64 ((i'+1:Nat):Int),.int .i64 ((j'-1:Nat):Int)] h'):
  zg (zba.l5 C E C0 fL Q Y1 x (.int .i64 (a:Int)) f (.int .i64 (j:Int))) [.int .i64 (i:Int)] h:=by
 refine zg.intro (fun t vs hh=>hh=h /\ ∃ i':Nat,i'+t=b /\ i <= i' /\ vs=[.int .i64 (i':Int)] /\ EInv c a b G i' j) (b-i) ?_ ⟨rfl,i,by have:=p.hij;have:=p.hj;omega,Nat.le_refl _,rfl,p⟩
 rintro Y t vs hh ⟨rfl,i',hit,hii,rfl,p⟩ hY
 have k1:=p.hi;have k2:=p.hij;have k3:=p.hj;have k4:=p.hb
 have la:a<G.length:=by omega
 simp -dsimp only [zba.l5,zba.k4,leqN,B.zd]
 by_cases hle:i' <= j
 ·have li:i'<G.length:=by omega
  simp -dsimp only [hle,decide_true,B.gd_t,B.zde,ho.idx li,ho.idx la,B.zd]
  refine ho.ld S (List.getElem?_eq_getElem la) ?_
  refine ho.ld S (List.getElem?_eq_getElem li) ?_
  refine hc.call _ _ _ _ ho.le ?_
  simp -dsimp only [hle,decide_true,B.gd_t,B.zde,V.zd4,V.zia,B.zgg,B.zd]
  refine B.zn (fun hd=> ?_) (fun hd=> ?_)
  ·have hd': ¬ c G[a] G[i']<0:=by simpa using hd
   simp -dsimp only [add1 (show i'<4611686018427387904 by omega),B.zd]
   refine hY (b-(i'+1)) _ _ (by omega) ⟨rfl,i'+1,by omega,by omega,rfl,⟨k4,by omega,k3,by omega,fun k hk ha q1 q2=> ?_,p.hi2⟩⟩
   by_cases e:k=i'
   ·subst e;exact hd'
   ·exact p.lo k hk ha q1 (by omega)
  ·have hd':c G[a] G[i']<0:=by simpa using hd
   exact eq_j S hc ho hl hab p (.inr fun _ _=>hd') (fun h' j' p' hlt o'=>done h' i' j' p' hlt o') fun h' j' hi hj p' h1 h2 o'=>next h' i' j' hi hj p' k1 hii h1 h2 o'
 ·simp -dsimp only [hle,decide_false,B.gd_t,B.ze1,B.zhc,B.cond_false]
  exact eq_j S hc ho hl hab p (.inl (by omega)) (fun h' j' p' hlt o'=>done h' i' j' p' hlt o') fun h' j' hi hj p' h1 h2 o'=>next h' i' j' hi hj p' k1 hii h1 h2 o'
theorem eq_main (S:zdc E cs v) (hc:zd0 C0 v c fL h0) (ho:Rw E cs h0 h x G R) (hl:G.length<4611686018427387904) (hab:a<b) (p:EInv c a b G i j)
  (hq: ∀ h' i' j' G',EInv c a b G' i' j'->j'<i'->zcp (a+1) b G G'->Rw E cs h0 h' x G' R->Q (.int .i64 (i':Int)) h'):
  zg (zba.l6 C E C0 fL Q x (.int .i64 (a:Int)) f) [.int .i64 (i:Int),.int .i64 (j:Int)] h:=by
 refine zg.intro (fun t vs hh=> ∃ (i' j':Nat) (G':List X),i'+t=b /\ vs=[.int .i64 (i':Int),.int .i64 (j':Int)] /\ zcp (a+1) b G G' /\ EInv c a b G' i' j' /\ Rw E cs h0 hh x G' R) (b-i) ?_ ⟨i,j,G,by have:=p.hij;have:=p.hj;omega,rfl,zcp.refl _ _ _,p,ho⟩
 rintro Y t vs hh ⟨i',j',G',hit,rfl,W,p,o⟩ hY
 have hlen:=W.len
 simp -dsimp only [zba.l6]
 refine eq_i S hc o (by omega) hab p (fun h' i2 j2 p2 hlt o2=>hq h' i2 j2 G' p2 hlt W o2) fun h' i2 j2 hi hj p2 h1 h2 h3 h4 o2=> ?_
 exact hY (b-(i2+1)) _ _ (by omega) ⟨i2+1,j2-1,_,by omega,rfl,W.trans (zef hi hj (by omega) (by omega) (by omega) h4),p2,o2⟩
theorem ziv (S:zdc E cs v) (hc:zd0 C0 v c fL h0) (ho:Rw E cs h0 h x G R) (hl:G.length<4611686018427387904) {pv:Nat} (hp1:a <= pv) (hp2:pv<b) (hb:b <= G.length)
  (hq: ∀ h' i' j' G',EInv c a b G' i' j'->j'<i'->zcp a b G G'->(∀ (h1:a<G'.length) (h2:pv<G.length),G'[a]=G[pv])->Rw E cs h0 h' x G' R->Q (.int .i64 (i':Int)) h'):
  zba.cps C E C0 fL x (.int .i64 (a:Int)) (.int .i64 (b:Int)) (.int .i64 (pv:Int)) f h Q:=by
 have la:a<G.length:=by omega
 have lp:pv<G.length:=by omega
 simp -dsimp only [zba.cps,zba.k8,ho.idx lp,ho.idx la,B.zd]
 refine ho.ld S (List.getElem?_eq_getElem lp) ?_
 refine ho.ld S (List.getElem?_eq_getElem la) ?_
 refine ho.st S (t:=G[pv]) la fun h1 o1=> ?_
 refine o1.st S (t:=G[a]) (by simpa using lp) fun h2 o2=> ?_
 have e1':V.bin .sub (.int .i64 (b:Int)) (.int .i64 1)=some (.int .i64 ((b-1:Nat):Int)):=zg4 (a:=b) (b:=1) (by omega) (by omega)
 simp -dsimp only [zba.k7,add1 (show a<4611686018427387904 by omega),e1',B.zd]
 have W:=zef la lp (Nat.le_refl _) (by omega) hp1 hp2
 have hsl:=zis la lp
 refine eq_main S hc (G:=swp G a pv la lp) o2 (by omega) (by omega) ⟨by omega,by omega,by omega,by omega,fun k _ _ q1 q2=>by omega,fun k _ _ q1 q2=>by omega⟩ fun h' i' j' G' p' hlt W' o'=>hq h' i' j' G' p' hlt (W.trans (W'.mono (by omega) (Nat.le_refl _))) (fun h1 h2=> ?_) o'
 rw [W'.same (.inl (by omega)) h1 (by omega),zg3 la lp (by omega) la]
 split
 ·rename_i e;simp only [e]
 ·rw [if_pos rfl]
end
section
variable {X:Type} {c:X->X->Int} {a n lo r ch:Nat} {G:List X}
end
section
variable {E:zx} {X:Type} {cs:X->List AVal} {v:X->AVal} {h0 h:za} {x f:AVal} {G:List X} {R:List (List AVal)} {c:X->X->Int} {Q:zQ} {Y1:zL} {a n lo r ch:Nat}
theorem sift_k1 (S:zdc E cs v) (W:Weak (ze4 c)) (hc:zd0 C0 v c fL h0) (ho:Rw E cs h0 h x G R) (hl:G.length<1000000000) (p:SInv c a n lo r G) (hlo:lo <= r) (hch:ch<n) (hp:(ch-1) / 2=r) (hc0:0<ch)
  (hmax: ∀ k,0<k->k<n->(k-1) / 2=r->(h1:a+ch<G.length)->(h2:a+k<G.length)-> ¬ c G[a+ch] G[a+k]<0)
  (done: ∀ h',Heap c a n lo G->Rw E cs h0 h' x G R->Q (.tup []) h')
  (next: ∀ h' (hr:a+r<G.length) (hcl:a+ch<G.length),SInv c a n lo ch (swp G (a+r) (a+ch) hr hcl)->Rw E cs h0 h' x (swp G (a+r) (a+ch) hr hcl) R->Y1 [.int .i64 (ch:Int)] h'):
  zdq.k1 C E C0 fL Q Y1 x (.int .i64 (n:Int)) (.int .i64 (a:Int)) f (.int .i64 (r:Int)) (.int .i64 (ch:Int)) h:=by
 have hlen:=p.len
 have lr:a+r<G.length:=by omega
 have lc:a+ch<G.length:=by omega
 have ar:=zj6 (a:=a) (b:=r) (by omega)
 have ac:=zj6 (a:=a) (b:=ch) (by omega)
 simp -dsimp only [zdq.k1,ar,ac,ho.idx lr,ho.idx lc,B.zd]
 refine ho.ld S (List.getElem?_eq_getElem lr) ?_
 refine ho.ld S (List.getElem?_eq_getElem lc) ?_
 refine hc.call _ _ _ _ ho.le ?_
 simp -dsimp only [V.zd4,V.zia,B.zd]
 refine B.zn (fun hd=> ?_) (fun hd=> ?_)
 ·have hd': ¬ c G[a+r] G[a+ch]<0:=by simpa using hd
  refine done h (p.done fun k k0 hk hkp h1 h2=> ?_) ho
  have:=W.zor (a:=G[a+r]) (b:=G[a+ch]) (c:=G[a+k]) (by unfold ze4;exact decide_eq_false hd') (by unfold ze4;exact decide_eq_false (hmax k k0 hk hkp lc h2))
  unfold ze4 at this;exact of_decide_eq_false this
 ·have hd':c G[a+r] G[a+ch]<0:=by simpa using hd
  simp -dsimp only [ar,ac,ho.idx lr,ho.idx lc,B.zd]
  refine ho.ld S (List.getElem?_eq_getElem lc) ?_
  refine ho.ld S (List.getElem?_eq_getElem lr) ?_
  refine ho.st S (t:=G[a+ch]) lr fun h1 o1=> ?_
  refine o1.st S (t:=G[a+r]) (by simpa using lc) fun h2 o2=> ?_
  exact next h2 lr lc (p.step W hlo hch hp hc0 lr lc hd' fun k k0 hk hkp h2=>hmax k k0 hk hkp lc h2) o2
theorem zjb (S:zdc E cs v) (W:Weak (ze4 c)) (hc:zd0 C0 v c fL h0) (ho:Rw E cs h0 h x G R) (hl:G.length<1000000000) (p:SInv c a n lo r G) (hlo:lo <= r) (hrn:r <= n) {b:Nat} (hb:a+n <= b)
  (hq: ∀ h' G',Heap c a n lo G'->zcp a b G G'->Rw E cs h0 h' x G' R->Q (.tup []) h'):
  zdq.cps C E C0 fL x (.int .i64 (r:Int)) (.int .i64 (n:Int)) (.int .i64 (a:Int)) f h Q:=by
 simp -dsimp only [zdq.cps]
 refine zg.intro (fun t vs hh=> ∃ (r':Nat) (G':List X),r'+t=n /\ vs=[.int .i64 (r':Int)] /\ lo <= r' /\ SInv c a n lo r' G' /\ zcp a b G G' /\ Rw E cs h0 hh x G' R) (n-r) ?_ ⟨r,G,by omega,rfl,hlo,p,zcp.refl _ _ _,ho⟩
 rintro Y t vs hh ⟨r',G',hrt,rfl,hlo',p',W',o⟩ hY
 have hlen:=W'.len
 have pl:=p'.len
 have e1:V.bin .mul (.int .i64 2) (.int .i64 (r':Int))=some (.int .i64 ((2*r':Nat):Int)):=mulN (a:=2) (b:=r') (by omega)
 simp -dsimp only [zdq.l4,zdq.k3,e1,add1 (show 2*r'<4611686018427387904 by omega),geqN,B.zd]
 refine B.zn (fun hd=> ?_) (fun hd=> ?_)
 ·rw [decide_eq_true_eq] at hd
  exact hq hh G' (p'.done fun k k0 hk hkp _ _=>by omega) W' o
 ·rw [decide_eq_false_iff_not] at hd
  have fin: ∀ ch,ch<n->(ch-1) / 2=r'->0<ch->(∀ k,0<k->k<n->(k-1) / 2=r'->(h1:a+ch<G'.length)->(h2:a+k<G'.length)-> ¬ c G'[a+ch] G'[a+k]<0)->zdq.k1 C E C0 fL Q Y x (.int .i64 (n:Int)) (.int .i64 (a:Int)) f (.int .i64 (r':Int)) (.int .i64 (ch:Int)) hh:=fun ch c1 c2 c3 c4=>
   sift_k1 S W hc o (by omega) p' hlo' c1 c2 c3 c4 (fun h' hp o'=>hq h' G' hp W' o') fun h' hr hcl p2 o2=>hY (n-ch) _ _ (by omega) ⟨ch,_,by omega,rfl,by omega,p2,W'.trans (zef hr hcl (by omega) (by omega) (by omega) (by omega)),o2⟩
  have irr: ∀ t:X,¬ c t t<0:=fun t=>by
   have:=W.irr t;unfold ze4 at this;exact of_decide_eq_false this
  have a1:=zj6 (a:=a) (b:=2*r'+1) (by omega)
  simp -dsimp only [zdq.k2,add1 (show 2*r'+1<4611686018427387904 by omega),lssN,B.zd]
  by_cases h2:2*r'+1+1<n
  ·have l1:a+(2*r'+1)<G'.length:=by omega
   have l2:a+(2*r'+1)+1<G'.length:=by omega
   simp -dsimp only [h2,decide_true,B.gd_t,B.zde,a1,add1 (show a+(2*r'+1)<4611686018427387904 by omega),o.idx l1,o.idx l2,B.zd]
   refine o.ld S (List.getElem?_eq_getElem l1) ?_
   refine o.ld S (List.getElem?_eq_getElem l2) ?_
   refine hc.call _ _ _ _ o.le ?_
   simp -dsimp only [h2,decide_true,B.gd_t,B.zde,V.zd4,B.zgg,B.zd]
   refine B.zn (fun hf=> ?_) (fun hf=> ?_)
   ·have hf':c G'[a+(2*r'+1)] G'[a+(2*r'+1)+1]<0:=by simpa using hf
    simp -dsimp only [add1 (show 2*r'+1<4611686018427387904 by omega),B.zd]
    refine fin (2*r'+1+1) h2 (by omega) (by omega) fun k k0 hk hkp h1 h3=> ?_
    rcases (show k=2*r'+1 \/ k=2*r'+1+1 by omega) with rfl|rfl
    ·have:=W.asym (a:=G'[a+(2*r'+1)]) (b:=G'[a+(2*r'+1)+1]) (by unfold ze4;exact decide_eq_true hf')
     unfold ze4 at this;exact of_decide_eq_false this
    ·exact irr _
   ·have hf': ¬ c G'[a+(2*r'+1)] G'[a+(2*r'+1)+1]<0:=by simpa using hf
    refine fin (2*r'+1) (by omega) (by omega) (by omega) fun k k0 hk hkp h1 h3=> ?_
    rcases (show k=2*r'+1 \/ k=2*r'+1+1 by omega) with rfl|rfl
    ·exact irr _
    ·exact hf'
  ·simp -dsimp only [h2,decide_false,B.gd_t,B.ze1,B.zhc,B.cond_false]
   refine fin (2*r'+1) (by omega) (by omega) (by omega) fun k k0 hk hkp h1 h3=> ?_
   have:k=2*r'+1:=by omega
   subst this;exact irr _
end
section
variable {X:Type} {c:X->X->Int} {a b n lo:Nat} {G G':List X}
end
abbrev SiftI (C:CSem) (E:zx) (C0:CSem) (fL:Nat) (f1:Nat):Prop:= ∀ (v0 v1 v2 v3 v4:AVal) (h:za) (Q:zQ),zdq.cps C E C0 fL v0 v1 v2 v3 v4 h (dn Q)->C f1 [v0,v1,v2,v3,v4] h Q
section
variable {E:zx} {X:Type} {cs:X->List AVal} {v:X->AVal} {h0 h:za} {x f:AVal} {G:List X} {R:List (List AVal)} {c:X->X->Int} {Q:zQ} {a b:Nat}
theorem zml (S:zdc E cs v) (W:Weak (ze4 c)) (hc:zd0 C0 v c fL h0) (ho:Rw E cs h0 h x G R) (hl:G.length <= 100000000) (hab:a <= b) (hb:b <= G.length)
  (hq: ∀ h' G',zcp a b G G'->Srt c a b G'->Rw E cs h0 h' x G' R->Q (.tup []) h'):zdj.cps C E C0 fL x (.int .i64 (a:Int)) (.int .i64 (b:Int)) f h Q:=by
 have e0: ∀ (L:List X),(L.map (fun y=>(y,0))).map (fun p:X×Nat=>cs p.1)=L.map cs:=fun L=>by rw [List.map_map];rfl
 have e1: ∀ (L:List (X×Nat)),L.map (fun p:X×Nat=>cs p.1)=(L.map (·.1)).map cs:=fun L=>by rw [List.map_map];rfl
 have lt:(G.take a).length=a:=by rw [List.length_take];omega
 have lm:((G.take b).drop a).length=b-a:=by rw [List.length_drop,List.length_take];omega
 refine zjk (P:=(G.take a).map (fun y=>(y,0))) (M:=((G.take b).drop a).zipIdx) (U:=(G.drop b).map (fun y=>(y,0))) S W ?_ ?_ hc ?_ ?_ ?_ ?_ (R:=R) (h0:=h0)
 ·simp only [List.length_append,List.length_map,List.length_zipIdx,lt,lm,List.length_drop];omega
 ·have:(((G.take b).drop a).zipIdx.map (·.2)).Pairwise (· < ·):=by
   rw [List.zipIdx_map_snd];exact List.pairwise_lt_range'
  rwa [List.pairwise_map] at this
 ·rw [List.length_map,lt]
 ·rw [List.length_map,List.length_zipIdx,lt,lm];omega
 ·unfold Rw
  rw [List.map_append,List.map_append,e0,e0,e1,List.zipIdx_map_fst, <- List.map_append, <- List.map_append, <- split3 hab G]
  exact ho
 ·intro h' M' hp hs ho'
  have hp':(M'.map (·.1)).Perm ((G.take b).drop a):=by
   have:=hp.map (·.1);rwa [List.zipIdx_map_fst] at this
  refine hq h' (G.take a++(M'.map (·.1)++G.drop b)) (ztw hab hb hp') (srt_mid hab hb (by rw [hp'.length_eq,lm]) ?_) ?_
  ·rw [List.pairwise_map]
   refine hs.imp fun {x y} hxy=> ?_
   have hx:ze4 c y.1 x.1=false:=hxy.elim (fun h=>W.asym h) fun ⟨h,_⟩=>h
   unfold ze4 at hx;exact of_decide_eq_false hx
  ·unfold Rw at ho' ⊢
   rw [List.map_append,List.map_append,e0,e0,e1] at ho'
   rwa [List.map_append,List.map_append]
theorem zmm {f1:Nat} (is:SiftI C E C0 fL f1) (S:zdc E cs v) (W:Weak (ze4 c)) (hc:zd0 C0 v c fL h0) (ho:Rw E cs h0 h x G R) (hl:G.length <= 100000000) (hab:a<b) (hb:b <= G.length)
  (hq: ∀ h' G',zcp a b G G'->Srt c a b G'->Rw E cs h0 h' x G' R->Q (.tup []) h'):zdr.cps C E C0 fL f1 x (.int .i64 (a:Int)) (.int .i64 (b:Int)) f h Q:=by
 have e1:=zg4 (a:=b) (b:=a) (by omega) (by omega)
 obtain ⟨n,hn⟩: ∃ n,n=b-a:=⟨_,rfl⟩
 have e2:V.bin .quo (.int .i64 ((n-1:Nat):Int)) (.int .i64 2)=some (.int .i64 (((n-1) / 2:Nat):Int)):=by
  rw [V.zmr _ _ _ (by omega),show ((n-1:Nat):Int).tdiv 2=(((n-1) / 2:Nat):Int) from rfl,wrap_i64 (by omega) (by omega)]
 have m1: ∀ k:Nat,k <= 100000000->V.bin .sub (.int .i64 (k:Int)) (.int .i64 1)=some (.int .i64 ((k:Int)-1)):=fun k hk=>by
  rw [V.zh6,wrap_i64 (by omega) (by omega)]
 have m2: ∀ k:Nat,k <= 100000000->V.bin .sub (.int .i64 ((k+1:Nat)-1:Int)) (.int .i64 1)=some (.int .i64 ((k:Int)-1)):=fun k hk=>by
  rw [V.zh6,wrap_i64 (by omega) (by omega)];congr 2;omega
 simp -dsimp only [zdr.cps,zdr.k5,e1,B.zd]
 rw [<- hn]
 simp -dsimp only [sub1 (show 1 <= n by omega) (by omega),e2,B.zd]
 refine zg.intro (fun t vs hh=> ∃ (G':List X),vs=[.int .i64 ((t:Int)-1)] /\ t <= n /\ Heap c a n t G' /\ zcp a b G G' /\ Rw E cs h0 hh x G' R) ((n-1) / 2+1) ?_ ⟨G,by congr 2;omega,by omega,Heap.none_ (by omega),zcp.refl _ _ _,ho⟩
 rintro Y t vs hh ⟨G1,rfl,htn,p1,W1,o1⟩ hY
 have l1:=W1.len
 simp -dsimp only [zdr.l4,zdr.k3,V.zjr,B.zd]
 cases t with
 | succ k=>
  rw [show decide ((0:Int) <= ((k+1:Nat):Int)-1)=true by simp,B.cond_true,show (((k+1:Nat):Int)-1)=(k:Int) by omega]
  refine is _ _ _ _ _ _ _ (zjb (b:=b) S W hc o1 (by omega) (p1.sinv (by omega)) (Nat.le_refl _) (by omega) (by omega) fun h2 G2 p2 w2 o2=>zbe ?_)
  simp -dsimp only [m1 k (by omega),B.zd]
  exact hY k _ _ (by omega) ⟨G2,rfl,by omega,p2,W1.trans w2,o2⟩
 | zero=>
  rw [show decide ((0:Int) <= ((0:Nat):Int)-1)=false by simp,B.cond_false]
  simp -dsimp only [m1 n (by omega),B.zd]
  refine zg.intro (fun t vs hh=> ∃ (G':List X),vs=[.int .i64 ((t:Int)-1)] /\ t <= n /\ Heap c a t 0 G' /\ Cut c a b a (a+t) G' /\ zcp a b G G' /\ Rw E cs h0 hh x G' R) n ?_ ⟨G1,rfl,Nat.le_refl _,p1,fun p q _ _ h3 h4=>by omega,W1,o1⟩
  rintro Z t vs hh ⟨G2,rfl,htn,p2,c2,W2,o2⟩ hZ
  have l2:=W2.len
  simp -dsimp only [zdr.l2,zdr.k1,V.zjr,B.zd]
  cases t with
  | zero=>
   rw [show decide ((0:Int) <= ((0:Nat):Int)-1)=false by simp,B.cond_false]
   exact hq hh G2 W2 (c2.small (by omega)) o2
  | succ k=>
   rw [show decide ((0:Int) <= ((k+1:Nat):Int)-1)=true by simp,B.cond_true,show (((k+1:Nat):Int)-1)=(k:Int) by omega]
   have ac:=zj6 (a:=a) (b:=k) (by omega)
   have la:a<G2.length:=by omega
   have lk:a+k<G2.length:=by omega
   simp -dsimp only [ac,o2.idx la,o2.idx lk,B.zd]
   refine o2.ld S (List.getElem?_eq_getElem lk) ?_
   refine o2.ld S (List.getElem?_eq_getElem la) ?_
   refine o2.swap S la lk fun h3 o3=> ?_
   have hsl:=zis la lk
   have w3:zcp a (a+(k+1)) G2 (swp G2 a (a+k) la lk):=zef la lk (by omega) (by omega) (by omega) (by omega)
   have c3:=c2.within w3 (Nat.le_refl _) (by omega)
   have c4:Cut c a b a (a+k) (swp G2 a (a+k) la lk):=fun p q h1 h2 h3 h4 h5 h6=>by
    by_cases e:a+(k+1) <= q
    ·exact c3 p q h1 h2 h3 (.inr e) h5 h6
    ·have:q=a+k:=by omega
     subst this
     rw [zg3 la lk h6 (by omega),if_pos rfl,zg3 la lk h5 (by omega),if_neg (by omega)]
     split
     ·exact p2.root W (by omega) k (by omega)
     ·have:=p2.root W (by omega) (p-a) (by omega)
      simpa only [show a+(p-a)=p by omega] using this
   have s3:SInv c a k 0 0 (swp G2 a (a+k) la lk):=⟨by omega,fun j j0 hj _ hne h1 h2=>by
    rw [zg3 la lk h1 (by omega),if_neg (by omega),if_neg (by omega),zg3 la lk h2 (by omega),if_neg (by omega),if_neg (by omega)]
    exact p2 j j0 (by omega) (by omega) (by omega) (by omega),fun _ h=>by omega⟩
   refine is _ _ _ _ _ _ _ (zjb (r:=0) (b:=a+k) S W hc o3 (by omega) s3 (Nat.le_refl _) (by omega) (by omega) fun h4 G4 p4 w4 o4=>zbe ?_)
   simp -dsimp only [m1 k (by omega),B.zd]
   exact hZ k _ _ (by omega) ⟨G4,rfl,by omega,p4,c4.within w4 (Nat.le_refl _) (by omega),(W2.trans (w3.mono (Nat.le_refl _) (by omega))).trans (w4.mono (Nat.le_refl _) (by omega)),o4⟩
end
section
variable {X:Type} {c:X->X->Int} {A B j:Nat} {G:List X}
end
section
variable {E:zx} {X:Type} {cs:X->List AVal} {v:X->AVal} {h0 h:za} {x f:AVal} {G:List X} {R:List (List AVal)} {c:X->X->Int} {Q:zQ} {Y1:zL} {a b i s:Nat}
theorem pis_k3 (S:zdc E cs v) (hc:zd0 C0 v c fL h0) (ho:Rw E cs h0 h x G R) (hl:G.length <= 100000000) (hi0:0<i) (hi:i<b) (hb:b <= G.length) (hs:s <= 5)
  (hY: ∀ h' G',zcp i b G G'->Rw E cs h0 h' x G' R->Y1 [.int .i64 (i:Int),.int .i64 ((s+1:Nat):Int)] h'):
  zh.k3 C E C0 fL Q Y1 x (.int .i64 (a:Int)) (.int .i64 (b:Int)) f (.int .i64 (i:Int)) (.int .i64 (s:Int)) h:=by
 have hge:V.bin .geq (.int .i64 ((b-i:Nat):Int)) (.int .i64 2)=some (.bool (decide (2 <= b-i))):=geqN (b:=2)
 simp -dsimp only [zh.k3,zg4 (show i <= b by omega) (by omega),hge,add1 (show s<4611686018427387904 by omega),add1 (show i<4611686018427387904 by omega),B.zd]
 refine B.zn (fun hd=> ?_) (fun hd=> ?_)
 rotate_left
 ·simp -dsimp only [add1 (show s<4611686018427387904 by omega),B.zd]
  exact hY h G (zcp.refl _ _ _) ho
 rw [decide_eq_true_eq] at hd
 simp -dsimp only [add1 (show i<4611686018427387904 by omega),B.zd]
 refine zg.intro (fun t vs hh=> ∃ (j:Nat) (G':List X),j+t=b /\ vs=[.int .i64 (j:Int)] /\ i<j /\ zcp i b G G' /\ Rw E cs h0 hh x G' R) (b-(i+1)) ?_ ⟨i+1,G,by omega,rfl,by omega,zcp.refl _ _ _,ho⟩
 rintro Y t vs hh ⟨j,G1,hjt,rfl,hij,W1,o⟩ hY2
 have hlen:=W1.len
 simp -dsimp only [zh.l2,zh.k1,lssN,B.zd]
 refine B.zn (fun he=> ?_) (fun he=> ?_)
 ·rw [decide_eq_true_eq] at he
  have lj:j<G1.length:=by omega
  have lj1:j-1<G1.length:=by omega
  have sj:=sub1 (a:=j) (by omega) (by omega)
  simp -dsimp only [sj,o.idx lj,o.idx lj1,B.zd]
  refine o.ld S (List.getElem?_eq_getElem lj) ?_
  refine o.ld S (List.getElem?_eq_getElem lj1) ?_
  refine hc.call _ _ _ _ o.le ?_
  simp -dsimp only [V.zd4,V.zia,B.zd]
  refine B.zn (fun hd=> ?_) (fun hd=> ?_)
  ·simp -dsimp only [add1 (show s<4611686018427387904 by omega),B.zd]
   exact hY hh G1 W1 o
  ·simp -dsimp only [sj,o.idx lj,o.idx lj1,B.zd]
   refine o.ld S (List.getElem?_eq_getElem lj1) ?_
   refine o.ld S (List.getElem?_eq_getElem lj) ?_
   refine o.swap S lj lj1 fun h2 o2=> ?_
   simp -dsimp only [add1 (show j<4611686018427387904 by omega),B.zd]
   exact hY2 (b-(j+1)) _ _ (by omega) ⟨j+1,_,by omega,rfl,by omega,W1.trans (zef lj lj1 (by omega) (by omega) (by omega) (by omega)),o2⟩
 ·simp -dsimp only [add1 (show s<4611686018427387904 by omega),B.zd]
  exact hY hh G1 W1 o
theorem pis_k6 (S:zdc E cs v) (W:Weak (ze4 c)) (hc:zd0 C0 v c fL h0) (ho:Rw E cs h0 h x G R) (hl:G.length <= 100000000) (hai:a<i) (hi:i<b) (hb:b <= G.length) (hs:s <= 5) (hp:Pre c a b G) (h1:But1 c a i (i-1) G)
  (hY: ∀ h' G',zcp a b G G'->Srt c a i G'->Rw E cs h0 h' x G' R->Y1 [.int .i64 (i:Int),.int .i64 ((s+1:Nat):Int)] h'):
  zh.k6 C E C0 fL Q Y1 x (.int .i64 (a:Int)) (.int .i64 (b:Int)) f (.int .i64 (i:Int)) (.int .i64 (s:Int)) h:=by
 have fin: ∀ {hh G1},Rw E cs h0 hh x G1 R->zcp a b G G1->Srt c a i G1->zh.k3 C E C0 fL Q Y1 x (.int .i64 (a:Int)) (.int .i64 (b:Int)) f (.int .i64 (i:Int)) (.int .i64 (s:Int)) hh:=fun {hh G1} o W1 s1=>by
  have l1:=W1.len
  refine pis_k3 S hc o (by omega) (by omega) hi (by omega) hs fun h2 G2 W2 o2=>hY h2 G2 (W1.trans (W2.mono (by omega) (Nat.le_refl _))) (fun p q h1 h2 h3 h4 h5=> ?_) o2
  have l2:=W2.len
  rw [W2.same (k:=p) (.inl (by omega)) h4 (by omega),W2.same (k:=q) (.inl (by omega)) h5 (by omega)]
  exact s1 p q h1 h2 h3 _ _
 have hge:V.bin .geq (.int .i64 ((i-a:Nat):Int)) (.int .i64 2)=some (.bool (decide (2 <= i-a))):=geqN (b:=2)
 simp -dsimp only [zh.k6,zg4 (show a <= i by omega) (by omega),hge,sub1 (show 1 <= i by omega) (by omega),B.zd]
 refine B.zn (fun hd=> ?_) (fun hd=> ?_)
 ·simp -dsimp only [sub1 (show 1 <= i by omega) (show i<4611686018427387904 by omega),B.zd]
  refine zg.intro (fun t vs hh=> ∃ (G':List X),vs=[.int .i64 (t:Int)] /\ a <= t /\ t<i /\ But1 c a i t G' /\ zcp a b G G' /\ Rw E cs h0 hh x G' R) (i-1) ?_ ⟨G,rfl,by omega,by omega,h1,zcp.refl _ _ _,ho⟩
  rintro Y j vs hh ⟨G1,rfl,haj,hji,b1,W1,o⟩ hY2
  have hlen:=W1.len
  have lj:j<G1.length:=by omega
  have hg1:V.bin .geq (.int .i64 (j:Int)) (.int .i64 1)=some (.bool (decide (1 <= j))):=geqN (b:=1)
  simp -dsimp only [zh.l5,zh.k4,hg1,B.zd]
  refine B.zn (fun he=> ?_) (fun he=> ?_)
  ·rw [decide_eq_true_eq] at he
   have lj1:j-1<G1.length:=by omega
   have sj:=sub1 (a:=j) (by omega) (by omega)
   simp -dsimp only [sj,o.idx lj,o.idx lj1,B.zd]
   refine o.ld S (List.getElem?_eq_getElem lj) ?_
   refine o.ld S (List.getElem?_eq_getElem lj1) ?_
   refine hc.call _ _ _ _ o.le ?_
   simp -dsimp only [V.zd4,V.zia,B.zd]
   refine B.zn (fun hd=> ?_) (fun hd=> ?_)
   ·exact fin o W1 (b1.done W lj (.inr fun _=>by simpa using hd))
   ·have hlt:c G1[j] G1[j-1]<0:=by simpa using hd
    have haj2:a<j:=by
     rcases Nat.lt_or_ge a j with k|k
     ·exact k
     ·have:j=a:=by omega
      subst this
      exact absurd hlt ((hp.within W1) (by omega) j (Nat.le_refl _) (by omega) _ _)
    simp -dsimp only [sj,o.idx lj,o.idx lj1,B.zd]
    refine o.ld S (List.getElem?_eq_getElem lj1) ?_
    refine o.ld S (List.getElem?_eq_getElem lj) ?_
    refine o.swap S lj lj1 fun h2 o2=> ?_
    exact hY2 (j-1) _ _ (by omega) ⟨_,rfl,by omega,by omega,b1.step W haj2 lj lj1 hlt,W1.trans (zef lj lj1 (by omega) (by omega) (by omega) (by omega)),o2⟩
  ·rw [decide_eq_false_iff_not] at he
   exact fin o W1 (b1.done W lj (.inl (by omega)))
 ·rw [decide_eq_false_iff_not] at hd
  exact fin ho (zcp.refl _ _ _) fun p q _ _ _ _ _=>by omega
theorem zg7 (S:zdc E cs v) (W:Weak (ze4 c)) (hc:zd0 C0 v c fL h0) (ho:Rw E cs h0 h x G R) (hl:G.length <= 100000000) (hab:a<b) (hb:b <= G.length) (hp:Pre c a b G)
  (hq: ∀ h' G' t,zcp a b G G'->(t=true->Srt c a b G')->Rw E cs h0 h' x G' R->Q (.bool t) h'):
  zh.cps C E C0 fL x (.int .i64 (a:Int)) (.int .i64 (b:Int)) f h Q:=by
 simp -dsimp only [zh.cps,add1 (show a<4611686018427387904 by omega),B.zd]
 refine zg.intro (fun t vs hh=> ∃ (s i:Nat) (G':List X),s+t=5 /\ vs=[.int .i64 (i:Int),.int .i64 (s:Int)] /\ a<i /\ i <= b /\ Srt c a i G' /\ zcp a b G G' /\ Rw E cs h0 hh x G' R) 5 ?_ ⟨0,a+1,G,rfl,rfl,by omega,by omega,fun p q _ _ _ _ _=>by omega,zcp.refl _ _ _,ho⟩
 rintro Y t vs hh ⟨s,i,G1,hst,rfl,hai,hib,s1,W1,o⟩ hY
 have hl1:=W1.len
 have h5:V.bin .lss (.int .i64 (s:Int)) (.int .i64 5)=some (.bool (decide (s<5))):=lssN (b:=5)
 simp -dsimp only [zh.l12,zh.k11,h5,B.zd]
 refine B.zn (fun hd=> ?_) (fun hd=>hq hh G1 false W1 (fun h=>by cases h) o)
 rw [decide_eq_true_eq] at hd
 refine zg.intro (fun t vs hh=> ∃ (i:Nat),i+t=b /\ vs=[.int .i64 (i:Int)] /\ a<i /\ Srt c a i G1 /\ Rw E cs h0 hh x G1 R) (b-i) ?_ ⟨i,by omega,rfl,hai,s1,o⟩
 rintro Z t vs hh ⟨i,hit,rfl,hai,s2,o2⟩ hZ
 simp -dsimp only [zh.l10,zh.k9,lssN,B.zd]
 by_cases hd2:i<b
 ·have li:i<G1.length:=by omega
  have li1:i-1<G1.length:=by omega
  have si:=sub1 (a:=i) (by omega) (by omega)
  simp -dsimp only [hd2,decide_true,B.gd_t,B.zde,si,o2.idx li,o2.idx li1,B.zd]
  refine o2.ld S (List.getElem?_eq_getElem li) ?_
  refine o2.ld S (List.getElem?_eq_getElem li1) ?_
  refine hc.call _ _ _ _ o2.le ?_
  simp -dsimp only [hd2,decide_true,B.gd_t,B.zde,V.zd4,V.zia,B.zgg,B.zd]
  refine B.zn (fun he=> ?_) (fun he=> ?_)
  ·have hnl: ¬ c G1[i] G1[i-1]<0:=by simpa using he
   simp -dsimp only [add1 (show i<4611686018427387904 by omega),B.zd]
   refine hZ (t-1) _ _ (by omega) ⟨i+1,by omega,rfl,by omega,?_,o2⟩
   exact But1.done W (j:=i) (fun p q h1 h2 h3 h4 h5 h6=>s2 p q h1 h2 (by omega) h5 h6) li (.inr fun _=>hnl)
  ·have hlt:c G1[i] G1[i-1]<0:=by simpa using he
   have hne:V.bin .eql (.int .i64 (i:Int)) (.int .i64 (b:Int))=some (.bool false):=by rw [V.zhf];simp;omega
   simp -dsimp only [hne,B.zd,B.cond_false,zh.k8,zh.k7,zg4 (show a <= b by omega) (show b<4611686018427387904 by omega)]
   rw [show V.bin .lss (.int .i64 ((b-a:Nat):Int)) (.int .i64 50)=some (.bool (decide (b-a<50))) from lssN (b:=50)]
   simp -dsimp only [B.zd]
   refine B.zn (fun hf=>hq hh G1 false W1 (fun h=>by cases h) o2) (fun hf=> ?_)
   simp -dsimp only [zh.k7,si,o2.idx li,o2.idx li1,B.zd]
   refine o2.ld S (List.getElem?_eq_getElem li1) ?_
   refine o2.ld S (List.getElem?_eq_getElem li) ?_
   refine o2.swap S li li1 fun h3 o3=> ?_
   have hsl:=zis li li1
   have w3:zcp a b G1 (swp G1 i (i-1) li li1):=zef li li1 (by omega) (by omega) (by omega) (by omega)
   have W3:=W1.trans w3
   refine pis_k6 S W hc o3 (by omega) hai hd2 (by omega) (by omega) (hp.within W3) (fun p q h1 h2 h3 h4 h5 h6=> ?_) fun h4 G4 W4 s4 o4=>hY (5-(s+1)) _ _ (by omega) ⟨s+1,i,G4,by omega,rfl,hai,by omega,s4,W3.trans W4,o4⟩
   rw [zg3 li li1 h6 (by omega),if_neg h4,if_neg (by omega),zg3 li li1 h5 (by omega),if_neg (by omega),if_neg (by omega)]
   exact s2 p q h1 h2 h3 _ _
 ·have e:i=b:=by omega
  subst e
  have heq:V.bin .eql (.int .i64 (i:Int)) (.int .i64 (i:Int))=some (.bool true):=by rw [V.zhf];simp
  simp -dsimp only [hd2,decide_false,B.gd_t,B.ze1,B.zhc,B.cond_false,heq,B.cond_true,B.zd]
  exact hq hh G1 true W1 (fun _=>s2) o2
end
variable {C C0:CSem} {fL:Nat} {N:zN}
section
variable {E:zx} {X:Type} {cs:X->List AVal} {v:X->AVal} {h0 h:za} {x f:AVal} {G:List X} {R:List (List AVal)} {Q:zQ} {a b:Nat}
theorem zjq {f1 f2:Nat} (hn:NextI C0 f1) (hp:PowI C0 f2) (S:zdc E cs v) (ho:Rw E cs h0 h x G R) (hl:G.length <= 100000000) (hab:a <= b) (hb:b <= G.length)
  (hq: ∀ h' G',zcp a b G G'->Rw E cs h0 h' x G' R->Q (.tup []) h'):zbd.cps C E C0 fL f1 f2 x (.int .i64 (a:Int)) (.int .i64 (b:Int)) f h Q:=by
 obtain ⟨n,en⟩: ∃ n,n=b-a:=⟨_,rfl⟩
 have e1:=zg4 hab (show b<4611686018427387904 by omega)
 rw [<- en] at e1
 have g8:V.bin .geq (.int .i64 (n:Int)) (.int .i64 8)=some (.bool (decide (8 <= n))):=geqN (b:=8)
 simp -dsimp only [zbd.cps,zbd.k8,e1,g8,B.zd]
 refine B.zn (fun hd=> ?_) (fun hd=>hq h G (zcp.refl _ _ _) ho)
 rw [decide_eq_true_eq] at hd
 simp -dsimp only [zbd.k7,toUN (show n<18446744073709551616 by omega),B.zd]
 intro id hid
 have o:=Owns.zq9 ho hid [.int .u64 0]
 simp only [List.cons_append,List.nil_append] at o
 refine o.ztt 1 (off:=0) rfl rfl (by simp) fun h1 o1 _=> ?_
 simp only [List.set_cons_succ,List.set_cons_zero] at o1
 refine hp n _ _ (by omega) (by omega) fun m hm0 hm=> ?_
 have m4:V.bin .quo (.int .i64 (n:Int)) (.int .i64 4)=some (.int .i64 ((n / 4:Nat):Int)):=quo4 (by omega)
 have m2:V.bin .mul (.int .i64 ((n / 4:Nat):Int)) (.int .i64 2)=some (.int .i64 ((n / 4*2:Nat):Int)):=mulN (a:=n / 4) (b:=2) (by omega)
 have m5:V.bin .add (.int .i64 (a:Int)) (.int .i64 ((n / 4*2:Nat):Int))=some (.int .i64 ((a+n / 4*2:Nat):Int)):=zj6 (by omega)
 simp -dsimp only [zbd.k6,m4,m2,m5,sub1 (show 1 <= a+n / 4*2 by omega) (by omega),B.zd]
 refine zg.intro (fun t vs hh=> ∃ (i:Nat) (G':List X) (z:Int),i+t=a+n / 4*2+2 /\ vs=[.int .i64 (i:Int)] /\ a <= i /\ zcp a b G G' /\ Owns h0 hh [.sl E.es x (G'.map cs) R,.box (.ptr id 0 0) [.int .u64 z]]) 3 ?_ ⟨a+n / 4*2-1,G,_,by omega,rfl,by omega,zcp.refl _ _ _,o1⟩
 rintro Y t vs hh ⟨i,G1,z,hit,rfl,hai,W1,o2⟩ hY
 have l1:=W1.len
 simp -dsimp only [zbd.l5,zbd.k4,m4,m2,m5,add1 (show a+n / 4*2<4611686018427387904 by omega),leqN,B.zd]
 refine B.zn (fun he=> ?_) (fun he=>hq hh G1 W1 (o2.sub (by simp)))
 rw [decide_eq_true_eq] at he
 have oo:=Owns.out (l1:=[.sl E.es x (G1.map cs) R]) (l2:=[.box (.ptr id 0 0) [.int .u64 z]]) o2
 simp -dsimp only [zbd.k3]
 refine hn _ _ _ _ _ oo.2 fun w z' h3 o3=> ?_
 have o4:=oo.1.join o3
 have s1:V.bin .sub (.int .u64 (m:Int)) (.int .u64 1)=some (.int .u64 ((m-1:Nat):Int)):=by
  rw [V.zh6,show (m:Int)-1=((m-1:Nat):Int) by omega,wrapU (by omega)]
 obtain ⟨ot,hot,ea⟩:=and_le (z:=w) (m:=m-1) (by omega)
 simp -dsimp only [s1,ea,toIN (show ot<4611686018427387904 by omega),B.zd,zbd.k2,geqN]
 have fin: ∀ k:Nat,k<n->zbd.k1 C E C0 fL f1 f2 Q Y x (.int .i64 (a:Int)) (.int .i64 (n:Int)) (.ptr id 0 0) (.int .u64 (m:Int)) (.int .i64 (i:Int)) (.int .i64 (k:Int)) h3:=fun k hk=>by
  have la:a+k<G1.length:=by omega
  have li:i<G1.length:=by omega
  have op:=Owns.perm o4 (List.Perm.swap _ _ [])
  have oq:=Owns.out (l1:=[.box (.ptr id 0 0) [.int .u64 z']]) (l2:=[.sl E.es x (G1.map cs) R]) op
  have orw:Rw E cs _ h3 x G1 R:=oq.2
  simp -dsimp only [zbd.k1,zj6 (show a+k<4611686018427387904 by omega),orw.idx la,orw.idx li,B.zd]
  refine orw.ld S (List.getElem?_eq_getElem la) ?_
  refine orw.ld S (List.getElem?_eq_getElem li) ?_
  refine orw.swap S li la fun h5 o5=> ?_
  simp -dsimp only [add1 (show i<4611686018427387904 by omega),B.zd]
  have o6:=oq.1.join o5
  exact hY (a+n / 4*2+2-(i+1)) _ _ (by omega) ⟨i+1,_,z',by omega,rfl,by omega,W1.trans (zef li la (by omega) (by omega) (by omega) (by omega)),o6.perm (List.Perm.swap _ _ [])⟩
 refine B.zn (fun hf=> ?_) (fun hf=> ?_)
 ·rw [decide_eq_true_eq] at hf
  simp -dsimp only [zg4 hf (show ot<4611686018427387904 by omega),B.zd]
  exact fin (ot-n) (by omega)
 ·rw [decide_eq_false_iff_not] at hf
  exact fin ot (by omega)
end
section
variable {X:Type} {c:X->X->Int} {a b m A0 Z0:Nat} {G G':List X}
end
structure PdqI (C:CSem) (E:zx) (C0:CSem) (fL:Nat) (f1 f2 f3 f4 f5 f6 f7 f8 f9 g1 g2 g3 g4 g5 g6:Nat):Prop where
 eq:I5 (zba.cps C E C0 fL) C f1
 part:I5 (zq.cps C E C0 fL) C f2
 pdq:I5 (zbt.cps C E C0 fL f1 f2 f3 f4 f5 f6 f7 f8 f9) C f3
 pis:I4 (zh.cps C E C0 fL) C f4
 rev:I4 (zet.cps C E C0 fL) C f5
 piv:I4 (zbv.cps C E C0 fL g2 g3) C f6
 brk:I4 (zbd.cps C E C0 fL g5 g6) C f7
 heap:I4 (zdr.cps C E C0 fL g4) C f8
 ins:I4 (zdj.cps C E C0 fL) C f9
 ord:O2I C E C0 fL g1
 med:MedI C E C0 fL g1 g2
 adj:AdjI C E C0 fL g2 g3
 sift:SiftI C E C0 fL g4
 next:NextI C0 g5
 pow:PowI C0 g6
section
variable {E:zx} {X:Type} {cs:X->List AVal} {v:X->AVal} {h0 h:za} {x f:AVal} {G:List X} {R:List (List AVal)} {c:X->X->Int} {Q:zQ} {Y:zL} {f1 f2 f3 f4 f5 f6 f7 f8 f9 g1 g2 g3 g4 g5 g6:Nat}
theorem pdq_k1 (J:PdqI C E C0 fL f1 f2 f3 f4 f5 f6 f7 f8 f9 g1 g2 g3 g4 g5 g6) (S:zdc E cs v) (W:Weak (ze4 c)) (hc:zd0 C0 v c fL h0) {A0 Z0 a b:Nat} {G0:List X} {lim:Int} {w1 w2:Bool} {pv:Nat} (p:PS E cs h0 x R c A0 Z0 G0 a b G h) (hl:G.length <= 100000000) (hBl:Z0 <= G.length)
  (h1:a <= pv) (h2:pv<b)
  (rcs: ∀ (a' b':Nat) (lim:Int) (h:za) (G:List X) (Q:zQ),b'-a'<b-a->a' <= b'->b' <= G.length->G.length <= 100000000->Pre c a' b' G->Rw E cs h0 h x G R->(∀ h' G',zcp a' b' G G'->Srt c a' b' G'->Rw E cs h0 h' x G' R->Q (.tup []) h') ->
   C f3 [x,.int .i64 (a':Int),.int .i64 (b':Int),.int .i64 lim,f] h Q)
  (hY:Go1 E cs h0 x R c A0 Z0 G0 (b-a) Y):
  zbt.k1 C E C0 fL f1 f2 f3 f4 f5 f6 f7 f8 f9 Q Y x (.int .i64 (a:Int)) (.int .i64 (b:Int)) (.int .i64 lim) f (.bool w1) (.bool w2) (.int .i64 ((b-a:Nat):Int)) (.int .i64 (pv:Int)) h:=by
 have hA:=p.hA;have hB:=p.hB;have o:=p.o
 have lp:pv<G.length:=by omega
 have part:zbt.k1 C E C0 fL f1 f2 f3 f4 f5 f6 f7 f8 f9 Q Y x (.int .i64 (a:Int)) (.int .i64 (b:Int)) (.int .i64 lim) f (.bool w1) (.bool w2) (.int .i64 ((b-a:Nat):Int)) (.int .i64 (pv:Int)) h =
  zbt.k1 C E C0 fL f1 f2 f3 f4 f5 f6 f7 f8 f9 Q Y x (.int .i64 (a:Int)) (.int .i64 (b:Int)) (.int .i64 lim) f (.bool w1) (.bool w2) (.int .i64 ((b-a:Nat):Int)) (.int .i64 (pv:Int)) h:=rfl
 clear part
 have part:C f2 [x,.int .i64 (a:Int),.int .i64 (b:Int),.int .i64 (pv:Int),f] h (fun v111 h=>
  B.pv (V.ext 0 v111) fun v112=>
  B.pv (V.ext 1 v111) fun v113=>
  B.pv (V.bin .sub v112 (.int .i64 (a:Int))) fun v117=>
  B.pv (V.bin .sub (.int .i64 (b:Int)) v112) fun v120=>
  B.pv (V.bin .quo (.int .i64 ((b-a:Nat):Int)) (.int .i64 8)) fun v122=>
  B.pv (V.bin .lss v117 v120) fun v125=>
  B.cond v125
  (B.pv (V.bin .geq v117 v122) fun v128=>
  B.call C f3 [x,.int .i64 (a:Int),v112,.int .i64 lim,f] h fun v134 h=>
  B.pv (V.bin .add v112 (.int .i64 1)) fun v136=>
  Y [v136,.int .i64 (b:Int),.int .i64 lim,v128,v113] h)
  (B.pv (V.bin .geq v120 v122) fun v139=>
  B.pv (V.bin .add v112 (.int .i64 1)) fun v142=>
  B.call C f3 [x,v142,.int .i64 (b:Int),.int .i64 lim,f] h fun v146 h=>
  Y [.int .i64 (a:Int),v112,.int .i64 lim,v139,v113] h)):=by
  refine J.part _ _ _ _ _ _ _ (zlr S hc o (by omega) h1 h2 (by omega) fun h3 m G3 t pt W3 o3=>zbe ?_)
  have p3:=p.turn W3 o3
  have l3:=W3.len
  have m1:=pt.ge;have m2:=pt.lt
  have q8:V.bin .quo (.int .i64 ((b-a:Nat):Int)) (.int .i64 8)=some (.int .i64 (((b-a) / 8:Nat):Int)):=by
   rw [V.zmr _ _ _ (by omega),show ((b-a:Nat):Int).tdiv 8=(((b-a) / 8:Nat):Int) from rfl,wrap_i64 (by omega) (by omega)]
  simp -dsimp only [V.zg8,List.getElem?_cons_zero,List.getElem?_cons_succ,B.zd,zg4 m1 (show m<4611686018427387904 by omega),zg4 (show m <= b by omega) (show b<4611686018427387904 by omega),q8,lssN,geqN,add1 (show m<4611686018427387904 by omega)]
  refine B.zn (fun hd=> ?_) (fun hd=> ?_)
  ·simp -dsimp only [geqN,add1 (show m<4611686018427387904 by omega),B.zd]
   refine rcs a m lim _ G3 _ (by omega) m1 (by omega) (by omega) (p3.pre.sub (by omega)) o3 fun h4 G4 W4 s4 o4=> ?_
   have pt4:=pt.left W W4
   have cut4:=(p3.cut.within (W4.mono (Nat.le_refl _) (by omega)) hA hB).left W pt4 s4
   simp -dsimp only [add1 (show m<4611686018427387904 by omega),B.zd]
   exact hY (m+1) b lim _ _ G4 h4 (by omega) ⟨by omega,by omega,hB,p3.W.trans (W4.mono hA (by omega)),cut4,cut4.pre (by omega) hB,o4⟩
  ·have c3:Pre c (m+1) b G3:=fun h0 i k1 k2 k3 k4=>pt.pair W (p:=m+1-1) (q:=i) (by omega) (by omega) k2 (by omega) (by omega) k4 k3
   simp -dsimp only [geqN,add1 (show m<4611686018427387904 by omega),B.zd]
   refine rcs (m+1) b lim _ G3 _ (by omega) (by omega) (by omega) (by omega) c3 o3 fun h4 G4 W4 s4 o4=> ?_
   have pt4:=pt.right W W4
   have W4':zcp a b G3 G4:=W4.mono (by omega) (Nat.le_refl _)
   have cut4:=(p3.cut.within W4' hA hB).right W pt4 s4
   exact hY a m lim _ _ G4 h4 (by omega) ⟨hA,m1,by omega,p3.W.trans (W4.mono (by omega) hB),cut4,(p3.pre.within W4').sub (by omega),o4⟩
 simp -dsimp only [zbt.k1]
 have g0:V.bin .gtr (.int .i64 (a:Int)) (.int .i64 0)=some (.bool (decide (0<a))):=gtrN (b:=0)
 simp -dsimp only [g0,B.zd]
 by_cases ha:0<a
 ·have la:a-1<G.length:=by omega
  simp -dsimp only [ha,decide_true,B.gd_t,B.zde,sub1 (show 1 <= a by omega) (show a<4611686018427387904 by omega),o.idx la,o.idx lp,B.zd]
  refine o.ld S (List.getElem?_eq_getElem la) ?_
  refine o.ld S (List.getElem?_eq_getElem lp) ?_
  refine hc.call _ _ _ _ o.le ?_
  simp -dsimp only [ha,decide_true,B.gd_t,B.zde,V.zd4,V.zia,B.zgg,B.zd]
  refine B.zn (fun he=> ?_) (fun he=>part)
  have hd: ¬ c G[a-1] G[pv]<0:=by simpa using he
  refine J.eq _ _ _ _ _ _ _ (ziv S hc o (by omega) h1 h2 (by omega) fun h3 i j G3 pe hji W3 e3 o3=>zbe ?_)
  have p3:=p.turn W3 o3
  have l3:=W3.len
  have k1:=pe.hi;have k2:=pe.hij;have k3:=pe.hj
  have cut4:=p3.cut.equal W pe hji ha p3.pre (by omega) fun q1 q2=>by
   rw [e3 q2 lp,W3.same (.inl (by omega)) q1 la];exact hd
  exact hY i b lim _ _ G3 h3 (by omega) ⟨by omega,by omega,hB,p3.W,cut4,cut4.pre (by omega) hB,o3⟩
 ·simp -dsimp only [ha,decide_false,B.gd_t,B.ze1,B.zhc,B.cond_false]
  exact part
theorem pdq_spec (J:PdqI C E C0 fL f1 f2 f3 f4 f5 f6 f7 f8 f9 g1 g2 g3 g4 g5 g6) (S:zdc E cs v) (W:Weak (ze4 c)) (hc:zd0 C0 v c fL h0): ∀ (n:Nat) (A0 Z0:Nat) (lim:Int) (h:za) (G:List X) (Q:zQ),Z0-A0=n->A0 <= Z0->Z0 <= G.length->G.length <= 100000000->Pre c A0 Z0 G->Rw E cs h0 h x G R ->
  (∀ h' G',zcp A0 Z0 G G'->Srt c A0 Z0 G'->Rw E cs h0 h' x G' R->Q (.tup []) h')->zbt.cps C E C0 fL f1 f2 f3 f4 f5 f6 f7 f8 f9 x (.int .i64 (A0:Int)) (.int .i64 (Z0:Int)) (.int .i64 lim) f h Q:=by
 intro n
 induction n using Nat.strongRecOn with
 | ind n ih=>
 intro A0 Z0 lim h G0 Q hn hAB hBl hl hpre ho hq
 simp -dsimp only [zbt.cps]
 refine zg.intro (fun t vs hh=> ∃ (a b:Nat) (lim:Int) (w1 w2:Bool) (G:List X),t=b-a /\ vs=[.int .i64 (a:Int),.int .i64 (b:Int),.int .i64 lim,.bool w1,.bool w2] /\ PS E cs h0 x R c A0 Z0 G0 a b G hh) (Z0-A0) ?_
  ⟨A0,Z0,lim,true,true,G0,rfl,rfl,⟨Nat.le_refl _,hAB,Nat.le_refl _,zcp.refl _ _ _,fun p q _ _ _ k=>by omega,hpre,ho⟩⟩
 rintro Y t vs hh ⟨a,b,lim,w1,w2,G,rfl,rfl,p⟩ hY'
 have hY:Go1 E cs h0 x R c A0 Z0 G0 (b-a) Y:=fun a' b' lim' w1' w2' G' h' hlt p'=>hY' (b'-a') _ _ hlt ⟨a',b',lim',w1',w2',G',rfl,rfl,p'⟩
 clear hY'
 have hA:=p.hA;have hab:=p.hab;have hB:=p.hB
 have lG:=p.W.len
 have rcs: ∀ (a' b':Nat) (lim:Int) (h:za) (G:List X) (Q:zQ),b'-a'<b-a->a' <= b'->b' <= G.length->G.length <= 100000000->Pre c a' b' G->Rw E cs h0 h x G R->(∀ h' G',zcp a' b' G G'->Srt c a' b' G'->Rw E cs h0 h' x G' R->Q (.tup []) h') ->
   C f3 [x,.int .i64 (a':Int),.int .i64 (b':Int),.int .i64 lim,f] h Q:=fun a' b' lim h G Q k1 k2 k3 k4 k5 k6 k7=>
  J.pdq _ _ _ _ _ _ _ (ih (b'-a') (by omega) a' b' lim h G _ rfl k2 k3 k4 k5 k6 fun h' G' w s o=>zbe (k7 h' G' w s o))
 have fin: ∀ {hh G G2},PS E cs h0 x R c A0 Z0 G0 a b G hh-> ∀ h',zcp a b G G2->Srt c a b G2->Rw E cs h0 h' x G2 R->Q (.tup []) h':=fun p h' w s o=>by
  have p2:=p.turn w o
  exact hq h' _ p2.W (p2.cut.join s) o
 have e12:V.bin .leq (.int .i64 ((b-a:Nat):Int)) (.int .i64 12)=some (.bool (decide (b-a <= 12))):=leqN (b:=12)
 simp -dsimp only [zbt.l8,zg4 hab (show b<4611686018427387904 by omega),B.zd,zbt.k7,e12]
 refine B.zn (fun hd=> ?_) (fun hd=> ?_)
 ·exact J.ins _ _ _ _ _ _ (zml S W hc p.o (by omega) hab (by omega) fun h' G' w s o=>zbe (fin p h' w s o))
 rw [decide_eq_false_iff_not] at hd
 simp -dsimp only [zbt.k6,V.zhf,B.zd]
 refine B.zn (fun _=> ?_) (fun _=> ?_)
 ·exact J.heap _ _ _ _ _ _ (zmm J.sift S W hc p.o (by omega) (by omega) (by omega) fun h' G' w s o=>zbe (fin p h' w s o))
 have k4: ∀ {hh G} (lim:Int),PS E cs h0 x R c A0 Z0 G0 a b G hh->zbt.k4 C E C0 fL f1 f2 f3 f4 f5 f6 f7 f8 f9 Q Y x (.int .i64 (a:Int)) (.int .i64 (b:Int)) (.int .i64 lim) f (.bool w1) (.bool w2) (.int .i64 ((b-a:Nat):Int)) hh:=fun {hh G} lim p=>by
  have lG:=p.W.len
  simp -dsimp only [zbt.k4]
  refine J.piv _ _ _ _ _ _ (zkd J.ord J.med J.adj S (Owns.slAt p.o 0 rfl) p.o.le hc (by omega) (by omega) (by omega) fun m hint h2 m1 m2 hle=>zbe ?_)
  have p2:PS E cs h0 x R c A0 Z0 G0 a b G h2:=⟨p.hA,p.hab,p.hB,p.W,p.cut,p.pre,Owns.grow p.o hle⟩
  simp -dsimp only [V.zg8,List.getElem?_cons_zero,List.getElem?_cons_succ,B.zd,zbt.k3,V.zhf]
  have k2: ∀ {hh G} (pv:Nat) (hint:Int),a <= pv->pv<b->PS E cs h0 x R c A0 Z0 G0 a b G hh->zbt.k2 C E C0 fL f1 f2 f3 f4 f5 f6 f7 f8 f9 Q Y x (.int .i64 (a:Int)) (.int .i64 (b:Int)) (.int .i64 lim) f (.bool w1) (.bool w2) (.int .i64 ((b-a:Nat):Int)) (.int .i64 (pv:Int)) (.int .i64 hint) hh:=fun {hh G} pv hint q1 q2 p=>by
   have lG:=p.W.len
   have go:=pdq_k1 (Q:=Q) (lim:=lim) (w1:=w1) (w2:=w2) J S W hc p (by omega) (by omega) q1 q2 rcs hY
   simp -dsimp only [zbt.k2]
   have two:B.cond (.bool true) (B.call C f4 [x,.int .i64 (a:Int),.int .i64 (b:Int),f] hh fun v80 h=>
     B.cond v80 (Q (.tup []) h) (zbt.k1 C E C0 fL f1 f2 f3 f4 f5 f6 f7 f8 f9 Q Y x (.int .i64 (a:Int)) (.int .i64 (b:Int)) (.int .i64 lim) f (.bool w1) (.bool w2) (.int .i64 ((b-a:Nat):Int)) (.int .i64 (pv:Int)) h))
     (zbt.k1 C E C0 fL f1 f2 f3 f4 f5 f6 f7 f8 f9 Q Y x (.int .i64 (a:Int)) (.int .i64 (b:Int)) (.int .i64 lim) f (.bool w1) (.bool w2) (.int .i64 ((b-a:Nat):Int)) (.int .i64 (pv:Int)) hh):=by
    rw [B.cond_true]
    refine J.pis _ _ _ _ _ _ (zg7 S W hc p.o (by omega) (by omega) (by omega) p.pre fun h' G' t w s o=>zbe ?_)
    have p':=p.turn w o
    have lG':=p'.W.len
    refine B.zn (fun ht=>fin p h' w (s ht) o) (fun _=> ?_)
    exact pdq_k1 (Q:=Q) (lim:=lim) (w1:=w1) (w2:=w2) J S W hc p' (by omega) (by omega) q1 q2 rcs hY
   cases w1<;>cases w2
   ·simp -dsimp only [B.gd_t,B.ze1,B.zhc,B.cond_false];exact go
   ·simp -dsimp only [B.gd_t,B.ze1,B.zhc,B.cond_false];exact go
   ·simp -dsimp only [B.gd_t,B.zde,B.ze1,B.zgg,B.zhc,B.cond_false];exact go
   ·by_cases hh1:hint=1
    ·simp -dsimp only [B.gd_t,B.zde,V.zhf,hh1,decide_true,B.zd,B.zgg];exact two
    ·simp -dsimp only [B.gd_t,B.zde,V.zhf,hh1,decide_false,B.zd,B.zgg,B.cond_false];exact go
  refine B.zn (fun _=> ?_) (fun _=>k2 m hint m1 m2 p2)
  refine J.rev _ _ _ _ _ _ (zjy S (by omega) p2.o (by omega) (by omega) fun h3 G3 w3 o3=>zbe ?_)
  simp -dsimp only [sub1 (show 1 <= b by omega) (show b<4611686018427387904 by omega),zg4 m1 (show m<4611686018427387904 by omega),zg4 (show m-a <= b-1 by omega) (show b-1<4611686018427387904 by omega),B.zd]
  exact k2 (b-1-(m-a)) 1 (by omega) (by omega) (p2.turn w3 o3)
 simp -dsimp only [zbt.k5,V.zia,B.zd]
 refine B.zn (fun _=> ?_) (fun _=>k4 lim p)
 refine J.brk _ _ _ _ _ _ (zjq J.next J.pow S p.o (by omega) hab (by omega) fun h' G' w o=>zbe ?_)
 simp -dsimp only [V.zh6,B.zd]
 exact k4 _ (p.turn w o)
end
end Go.Ab.Ord
set_option maxRecDepth 100000
namespace Go.Ab
def Cst (C:CSem):CSem:=fun f args h Q=>C f args.dropLast h Q
abbrev J4 (F:AVal->AVal->AVal->AVal->za->(zQ)->Prop) (C:CSem) (n:Nat):Prop:= ∀ (v0 v1 v2 v3:AVal) (h:za) (Q:zQ),F v0 v1 v2 v3 h (dn Q)->C n [v0,v1,v2,v3] h Q
abbrev J3 (F:AVal->AVal->AVal->za->(zQ)->Prop) (C:CSem) (n:Nat):Prop:= ∀ (v0 v1 v2:AVal) (h:za) (Q:zQ),F v0 v1 v2 h (dn Q)->C n [v0,v1,v2] h Q
structure OrdI (C:CSem) (E:zx) (fL e p q s r v b k n ad md o2 sd nx pw:Nat):Prop where
 eq:J4 (zw.cps C E fL) C e
 part:J4 (zi.cps C E fL) C p
 pdq:J4 (z9.cps C E fL e p q s r v b k n) C q
 pis:J3 (zf.cps C E fL) C s
 rev:J3 (zdn.cps C E) C r
 piv:J3 (zbf.cps C E ad md) C v
 brk:J3 (zu.cps C E nx pw) C b
 heap:J3 (zb0.cps C E sd) C k
 ins:J3 (zcg.cps C E fL) C n
 adj:J3 (zgh.cps C E md) C ad
 med: ∀ (v0 v1 v2 v3 v4:AVal) (h:za) (Q:zQ),zge.cps C E o2 v0 v1 v2 v3 v4 h (dn Q)->C md [v0,v1,v2,v3,v4] h Q
 ord:J4 (zgd.cps C E fL) C o2
 sift:J4 (zcl.cps C E fL) C sd
 next:NextI C nx
 pow:PowI C pw
theorem e4 {F:AVal->AVal->AVal->AVal->AVal->za->(zQ)->Prop} {G:AVal->AVal->AVal->AVal->za->(zQ)->Prop} {C:CSem} {f:Nat} (i:J4 G C f) (e: ∀ v0 v1 v2 v3 v4 h Q,F v0 v1 v2 v3 v4 h Q=G v0 v1 v2 v3 h Q):I5 F (Cst C) f:=
 fun v0 v1 v2 v3 v4 h Q x=>i v0 v1 v2 v3 h Q (by rw [<- e v0 v1 v2 v3 v4];exact x)
theorem e3 {F:AVal->AVal->AVal->AVal->za->(zQ)->Prop} {G:AVal->AVal->AVal->za->(zQ)->Prop} {C:CSem} {f:Nat} (i:J3 G C f) (e: ∀ v0 v1 v2 v3 h Q,F v0 v1 v2 v3 h Q=G v0 v1 v2 h Q):I4 F (Cst C) f:=
 fun v0 v1 v2 v3 h Q x=>i v0 v1 v2 h Q (by rw [<- e v0 v1 v2 v3];exact x)
section
variable {C:CSem} {E:zx} {fL e p q s r v b k n ad md o2 sd nx pw:Nat}
theorem t_eq: ∀ v0 v1 v2 v3 v4 h Q,zba.cps (Cst C) E C fL v0 v1 v2 v3 v4 h Q=zw.cps C E fL v0 v1 v2 v3 h Q:=by intros;kernel_rfl
theorem t_part: ∀ v0 v1 v2 v3 v4 h Q,zq.cps (Cst C) E C fL v0 v1 v2 v3 v4 h Q=zi.cps C E fL v0 v1 v2 v3 h Q:=by intros;kernel_rfl
theorem t_pdq: ∀ v0 v1 v2 v3 v4 h Q,zbt.cps (Cst C) E C fL e p q s r v b k n v0 v1 v2 v3 v4 h Q=z9.cps C E fL e p q s r v b k n v0 v1 v2 v3 h Q:=by intros;kernel_rfl
theorem t_pis: ∀ v0 v1 v2 v3 h Q,zh.cps (Cst C) E C fL v0 v1 v2 v3 h Q=zf.cps C E fL v0 v1 v2 h Q:=by intros;kernel_rfl
theorem t_rev: ∀ v0 v1 v2 v3 h Q,zet.cps (Cst C) E C fL v0 v1 v2 v3 h Q=zdn.cps C E v0 v1 v2 h Q:=by intros;kernel_rfl
theorem t_piv: ∀ v0 v1 v2 v3 h Q,zbv.cps (Cst C) E C fL md ad v0 v1 v2 v3 h Q=zbf.cps C E ad md v0 v1 v2 h Q:=by intros;kernel_rfl
theorem t_brk: ∀ v0 v1 v2 v3 h Q,zbd.cps (Cst C) E C fL nx pw v0 v1 v2 v3 h Q=zu.cps C E nx pw v0 v1 v2 h Q:=by intros;kernel_rfl
theorem t_heap: ∀ v0 v1 v2 v3 h Q,zdr.cps (Cst C) E C fL sd v0 v1 v2 v3 h Q=zb0.cps C E sd v0 v1 v2 h Q:=by intros;kernel_rfl
theorem t_ins: ∀ v0 v1 v2 v3 h Q,zdj.cps (Cst C) E C fL v0 v1 v2 v3 h Q=zcg.cps C E fL v0 v1 v2 h Q:=by intros;kernel_rfl
theorem t_adj: ∀ v0 v1 v2 v3 h Q,zfd.cps (Cst C) E C fL md v0 v1 v2 v3 h Q=zgh.cps C E md v0 v1 v2 h Q:=by intros;kernel_rfl
theorem t_med: ∀ v0 v1 v2 v3 v4 v5 h Q,zg6.cps (Cst C) E C fL o2 v0 v1 v2 v3 v4 v5 h Q=zge.cps C E o2 v0 v1 v2 v3 v4 h Q:=by intros;kernel_rfl
theorem t_ord: ∀ v0 v1 v2 v3 v4 h Q,zg5.cps (Cst C) E C fL v0 v1 v2 v3 v4 h Q=zgd.cps C E fL v0 v1 v2 v3 h Q:=by intros;kernel_rfl
theorem t_sift: ∀ v0 v1 v2 v3 v4 h Q,zdq.cps (Cst C) E C fL v0 v1 v2 v3 v4 h Q=zcl.cps C E fL v0 v1 v2 v3 h Q:=by intros;kernel_rfl
theorem OrdI.toT (J:OrdI C E fL e p q s r v b k n ad md o2 sd nx pw):Ord.PdqI (Cst C) E C fL e p q s r v b k n o2 md ad sd nx pw where
 eq:=e4 J.eq t_eq
 part:=e4 J.part t_part
 pdq:=e4 J.pdq t_pdq
 pis:=e3 J.pis t_pis
 rev:=e3 J.rev t_rev
 piv:=e3 J.piv t_piv
 brk:=e3 J.brk t_brk
 heap:=e3 J.heap t_heap
 ins:=e3 J.ins t_ins
 ord:=e4 J.ord t_ord
 med:=fun v0 v1 v2 v3 v4 v5 h Q x=>J.med v0 v1 v2 v3 v4 h Q (by rw [<- t_med (C:=C) (fL:=fL) v0 v1 v2 v3 v4 v5];exact x)
 adj:=e3 J.adj t_adj
 sift:=e4 J.sift t_sift
 next:=J.next
 pow:=J.pow
theorem Sort_spec {X:Type} {cs:X->List AVal} {v':X->AVal} {h0 h:za} {x:AVal} {G:List X} {R:List (List AVal)} {c:X->X->Int} {Q:zQ} {fl:Nat} (J:OrdI C E fL e p q s r v b k n ad md o2 sd nx pw) (hlen:LenI C fl) (S:zdc E cs v') (W:Weak (ze4 c))
  (hc:Ord.zd0 C v' c fL h0) (hl:G.length <= 100000000) (ho:Rw E cs h0 h x G R) (hq: ∀ h' G',G'.Perm G->G'.Pairwise (fun s t=> ¬ c t s<0)->Rw E cs h0 h' x G' R->Q (.tup []) h'):zi3.cps C E fl q x h Q:=by
 simp -dsimp only [zi3.cps,zi3.k1,ho.lenE,toUN (show G.length<18446744073709551616 by omega),B.zd]
 refine hlen _ _ _ hl fun r hr _=> ?_
 refine J.pdq _ _ _ _ _ _ ?_
 rw [<- t_pdq (C:=C) _ _ _ _ .nilf]
 refine Ord.pdq_spec J.toT S W hc _ 0 G.length r h G _ rfl (by omega) (Nat.le_refl _) hl (fun h=>by omega) ho fun h' G' w s o=>zbe ?_
 refine hq h' G' w.perm ?_ o
 rw [List.pairwise_iff_getElem]
 intro i j hi hj hij
 have:=w.len
 exact s i j (by omega) hij (by omega) hi hj
end
end Go.Ab
namespace Go.Ab
variable {C:CSem} {N:zN}
def lotE:zx:=opsF 6 56 [.int .i64 0,.str [],.int .i64 0,.int .i64 0,.int .i64 0,.bool false] 0 []
theorem lotS:zdc lotE Lot.cs (fun l=> .agg l.cs):=seqF (by omega) (by omega) rfl fun _=>rfl
theorem zuj {E:zx} {X:Type} {cs:X->List AVal} {v:X->AVal} (S:zdc E cs v) {x:AVal} {L:List X} {R:List (List AVal)} {h:za} {Q:zQ} (hx:SlX h E.es x (L.map cs) R) (hlen:L.length <= 100000000)
  (hq: ∀ x' h',Rw E cs h h' x' L []->Q x' h'):zmd.cps C E x h Q:=by
 have cp:B.appW h E.es E.bytes .sz x (fun v7 h=>Q v7 h):=by
  have hm:=Nat.mul_le_mul hlen S.small
  refine Owns.appW ((Owns.start h).sz E.es) 0 rfl hx S.pos (by simp;omega) (by simp [maxLen];omega) fun x' h' h1 _=>hq x' h' ?_
  simpa [Rw] using h1
 rcases hx.2 with ⟨e1,e2,rfl|rfl⟩|⟨id,g,off,cp',b,hi,rfl,h3⟩
 ·simp -dsimp [V.eqSl]
  refine hq _ _ ?_
  unfold Rw
  rw [e1]
  exact (Owns.start h).nils E.es
 ·simp -dsimp [V.eqSl]
  exact cp
 ·simp -dsimp [V.eqSl]
  rw [List.length_map] at cp
  exact cp
end Go.Ab
namespace Go.Ab
variable {C:CSem} {N:zN}
def PredSpec (C:CSem) (f:AVal) (p:Line->Bool) (h:za):Prop:= ∀ (l:Line) (h':za) (K:zQ),h.le h'->K (.bool (p l)) h'->B.zhi h' C f [.agg l.cs] K
def idxOf (p:Line->Bool) (L:List Line):Int:=match L.findIdx? p with|some i=>(i:Int)|none=> -1
def zy.Spec (C:CSem) (N:zN):Prop:= ∀ (x f:AVal) (p:Line->Bool) (L:List Line) (R:List (List AVal)) (h:za) (Q:zQ),SlX h 8 x (L.map Line.cs) R->L.length <= 100000000->PredSpec C f p h ->
 Q (.int .i64 (idxOf p L)) h->C (N 206) [x,f] h Q
theorem zqy {α:Type} {p:α->Bool} {L:List α} {k:Nat} (hk:k<L.length) (h: ∀ i,i<k-> ∀ a,L[i]? =some a->p a=false) (hp:p L[k]=true):L.findIdx? p=some k:=by
 rw [List.findIdx?_eq_some_iff_getElem]
 exact ⟨hk,hp,fun j hj=>by simp [h j hj _ (List.getElem?_eq_getElem (by omega))]⟩
theorem zy.spec (i:zy.Imp C N):zy.Spec C N:=by
 intro x f p L R h Q hx hlen hf hq
 refine i _ _ _ _ ?_
 have e1:=hx.zbj
 rw [List.length_map] at e1
 simp -dsimp only [zy.cps,zce.cps,e1,B.zd]
 refine zg.intro (fun t vs hh=>hh=h /\ ∃ k:Nat,k+t=L.length /\ vs=[.int .i64 (k:Int)] /\ ∀ i,i<k-> ∀ a,L[i]? =some a->p a=false) L.length ?_ ⟨rfl,0,by omega,rfl,fun i hi=>by omega⟩
 rintro Y t vs h ⟨rfl,k,ht,rfl,hno⟩ hY
 simp -dsimp only [zce.l2,zce.k1,lssN,B.zd]
 refine B.zn (fun hb=> ?_) (fun hb=> ?_)<;>simp only [decide_eq_true_eq,decide_eq_false_iff_not] at hb
 ·have hg:(L.map Line.cs)[k]? =some (L[k]).cs:=by rw [List.getElem?_map,List.getElem?_eq_getElem hb];rfl
  have hidx:V.idxS 8 x (.int .i64 (k:Int))=some (elp 8 x k 0):=hx.idxN (by simpa using hb)
  simp -dsimp only [opsF,hidx,B.zd,B.zou,hx.elem hg]
  refine hf _ _ _ (za.le_refl _) ?_
  refine B.zn (fun hc=> ?_) (fun hc=> ?_)
  ·have:idxOf p L=(k:Int):=by rw [idxOf,zqy hb hno hc]
   rw [this] at hq;exact zbe hq
  ·simp -dsimp only [add1 (show k<4611686018427387904 by omega),B.zd]
   refine hY (L.length-(k+1)) _ _ (by omega) ⟨rfl,k+1,by omega,rfl,fun i hi a ha=> ?_⟩
   by_cases e:i=k
   ·subst e;rw [List.getElem?_eq_getElem hb] at ha;cases ha;exact hc
   ·exact hno i (by omega) a ha
 ·have:idxOf p L= -1:=by
   have:L.findIdx? p=none:=by
    rw [List.findIdx?_eq_none_iff]
    intro a ha
    obtain ⟨j,hj,rfl⟩:=List.getElem_of_mem ha
    exact hno j (by omega) _ (List.getElem?_eq_getElem hj)
   rw [idxOf,this]
  rw [this] at hq;exact zbe hq
theorem Owns.cutTo {h0 h:za} {es:Nat} {x:AVal} {L R:List (List AVal)} (ho:Owns h0 h [.sl es x L R]) (hes:0<es) {k:Nat} (hk:k <= L.length): ∃ y,V.zgp es x none (some (.int .i64 (k:Int)))=some y /\ Owns h0 h [.sl es y (L.take k) (L.drop k++R)]:=by
 obtain ⟨y,h1,h2,h3⟩:=(ho.slAt 0 rfl).slice hes (a:=none) (b:=some (.int .i64 (k:Int))) (lo:=0) (hi:=k) (.inl ⟨rfl,rfl⟩) (.inr ⟨_,rfl⟩) (by omega) (by omega)
 rw [List.drop_zero,List.take_append_of_le_length hk,List.drop_append_of_le_length hk] at h2
 refine ⟨y,h1,?_⟩
 have:=ho.turn (h':=h) 0 rfl (o':= .sl es y (L.take k) (L.drop k++R)) h2 (fun id b hf hb=>ho.zpw 0 rfl id b (by rw [show Ob.foot (.sl es x L R)=foot x from rfl, <- h3];exact hf) hb) (fun _ _ h _=>h) (.inl (by rw [show Ob.foot (.sl es y _ _)=foot y from rfl,h3];rfl))
 simpa using this
end Go.Ab
namespace Go.Ab
variable {C:CSem} {N:zN}
section
variable {α:Type} [DecidableEq α]
def zft:List α->List α
 | []=>[]
 | [a]=>[a]
 | a::b::r=>if a=b then zft (b::r) else a::zft (b::r)
theorem zp9 (a b:α): ∀ P:List α,zft (P++[a,b])=if a=b then zft (P++[a]) else zft (P++[a])++[b]
 | []=>by simp only [List.nil_append,zft];split<;>simp_all
 | [p]=>by
  simp only [List.cons_append,List.nil_append,zft]
  split<;>split<;>simp_all
 | p::q::P=>by
  have ih:=zp9 a b (q::P)
  simp only [List.cons_append] at ih ⊢
  simp only [zft]
  rw [ih]
  split<;>split<;>simp_all
theorem zp8 {L:List α} {k:Nat} (h1:0<k) (h2:k<L.length):zft (L.take (k+1))=if L[k]=L[k-1] then zft (L.take k) else zft (L.take k)++[L[k]]:=by
 have e1:L.take (k+1)=L.take k++[L[k]]:=by rw [List.take_add_one,List.getElem?_eq_getElem h2];rfl
 have e2:L.take k=L.take (k-1)++[L[k-1]]:=by
  conv=>lhs;rw [show k=(k-1)+1 by omega]
  rw [List.take_add_one,List.getElem?_eq_getElem (by omega)];rfl
 have:=zp9 L[k-1] L[k] (L.take (k-1))
 rw [e1,e2,List.append_assoc]
 simp only [List.cons_append,List.nil_append]
 rw [this]
 simp only [eq_comm]
theorem zrh: ∀ L:List α,(zft L).length <= L.length
 | []=>Nat.le_refl _
 | [a]=>Nat.le_refl _
 | a::b::r=>by
  have:=zrh (b::r)
  simp only [zft]
  split<;>simp_all<;>omega
theorem compactG_spec {bytes f:Nat} {z:AVal} {v:α->AVal} (hb:bytes <= 1000) (hv: ∀ t,(v t).zc8=true) (heq: ∀ a b,V.bin .eql (v a) (v b)=some (.bool (decide (a=b)))) (hne': ∀ a b,V.bin .neq (v a) (v b)=some (.bool (!decide (a=b))))
  {h0 h:za} {x:AVal} {L:List α} {R:List (List AVal)} {Q:zQ} (ho:Owns h0 h [.sl 1 x (L.map fun a=>[v a]) R]) (hlen:L.length <= 100000000) (hq: ∀ y h' R',Owns h0 h' [.sl 1 y ((zft L).map fun a=>[v a]) R']->Q y h'):zcw.cps C (opsS bytes z f) x h Q:=by
 have S:zdc (opsS bytes z f) (fun a:α=>[v a]) v:=seqS hb hv
 have o:Rw (opsS bytes z f) (fun a:α=>[v a]) h0 h x L R:=ho
 have l2:V.bin .lss (.int .i64 (L.length:Int)) (.int .i64 2)=some (.bool (decide (L.length<2))):=lssN (b:=2)
 simp -dsimp only [zcw.cps,zcw.k5,o.lenE,l2,B.zd]
 refine B.zn (fun hd=> ?_) (fun hd=> ?_)
 ·rw [decide_eq_true_eq] at hd
  have:zft L=L:=by
   match L,hd with
   | [],_=>rfl
   | [a],_=>rfl
  exact hq x h R (by rw [this];exact ho)
 rw [decide_eq_false_iff_not] at hd
 refine zg.intro (fun t vs hh=>hh=h /\ ∃ k:Nat,k+t=L.length /\ vs=[.int .i64 (k:Int)] /\ 0<k /\ zft (L.take k)=L.take k) (L.length-1) ?_ ⟨rfl,1,by omega,rfl,by omega,?_⟩
 rotate_left
 ·cases L with
  | nil=>rfl
  | cons a r=>rfl
 rintro Y t vs hh ⟨rfl,k,hkt,rfl,hk0,hck⟩ hY
 simp -dsimp only [zcw.l4,o.lenE,lssN,B.zd]
 refine B.zn (fun hk=> ?_) (fun hk=> ?_)
 rotate_left
 ·rw [decide_eq_false_iff_not] at hk
  have:k=L.length:=by omega
  rw [this,List.take_length] at hck
  exact hq x hh R (by rw [hck];exact ho)
 rw [decide_eq_true_eq] at hk
 have e1:V.bin .sub (.int .i64 (k:Int)) (.int .i64 1)=some (.int .i64 ((k-1:Nat):Int)):=zg4 (b:=1) (by omega) (by omega)
 have ik:=o.idx hk
 have ik1:=o.idx (show k-1<L.length by omega)
 simp -dsimp only [zcw.k3,ik,B.zd]
 refine o.ld S (List.getElem?_eq_getElem hk) ?_
 simp -dsimp only [e1,ik1,B.zd]
 refine o.ld S (List.getElem?_eq_getElem (show k-1<L.length by omega)) ?_
 simp -dsimp only [heq,B.zd]
 have hct:=zp8 hk0 hk
 refine B.zn (fun he=> ?_) (fun he=> ?_)
 rotate_left
 ·rw [decide_eq_false_iff_not] at he
  rw [if_neg he,hck] at hct
  simp -dsimp only [add1 (show k<4611686018427387904 by omega),B.zd]
  refine hY (t-1) _ _ (by omega) ⟨rfl,k+1,by omega,rfl,by omega,?_⟩
  rw [hct,List.take_add_one,List.getElem?_eq_getElem hk];rfl
 rw [decide_eq_true_eq] at he
 rw [if_pos he,hck] at hct
 have cut: ∀ {h':za} {G:List α} {R':List (List AVal)},Rw (opsS bytes z f) (fun a=>[v a]) h0 h' x G R'->G.length=L.length-> ∃ y R2,V.zgp 1 x (some (.int .i64 (k:Int))) none=some y /\ SlX h' 1 y ((G.drop k).map (fun a=>[v a])) R2:=fun {h' G R'} o' hG=>by
  obtain ⟨y,R2,h1,h2,_⟩:=(Owns.slAt o' 0 rfl).sliceIn (Nat.one_pos) (a:=some (.int .i64 (k:Int))) (b:=none) (lo:=k) (hi:=G.length) (.inr ⟨_,rfl⟩) (.inl ⟨rfl,rfl⟩) (by omega) (Nat.le_refl _)
  rw [List.take_length] at h2
  exact ⟨y,R2,h1,h2⟩
 obtain ⟨s2,_,hs2,_⟩:=cut o rfl
 have cut2: ∀ {h':za} {G:List α},Rw (opsS bytes z f) (fun a=>[v a]) h0 h' x G R->G.length=L.length-> ∃ R2,SlX h' 1 s2 ((G.drop k).map (fun a=>[v a])) R2:=fun {h' G} o' hG=>by
  obtain ⟨y,R2,e1,e2⟩:=cut o' hG
  rw [hs2] at e1
  cases e1
  exact ⟨R2,e2⟩
 have hs2':V.zgp (opsS bytes z f).es x (some (.int .i64 (k:Int))) none=some s2:=hs2
 simp -dsimp only [hs2',B.zd]
 refine zg.intro (fun t vs h2=> ∃ (i j:Nat) (G:List α),k+j+t=L.length /\ vs=[.int .i64 (i:Int),.int .i64 (j:Int)] /\ k <= i /\ i+1 <= k+j /\ 0<j /\ G.length=L.length /\ G.take i=zft (L.take (k+j)) /\ (∀ q,k+j <= q+1->G[q]? =L[q]?) /\ Rw (opsS bytes z f) (fun a=>[v a]) h0 h2 x G R) (L.length-(k+1)) ?_
  ⟨k,1,L,by omega,rfl,Nat.le_refl _,Nat.le_refl _,Nat.one_pos,rfl,hct.symm,fun _ _=>rfl,o⟩
 rintro Z t2 vs h2 ⟨i,j,G,hjt,rfl,hki,hij,hj0,hGl,hGt,hGq,o2⟩ hZ
 obtain ⟨R2,x2⟩:=cut2 o2 hGl
 have ln2:V.zbj s2=some (.int .i64 ((L.length-k:Nat):Int)):=by have:=x2.zbj;simpa [hGl] using this
 simp -dsimp only [zcw.l2,zcw.k1,ln2,lssN,B.zd]
 refine B.zn (fun hlt=> ?_) (fun hlt=> ?_)
 ·rw [decide_eq_true_eq] at hlt
  have dl: ∀ q,q<L.length-k->(G.drop k)[q]? =G[k+q]? :=fun q _=>by rw [List.getElem?_drop]
  have lj:j<((G.drop k).map (fun a=>[v a])).length:=by simp;omega
  have lj1:j-1<((G.drop k).map (fun a=>[v a])).length:=by simp;omega
  have gj:((G.drop k).map (fun a=>[v a]))[j]? =some ((fun a=>[v a]) L[k+j]):=by
   rw [List.getElem?_map,dl j hlt,hGq (k+j) (by omega),List.getElem?_eq_getElem (by omega)];rfl
  have gj1:((G.drop k).map (fun a=>[v a]))[j-1]? =some ((fun a=>[v a]) L[k+j-1]):=by
   rw [List.getElem?_map,dl (j-1) (by omega),show k+(j-1)=k+j-1 by omega,hGq (k+j-1) (by omega),List.getElem?_eq_getElem (by omega)];rfl
  have ij:V.idxS (opsS bytes z f).es s2 (.int .i64 (j:Int))=some (elp 1 s2 j 0):=x2.idxN lj
  have ij1:V.idxS (opsS bytes z f).es s2 (.int .i64 ((j-1:Nat):Int))=some (elp 1 s2 (j-1) 0):=x2.idxN lj1
  have e2:V.bin .sub (.int .i64 (j:Int)) (.int .i64 1)=some (.int .i64 ((j-1:Nat):Int)):=zg4 (b:=1) (by omega) (by omega)
  simp -dsimp only [ij,B.zd]
  refine S.ld x2 gj ?_
  simp -dsimp only [e2,ij1,B.zd]
  refine S.ld x2 gj1 ?_
  simp -dsimp only [hne',B.zd]
  have hst:=zp8 (L:=L) (k:=k+j) (by omega) (by omega)
  refine B.zn (fun hne=> ?_) (fun hne=> ?_)
  ·have hne:L[k+j]≠L[k+j-1]:=by simpa using hne
   rw [if_neg hne] at hst
   simp -dsimp only [ij,B.zd]
   refine S.ld x2 gj ?_
   simp -dsimp only [o2.idx (show i<G.length by omega),B.zd]
   refine o2.st S (t:=L[k+j]) (by omega) fun h3 o3=> ?_
   simp -dsimp only [add1 (show i<4611686018427387904 by omega),add1 (show j<4611686018427387904 by omega),B.zd]
   refine hZ (t2-1) _ _ (by omega) ⟨i+1,j+1,_,by omega,rfl,by omega,by omega,by omega,by simpa using hGl,?_,fun q hq'=> ?_,o3⟩
   ·rw [<- Nat.add_assoc,hst, <- hGt,List.take_add_one]
    rw [List.getElem?_set_self (by omega),List.take_set_of_le (Nat.le_refl _)];rfl
   ·rw [List.getElem?_set_ne (by omega)];exact hGq q (by omega)
  ·have hne:L[k+j]=L[k+j-1]:=by simpa using hne
   rw [if_pos hne] at hst
   simp -dsimp only [add1 (show j<4611686018427387904 by omega),B.zd]
   exact hZ (t2-1) _ _ (by omega) ⟨i,j+1,G,by omega,rfl,hki,by omega,by omega,hGl,by rw [<- Nat.add_assoc,hst];exact hGt,fun q hq'=>hGq q (by omega),o2⟩
 ·rw [decide_eq_false_iff_not] at hlt
  have:k+j=L.length:=by omega
  rw [this,List.take_length] at hGt
  obtain ⟨y,y1,y2⟩:=Owns.clrTail (z:=[z]) (lo:=i) (K:=fun v h=>B.pv (V.zgp 1 x none (some (.int .i64 (i:Int)))) fun v59=>Q v59 h) o2 0 rfl rfl (by simp;omega) fun h3 o3 _=>by
   have o3:Owns h0 h3 [.sl 1 x ((G.map (fun a=>[v a])).take i++List.replicate ((G.map (fun a=>[v a])).length-i) [z]) R]:=o3
   obtain ⟨z',z1,z2⟩:=o3.cutTo Nat.one_pos (k:=i) (by simp;omega)
   simp -dsimp only [z1,B.zd]
   have e3:((G.map (fun a=>[v a])).take i++List.replicate ((G.map (fun a=>[v a])).length-i) [z]).take i=(zft L).map (fun a=>[v a]):=by
    rw [List.take_append_of_le_length (by simp;omega),List.take_take,Nat.min_self, <- List.map_take,hGt]
   rw [e3] at z2
   exact hq z' h3 _ z2
  have y1':V.zgp (opsS bytes z f).es x (some (.int .i64 (i:Int))) none=some y:=y1
  simp -dsimp only [y1',B.zd]
  exact y2
end
end Go.Ab
namespace Go.Ab
variable {C:CSem} {N:zN}
theorem V.bin_slss (a b:List UInt8):V.bin .lss (.str a) (.str b)=some (.bool (zgz a b)):=rfl
theorem weakB:Weak (ze4 cmpB):=by
 constructor<;>simp only [ze4,decide_eq_true_eq,decide_eq_false_iff_not,zqb]
 ·intro a b h;rw [zl1 h];simp
 ·intro a b c h1 h2 h3
  have h1:zgz a b=false:=by simpa using h1
  have h2:zgz b c=false:=by simpa using h2
  by_cases e:a=b
  ·subst e;rw [h2] at h3;cases h3
  ·have:=zj3 (zll h1 e) h3
   rw [h2] at this;cases this
def zdu.Spec (C:CSem) (N:zN):Prop:= ∀ (a:List UInt8) (h:za) (Q:zQ),Q (.bool false) h->C (N 389) [.str a] h Q
theorem zdu.spec (i:zdu.Imp C N):zdu.Spec C N:=by
 intro a h Q hq
 apply i
 simp -dsimp
 exact zbe hq
def zdy.Spec (C:CSem) (N:zN):Prop:= ∀ (a b:List UInt8) (h:za) (Q:zQ),Q (.bool (zgz a b)) h->C (N 377) [.str a,.str b] h Q
theorem zdy.spec (i:zdy.Imp C N) (s1:zdu.Spec C N):zdy.Spec C N:=by
 intro a b h Q hq
 apply i
 simp -dsimp
 refine s1 _ _ _ ?_
 simp -dsimp [V.bin_slss]
 exact zbe hq
def SortedB (L:List (List UInt8)):Prop:=L.Pairwise fun s t=>zgz t s=false
def zbw.Spec (C:CSem) (N:zN):Prop:= ∀ (h0 h:za) (x:AVal) (L:List (List UInt8)) (R:List (List AVal)) (Q:zQ),Owns h0 h [.sl 1 x (L.map tc) R]->L.length <= 100000000 ->
 (∀ h' (L':List (List UInt8)),L'.Perm L->SortedB L'->Owns h0 h' [.sl 1 x (L'.map tc) R]->Q (.tup []) h')->C (N 364) [x] h Q
theorem seqT:zdc (opsS 16 (.str []) 0) tc (fun a:List UInt8=>AVal.str a):=seqS (by omega) fun _=>rfl
theorem zbw.spec (i:zbw.Imp C N) (j1:zb9.Imp C N) (j2:zcy.Imp C N) (j3:zda.Imp C N) (j4:zbx.Imp C N)
  (j5:zcm.Imp C N) (j6:zcr.Imp C N) (j7:zcj.Imp C N) (j8:zc4.Imp C N) (j9:zch.Imp C N) (k1:zcb.Imp C N)
  (k2:zdh.Imp C N) (k3:zdf.Imp C N) (k4:zc2.Imp C N) (k5:NextI C (N 298)) (k6:PowI C (N 299)) (hl:LenI C (N 287)) (s1:zdy.Spec C N):zbw.Spec C N:=by
 intro h0 h x L R Q ho hlen hq
 have J:OrdI C (opsS 16 (.str []) 0) (N 377) (N 378) (N 379) (N 375) (N 380) (N 381) (N 382) (N 383) (N 384) (N 385) (N 387) (N 388) (N 390) (N 386) (N 298) (N 299):=⟨j1,j2,j3,j4,j5,j6,j7,j8,j9,k1,k2,k3,k4,k5,k6⟩
 have hc:Ord.zd0 C (fun a:List UInt8=>AVal.str a) cmpB (N 377) h0:=⟨fun h' a b K _ hk=>s1 _ _ _ _ (by
  rw [show zgz a b=decide (cmpB a b<0) by rw [Bool.eq_iff_iff,decide_eq_true_eq];exact zqb.symm];exact hk)⟩
 refine i _ _ _ (Sort_spec J hl seqT weakB hc hlen (show Rw _ _ _ _ _ _ _ from ho) fun h' G' hp hs o'=>zbe (hq h' G' hp (hs.imp fun {a b} hab=> ?_) o'))
 rw [zqb] at hab
 simpa using hab
def zbl.Spec (C:CSem) (N:zN):Prop:= ∀ (h0 h:za) (x:AVal) (L:List (List UInt8)) (R:List (List AVal)) (Q:zQ),Owns h0 h [.sl 1 x (L.map tc) R]->L.length <= 100000000 ->
 (∀ y h' R',Owns h0 h' [.sl 1 y ((zft L).map tc) R']->Q y h')->C (N 365) [x] h Q
theorem zbl.spec (i:zbl.Imp C N):zbl.Spec C N:=fun h0 h x L R Q ho hlen hq=>
 i x h Q (compactG_spec (v:=fun a:List UInt8=>AVal.str a) (by omega) (fun _=>rfl) V.znx V.bin_sneq ho hlen fun y h' R' o=>zbe (hq y h' R' o))
theorem repL_one: ∀ (n:Nat) (v:AVal),repL n [v]=List.replicate n v
 | 0,_=>rfl
 | n+1,v=>(congrArg (v:: ·) (repL_one n v)).trans rfl
def zb6.Spec (C:CSem) (N:zN):Prop:= ∀ (n:Nat) (h:za) (Q:zQ),n <= 100000000->(∀ x h' R,Owns h h' [.sl 1 x [] R]->Q x h')->C (N 376) [.nils,.int .i64 (n:Int)] h Q
theorem zb6.spec (i:zb6.Imp C N):zb6.Spec C N:=by
 intro n h Q hn hq
 apply i
 have e0:V.bin .lss (.int .i64 (n:Int)) (.int .i64 0)=some (.bool (decide (n<0))):=lssN (b:=0)
 have e1:V.bin .sub (.int .i64 0) (.int .i64 0)=some (.int .i64 0):=rfl
 have e2:V.bin .sub (.int .i64 (n:Int)) (.int .i64 0)=some (.int .i64 (n:Int)):=zg4 (b:=0) (by omega) (by omega)
 simp -dsimp only [zb6.cps,zhz.cps,zhz.k1,e0,e1,e2,V.capSl,V.zbj,V.bin_gtr,B.zd,Nat.not_lt_zero,decide_false,B.cond_false]
 refine B.zn (fun hb=> ?_) (fun hb=> ?_)
 ·have hb:0<n:=by simpa using hb
  have e3:V.zgp (opsS 16 (.str []) 0).es .nils none (some (.int .i64 0))=some .nils:=rfl
  have ec:V.capSl .nils=some (.int .i64 0):=rfl
  have el:V.zbj .nils=some (.int .i64 0):=rfl
  simp -dsimp only [ec,e3,B.zd]
  refine ⟨⟨rfl,by omega,by simp [opsS];omega,by simp [maxLen];omega⟩,fun id hid=> ?_⟩
  have hr:repL (n:Int).toNat (opsS 16 (.str []) 0).z=List.replicate n (.str []):=by rw [Int.toNat_natCast];exact repL_one n _
  rw [hr]
  have o:=(Owns.start h).zrn (id:=id) (n:=n) (cp:=n) (es:=1) (cs:=List.replicate n (.str [])) (L:=List.replicate n [.str []]) (R:=[]) hid (by simp) (by simp) (by simp) (by simp)
  obtain ⟨y,e4,e5⟩:=Owns.cutTo (x:= .sl id 0 0 n 1 n) o Nat.one_pos (k:=0) (by omega)
  rw [Int.toNat_natCast]
  simp -dsimp only [el,B.zd]
  have e4':V.zgp (opsS 16 (.str []) 0).es (.sl id 0 0 n (opsS 16 (.str []) 0).es n) none (some (.int .i64 0))=some y:=e4
  simp -dsimp only [e4',B.zd]
  exact zbe (hq y _ _ e5)
 ·exact zbe (hq _ _ _ ((Owns.start h).nils 1))
theorem zr9 {α:Type} {L:List (List α)} {k:Nat} (hk:k<L.length):((L.take (k+1)).flatten).length=(L.take k).flatten.length+L[k].length:=by
 rw [List.take_add_one,List.getElem?_eq_getElem hk];simp only [Option.toList_some,List.flatten_append,List.length_append,List.flatten_singleton]
theorem sumLen_le {α:Type} (L:List (List α)) (k:Nat):((L.take k).flatten).length <= L.flatten.length:=by
 conv=>rhs;rw [<- List.take_append_drop k L]
 simp only [List.flatten_append,List.length_append];omega
def zl.Spec (C:CSem) (N:zN):Prop:= ∀ (x:AVal) (xs:List AVal) (L:List (List (List UInt8))) (R:List (List AVal)) (h:za) (Q:zQ),SlX h 1 x (xs.map fun y=>[y]) R->xs.length=L.length->(∀ (i:Nat) (y:AVal) (l:List (List UInt8)),xs[i]? =some y->L[i]? =some l-> ∃ R,SlX h 1 y (l.map tc) R)->L.length <= 1000->L.flatten.length <= 100000000 ->
 (∀ x' h' R',Owns h h' [.sl 1 x' (L.flatten.map tc) R']->Q x' h')->C (N 373) [x] h Q
theorem zl.spec (i:zl.Imp C N) (s1:zb6.Spec C N):zl.Spec C N:=by
 intro x xs L R h Q hx hxl hin hl1 hl2 hq
 apply i
 have hlen:=hx.zbj
 rw [List.length_map,hxl] at hlen
 simp -dsimp only [zl.cps,hlen,B.zd]
 have cell: ∀ {hh:za} (hle:h.le hh) {k:Nat} (hk:k<L.length) {K:AVal->Prop},(∀ y R2,SlX hh 1 y (L[k].map tc) R2->K y)->B.pv (V.idxS 1 x (.int .i64 (k:Int))) (fun v=>B.ld hh v K):=fun {hh} hle {k} hk {K} hK=>by
  have hg:(xs.map fun y=>[y])[k]? =some [xs[k]'(by omega)]:=by rw [List.getElem?_map,List.getElem?_eq_getElem (by omega)];rfl
  have hidx:V.idxS 1 x (.int .i64 (k:Int))=some (elp 1 x k 0):=hx.idxN (by simp;omega)
  rw [hidx,B.zd]
  rw [B.zg0,(hx.mono hle).cell hg,B.zd]
  obtain ⟨R2,h2⟩:=hin k _ _ (List.getElem?_eq_getElem (by omega)) (List.getElem?_eq_getElem hk)
  exact hK _ _ (h2.mono hle)
 refine zg.intro (fun t vs hh=>hh=h /\ ∃ k:Nat,k+t=L.length /\ vs=[.int .i64 ((L.take k).flatten.length:Int),.int .i64 (k:Int)]) L.length ?_ ⟨rfl,0,by omega,rfl⟩
 rintro Y t vs hh ⟨rfl,k,ht,rfl⟩ hY
 simp -dsimp only [zl.l4,zl.k3,lssN,B.zd]
 refine B.zn (fun hb=> ?_) (fun hb=> ?_)
 ·rw [decide_eq_true_eq] at hb
  have hs:=zr9 hb
  have hle:=sumLen_le L (k+1)
  refine cell (za.le_refl _) hb fun y R2 hy=> ?_
  have e1:=hy.zbj
  rw [List.length_map] at e1
  have e2:V.bin .lss (.int .i64 (((L.take k).flatten.length+L[k].length:Nat):Int)) (.int .i64 0)=some (.bool false):=by
   exact (lssN (b:=0)).trans (by simp)
  simp -dsimp only [e1,zj6 (a:=(L.take k).flatten.length) (b:=L[k].length) (by omega),e2,B.zd,B.cond_false,add1 (show k<4611686018427387904 by omega)]
  exact hY (t-1) _ _ (by omega) ⟨rfl,k+1,by omega,by rw [hs]⟩
 ·rw [decide_eq_false_iff_not] at hb
  have hk:k=L.length:=by omega
  subst hk
  rw [List.take_length]
  refine s1 _ _ _ hl2 fun y0 h1 R1 o1=> ?_
  simp -dsimp only [hlen,B.zd]
  refine zg.intro (fun t vs h2=> ∃ (k:Nat) (y:AVal) (R2:List (List AVal)),k+t=L.length /\ vs=[y,.int .i64 (k:Int)] /\ Owns hh h2 [.sl 1 y ((L.take k).flatten.map tc) R2]) L.length ?_ ⟨0,y0,R1,by omega,rfl,o1⟩
  rintro Z t2 vs h2 ⟨k,y,R2,ht2,rfl,o2⟩ hZ
  simp -dsimp only [zl.l2,zl.k1,lssN,B.zd]
  refine B.zn (fun hc=> ?_) (fun hc=> ?_)
  ·rw [decide_eq_true_eq] at hc
   have hs:=zr9 hc
   have hle:=sumLen_le L (k+1)
   refine cell o2.le hc fun z R3 hz=> ?_
   refine o2.appW 0 rfl hz Nat.one_pos (by simp only [List.length_map];omega) (by simp only [List.length_map,maxLen];omega) fun x' h' o3 _=> ?_
   simp -dsimp only [add1 (show k<4611686018427387904 by omega),B.zd]
   refine hZ (t2-1) _ _ (by omega) ⟨k+1,x',[],by omega,rfl,?_⟩
   rw [List.take_add_one,List.getElem?_eq_getElem hc,Option.toList_some,List.flatten_append,List.flatten_singleton,List.map_append]
   exact o3
  ·rw [decide_eq_false_iff_not] at hc
   have hk:k=L.length:=by omega
   subst hk
   rw [List.take_length] at o2
   exact zbe (hq _ _ _ o2)
end Go.Ab
namespace Go.Ab
variable {C:CSem} {N:zN}
theorem itm_get {h:za} {x:AVal} {L:List Itm} (hx:Dl ze8 h x L) {i:Nat} {r:Itm} (hr:L[i]? =some r): ∃ p o,V.idxS 4 x (.int .i64 (i:Int))=some (elp 4 x i 0) /\ A.ldnv h (elp 4 x i 0) 4=some (.agg (iCells r (p,o))) /\ V.fieldAddr 0 (elp 4 x i 0)=some (elp 4 x i 0) /\
  V.fieldAddr 2 (elp 4 x i 0)=some (elp 4 x i 2) /\ V.fieldAddr 3 (elp 4 x i 0)=some (elp 4 x i 3) /\ A.ldv h (elp 4 x i 0)=some (.str r.Code) /\ A.ldv h (elp 4 x i 2)=some p /\ A.ldv h (elp 4 x i 3)=some o /\ ze8.at_ h r (p,o):=by
 obtain ⟨a,ea⟩:=hx.get hr
 exact ⟨a.1,a.2,ea.idx,ea.ldn,ea.fld 0 0,ea.fld 0 2,ea.fld 0 3,ea.ld 0 (by decide),ea.ld 2 (by decide),ea.ld 3 (by decide),ea.at_⟩
end Go.Ab
namespace Go.Ab
variable {C:CSem} {N:zN}
@[simp] def zok.k1 (C:CSem) (n fm:Nat) (Q:zQ) (Y1:zL) (v3 v4:AVal) (h:za):Prop:=
 B.pv (V.zbj v3) fun v23=>
  B.pv (V.bin .lss v4 v23) fun v24=>
  B.cond v24
  (B.call C fm [(.int .i64 2),v4] h fun v30 h=>
  B.pv (V.idxS n v3 v4) fun v31=>
  B.stn h v31 n v30 fun h=>
  B.pv (V.bin .add v4 (.int .i64 1)) fun v26=>
  Y1 [v26] h)
  (Q (.tup []) h)
@[simp] def zok.l2 (C:CSem) (n fm:Nat) (Q:zQ) (v3:AVal):zG
 | [v4],h,Y1=>zok.k1 C n fm Q Y1 v3 v4 h
 | _,_,_=>False
@[simp] def zok.k3 (C:CSem) (n fm:Nat) (Q:zQ) (v0:AVal) (h:za):Prop:=
 B.pv (V.zbj v0) fun v18=>
  B.pv (V.bin .add v18 (.int .i64 12)) fun v19=>
  B.pv (V.zgp n v0 none (some v19)) fun v20=>
  zg (zok.l2 C n fm Q v20) [(.int .i64 0)] h
@[simp] def zok.k4 (C:CSem) (n fo fm:Nat) (Q:zQ) (Y2:zL) (v0 v2:AVal) (h:za):Prop:=
 B.pv (V.zbj v0) fun v7=>
  B.pv (V.bin .lss v2 v7) fun v8=>
  B.cond v8
  (B.pv (V.idxS n v0 v2) fun v13=>
  B.ldn h v13 n fun v14=>
  B.call C fo [v14] h fun v15 h=>
  B.pv (V.bin .add v2 (.int .i64 1)) fun v10=>
  Y2 [v10] h)
  (zok.k3 C n fm Q v0 h)
@[simp] def zok.l5 (C:CSem) (n fo fm:Nat) (Q:zQ) (v0:AVal):zG
 | [v2],h,Y2=>zok.k4 C n fo fm Q Y2 v0 v2 h
 | _,_,_=>False
def zok (C:CSem) (n fo fm:Nat) (v0:AVal) (h:za) (Q:zQ):Prop:=zg (zok.l5 C n fo fm Q v0) [(.int .i64 0)] h
section
variable {T Ad:Type} (K:DK T Ad)
def OverE (K:DK T Ad) (C:CSem) (f:Nat):Prop:= ∀ (t:T) (a:Ad) (h0 h:za) (Q:zQ),K.ok t->Owns h0 h (K.obs true t a)->(∀ h',h0.le h'->Q (.tup []) h')->C f [.agg (K.cells t a)] h Q
theorem overD_spec {mk:Int->Int->T} {fo fm:Nat} (so:OverE K C fo) (sm:MarkE K mk C fm) {h0 h:za} {x:AVal} {P PM:List (T×Ad)} {Q:zQ} (ho:Owns h0 h (.sl K.n x (P.map K.cs) (PM.map K.cs)::(K.os true P++K.os false PM))) (hok: ∀ p∈P,K.ok p.1) (hM:PM.length=12) (hl:P.length <= 100000000)
  (hq: ∀ h',h0.le h'->Q (.tup []) h'):zok C K.n fo fm x h Q:=by
 have ho1:Owns h0 h (.sl K.n x (P.map K.cs) (PM.map K.cs)::K.os true P):=ho.sub (List.Sublist.cons_cons _ (List.sublist_append_left _ _))
 have e1:IntKind.i64.wrap ((P.length:Int)+12)=((P.length+12:Nat):Int):=by rw [wrap_i64 (by omega) (by omega)];omega
 refine zg.intro (fun n vs hh=> ∃ k:Nat,k+n=P.length /\ vs=[.int .i64 k] /\ Owns h0 hh (.sl K.n x (P.map K.cs) (PM.map K.cs)::K.os true (P.drop k))) P.length ?_ ⟨0,by omega,rfl,ho1⟩
 rintro Y n vs hh ⟨k,hk,rfl,o⟩ hY
 have hx:=o.slAt 0 rfl
 have hlx:=hx.zbj
 rw [List.length_map] at hlx
 simp -dsimp only [zok.l5,zok.k4,hlx,lssN,B.zd]
 refine B.zn (fun hb=> ?_) (fun hb=> ?_)
 ·rw [decide_eq_true_eq] at hb
  have hd:P.drop k=P[k]::P.drop (k+1):=List.drop_eq_getElem_cons hb
  have hg:(P.map K.cs)[k]? =some (K.cells P[k].1 P[k].2):=by rw [List.getElem?_map,List.getElem?_eq_getElem hb];rfl
  have hidx:V.idxS K.n x (.int .i64 (k:Int))=some (elp K.n x k 0):=hx.idxN (by simpa using hb)
  simp -dsimp only [hidx,B.zou,hx.elem hg,B.zd]
  rw [hd] at o
  have eo:K.os true (P[k]::P.drop (k+1))=K.obs true P[k].1 P[k].2++K.os true (P.drop (k+1)):=by simp only [DK.os,List.flatMap_cons]
  rw [eo] at o
  have o':Owns h0 hh ((.sl K.n x (P.map K.cs) (PM.map K.cs)::K.os true (P.drop (k+1)))++K.obs true P[k].1 P[k].2):=o.perm (by
   rw [List.cons_append]
   exact List.Perm.cons _ (List.perm_append_comm))
  obtain ⟨o1,o2⟩:=o'.out
  refine so _ _ _ _ _ (hok _ (List.getElem_mem hb)) o2 fun h' hle=> ?_
  simp -dsimp only [add1 (show k<4611686018427387904 by omega),B.zd]
  exact hY (n-1) _ _ (by omega) ⟨k+1,by omega,rfl,o1.grow hle⟩
 ·rw [decide_eq_false_iff_not] at hb
  have o1:Owns h0 hh [.sl K.n x (P.map K.cs) (PM.map K.cs)]:=o.sub (List.Sublist.cons_cons _ (List.nil_sublist _))
  obtain ⟨z,e2,e3,e4⟩:=hx.slice K.pos (lo:=0) (hi:=P.length+12) (a:=none) (b:=some (.int .i64 ((P.length+12:Nat):Int))) (.inl ⟨rfl,rfl⟩) (.inr ⟨_,rfl⟩) (by omega) (by simp;omega)
  have h1:((P.map K.cs++PM.map K.cs).take (P.length+12)).drop 0=P.map K.cs++PM.map K.cs:=by rw [List.drop_zero,List.take_of_length_le];simp;omega
  rw [h1] at e3
  simp -dsimp only [zok.k3,hlx,V.zfa,e1,e2,B.zd]
  have hoz:Owns h0 hh [.sl K.n z (P.map K.cs++PM.map K.cs) ((P.map K.cs++PM.map K.cs).drop (P.length+12))]:=o1.turn 0 rfl (o':= .sl K.n z (P.map K.cs++PM.map K.cs) ((P.map K.cs++PM.map K.cs).drop (P.length+12))) e3 (fun id b hf hb=>o1.zpw 0 rfl id b (by show foot x=some id;rw [<- e4];exact hf) hb) (fun j b hb _=>hb) (.inl e4)
  refine zg.intro (fun n vs hh=> ∃ (k:Nat) (L':List (List AVal)),k+n=P.length+12 /\ vs=[.int .i64 k] /\ L'.length=P.length+12 /\ Owns h0 hh [.sl K.n z L' ((P.map K.cs++PM.map K.cs).drop (P.length+12))]) (P.length+12) ?_ ⟨0,_,by omega,rfl,by simp [hM],hoz⟩
  rintro Y n vs hh ⟨k,L',hn,rfl,hl',ho'⟩ hY
  have hlz:=(ho'.slAt 0 rfl).zbj
  rw [hl'] at hlz
  simp -dsimp only [zok.l2,zok.k1,hlz,lssN,B.zd]
  refine B.zn (fun hc=> ?_) (fun hc=> ?_)
  ·rw [decide_eq_true_eq] at hc
   have hk:k<L'.length:=by omega
   refine sm _ _ _ _ fun a' h2 o2=> ?_
   simp -dsimp only [(ho'.slAt 0 rfl).idxN hk,B.zd]
   refine (ho'.grow o2.le).stElem 0 rfl (c:=L'[k]) (by simp [hk]) (K.len _ a') fun h3 o3 _=> ?_
   simp -dsimp only [add1 (show k<4611686018427387904 by omega),B.zd]
   exact hY (P.length+12-(k+1)) _ _ (by omega) ⟨k+1,_,by omega,rfl,by simp [hl'],o3⟩
  ·exact hq _ ho'.le
end
end Go.Ab
namespace Go.Ab
variable {C:CSem} {N:zN}
def zev.Spec (C:CSem) (N:zN):Prop:=OverE ze8 C (N 401)
theorem zev.spec (i:zev.Imp C N) (s1:zeg.Spec C N) (s2:zd8.Spec C N):zev.Spec C N:=by
 intro t a h0 h Q hok ho hq
 apply i
 have ho:Owns h0 h ([.sl 2 a.1 (t.ze5.map Part.cs) zk1]++[.sl 1 a.2 (t.zen.map tc) zhn]):=ho
 have ho':=ho.perm (List.perm_append_comm)
 obtain ⟨o1,o2⟩:=ho'.out
 simp -dsimp [ze8]
 refine s1 _ _ _ _ _ _ o2 (by simp [marks]) (by rw [List.length_map];exact hok.1) fun h1 hle=> ?_
 refine s2 _ _ _ _ _ _ (o1.grow hle) (by simp [zhn,zhv]) (by rw [List.length_map];exact hok.2) fun h2 hle2=> ?_
 exact zbe (hq _ hle2)
def zcu.Spec (C:CSem) (N:zN):Prop:= ∀ (x:AVal) (P PM:List (Itm×AVal×AVal)) (h0 h:za) (Q:zQ),Owns h0 h (.sl 4 x (P.map ze8.cs) (PM.map ze8.cs)::(ze8.os true P++ze8.os false PM))->(∀ p∈P,ze8.ok p.1)->PM.length=12->P.length <= 100000000 ->
 (∀ h',h0.le h'->Q (.tup []) h')->C (N 393) [x] h Q
theorem zcu.spec (i:zcu.Imp C N) (s1:zev.Spec C N) (s2:zem.Spec C N):zcu.Spec C N:=fun x P PM h0 h Q ho hok hM hl hq=>
 i x h Q (overD_spec ze8 s1 s2 ho hok hM hl fun h' hle=>zbe (hq h' hle))
end Go.Ab
set_option maxRecDepth 100000
namespace Go.Ab
variable {C:CSem} {N:zN}
abbrev sing (v:AVal):List AVal:=[v]
def ztu (h hh:za) (id:Nat) (B:Nat->List AVal):Prop:= ∃ xs:Nat->AVal,Owns h hh (Objs 1 23 xs (fun i=>(B i).map sing) (fun _=>[])++[.box (.ptr id 0 0) (fill 23 xs)])
theorem Owns.nilObjs {h0 h:za} {l:List Ob} (ho:Owns h0 h l) (es n:Nat):Owns h0 h (Objs es n (fun _=> .nils) (fun _=>[]) (fun _=>[])++l):=by
 have mem: ∀ o∈Objs es n (fun _=>AVal.nils) (fun _=>[]) (fun _=>[]),o= .sl es .nils [] []:=fun o hm=>by
  obtain ⟨j,_,rfl⟩:=List.mem_map.1 hm;rfl
 refine ⟨ho.le,fun o hm=> ?_,fun o hm=> ?_,List.pairwise_append.2 ⟨?_,ho.apart,fun a ha b _ id hf=>by rw [mem a ha] at hf;cases hf⟩⟩
 ·rcases List.mem_append.1 hm with hm|hm
  ·rw [mem o hm];exact SlX.nils h es
  ·exact ho.is o hm
 ·rcases List.mem_append.1 hm with hm|hm
  ·intro id hf;rw [mem o hm] at hf;cases hf
  ·exact ho.own o hm
 ·rw [List.pairwise_iff_forall_sublist]
  intro a b hs id hf
  rw [mem a (hs.subset (by simp))] at hf;cases hf
theorem ztu.start {h:za} {id:Nat} (hid:h id=none):ztu h (upd h id (zfm (fill 23 fun _=> .nils))) id fun _=>[]:=by
 refine ⟨fun _=> .nils,?_⟩
 have:=((Owns.start h).zq9 hid (fill 23 fun _=> .nils)).nilObjs 1 23
 simpa using this
def putG (k:Nat) (v0 v1:AVal) (h:za) (Q:zQ):Prop:=
 B.nilCheck v0 fun v6=>
  B.pv (V.fieldAddr k v6) fun v7=>
  B.ld h v7 fun v8=>
  B.newO h (ze2 [(0,none,v1)] (repL 1 [.nils])) fun i10 h=>
  B.appW h 1 24 v8 (.sl i10 0 0 1 1 1) fun v11 h=>
  B.nilCheck v0 fun v12=>
  B.pv (V.fieldAddr k v12) fun v13=>
  B.st h v13 v11 fun h=>
  Q (.tup []) h
theorem putG_spec {k:Nat} (hk:k<23) {h hh:za} {id:Nat} {B:Nat->List AVal} {y:AVal} {Q:zQ} (hb:ztu h hh id B) (hy:y.zc8=true) (hl:(B k).length <= 100000000) (hq: ∀ h',ztu h h' id (upf B k (B k++[y]))->Q (.tup []) h'):putG k (.ptr id 0 0) y hh Q:=by
 obtain ⟨xs,ho⟩:=hb
 obtain ⟨id',e,hbx⟩:=ho.zqc 23 Objs.getL
 cases e
 have e1:A.ldv hh (.ptr id 0 k)=some (xs k):=by rw [zl3 hbx,zr2 _ hk]
 have hrep:repL 1 [AVal.nils]=[AVal.nils]:=rfl
 simp -dsimp [putG,e1,hrep,hy]
 refine ho.push k (Objs.getA hk) rfl (by omega) (by simp;omega) (by simp [maxLen];omega) fun x' h1 ho1 _=> ?_
 rw [Objs.setA hk,zr7] at ho1
 have hcx:=(ho1.slAt k (Objs.getA hk)).zc8
 rw [zha] at hcx
 simp -dsimp
 refine ho1.ztt 23 Objs.getL hcx (by simpa using hk) fun h2 ho2 _=> ?_
 rw [Objs.setL,fill_set] at ho2
 refine hq h2 ⟨upf xs k x',?_⟩
 have e2:upf (fun i=>(B i).map sing) k ((B k).map sing++[[y]])=fun i=>(upf B k (B k++[y]) i).map sing:=by
  funext i;unfold upf;split
  ·rename_i e;subst e;simp
  ·rfl
 rw [e2] at ho2
 exact ho2
section
variable {h0 h:za} {id:Nat} {B:Nat->List AVal} {D R:Nat->Nat->List (List AVal)} {xs:Nat->AVal} {Q:zQ}
end
end Go.Ab
set_option maxRecDepth 100000
namespace Go.Ab
variable {C:CSem} {N:zN}
def PutSpec (C:CSem) (k g:Nat):Prop:= ∀ (h hh:za) (id:Nat) (B:Nat->List AVal) (y:AVal) (Q:zQ),ztu h hh id B->y.zc8=true->(B k).length <= 100000000->(∀ h',ztu h h' id (upf B k (B k++[y]))->Q (.tup []) h')->C g [.ptr id 0 0,y] hh Q
@[simp] def zuq.k1 (C:CSem) (fp fa:Nat) (Q:zQ) (Y1:zL) (v0 v3 v4:AVal) (h:za):Prop:=
 B.pv (V.zbj v0) fun v9=>
  B.pv (V.bin .lss v4 v9) fun v10=>
  B.cond v10
  (B.pv (V.idxS 1 v0 v4) fun v16=>
  B.ld h v16 fun v17=>
  B.call C fp [v3,v17] h fun v18 h=>
  B.pv (V.bin .add v4 (.int .i64 1)) fun v12=>
  Y1 [v12] h)
  (B.call C fa [v3] h fun v20 h=>
  Q v20 h)
@[simp] def zuq.l2 (C:CSem) (fp fa:Nat) (Q:zQ) (v0 v3:AVal):zG
 | [v4],h,Y1=>zuq.k1 C fp fa Q Y1 v0 v3 v4 h
 | _,_,_=>False
def zuq (C:CSem) (fp fa:Nat) (v0:AVal) (h:za) (Q:zQ):Prop:=
 B.pv (A.bld [] [.nils,.nils,.nils,.nils,.nils,.nils,.nils,.nils,.nils,.nils,.nils,.nils,.nils,.nils,.nils,.nils,.nils,.nils,.nils,.nils,.nils,.nils,.nils]) fun v5=>
  B.newO h (A.znh 23 v5) fun i6 h=>
  zg (zuq.l2 C fp fa Q v0 (.ptr i6 0 0)) [(.int .i64 0)] h
theorem ztu.le {h hh:za} {id:Nat} {B:Nat->List AVal} (hb:ztu h hh id B):h.le hh:=by obtain ⟨_,ho⟩:=hb;exact ho.le
@[simp] theorem Objs_zero {es:Nat} {xs:Nat->AVal} {D R:Nat->List (List AVal)}:Objs es 0 xs D R=[]:=rfl
end Go.Ab
set_option maxRecDepth 100000
namespace Go.Ab
variable {C:CSem} {N:zN}
structure LL.okL (lim:Nat) (t:LL) (h0:za):Prop where
 is:SlX h0 1 t.x (zh5 t.n fun j=>[t.xs j]) t.W
 n_le:t.n <= 100000000
 zua: ∀ j,j<t.n->(t.D j).length <= lim
def FlatSpecL (C:CSem) (es lim g:Nat):Prop:= ∀ (t:LL) (h0 h:za) (Q:zQ),t.okL lim h0->Owns h0 h (t.obs es)->(∀ h',h0.le h'->Q (.bool true) h')->C g [t.x] h Q
structure BagK where
 es:Nat->Nat
 lim:Nat->Nat
 full:Nat->Bool
abbrev LK:=List (AVal×List (List AVal))
def obK (es:Nat) (q:AVal×List (List AVal)):Ob:= .sl es q.1 q.2 []
def LK.ll (l:LK) (x:AVal):LL:=⟨x,l.length,fun j=>(l.getD j (.nils,[])).1,fun j=>(l.getD j (.nils,[])).2,fun _=>[],[]⟩
theorem LK.obs (l:LK) (x:AVal) (es:Nat):(l.ll x).obs es=l.map (obK es):=by
 apply List.ext_getElem?
 intro j
 unfold LL.obs LK.ll
 by_cases hj:j<l.length
 ·rw [Objs.get hj,List.getElem?_map,List.getElem?_eq_getElem hj]
  simp [obK,hj]
 ·rw [List.getElem?_eq_none (by simp;omega),List.getElem?_eq_none (by simp;omega)]
theorem LK.zh5 (l:LK):zh5 l.length (fun j=>[(l.getD j (.nils,[])).1])=l.map fun q=>[q.1]:=by
 apply List.ext_getElem?
 intro j
 by_cases hj:j<l.length
 ·rw [zne _ hj,List.getElem?_map,List.getElem?_eq_getElem hj];simp [hj]
 ·rw [List.getElem?_eq_none (by simp;omega),List.getElem?_eq_none (by simp;omega)]
def zhp (C:CSem) (b:BagK) (i g:Nat):Prop:=(b.full i=true->FlatSpecL C (b.es i) (b.lim i) g) /\ (b.full i=false->zek C g)
structure BagL (b:BagK) (h0:za) (id:Nat) (L:Nat->LK) (xs:Nat->AVal):Prop where
 box:h0 id=some (zfm (fill 23 xs))
 is: ∀ i,i<23->SlX h0 1 (xs i) ((L i).map fun q=>[q.1]) []
 none: ∀ i,i<23->b.full i=false->L i=[]
 n_le: ∀ i,i<23->(L i).length <= 100000000
 zua: ∀ i,i<23-> ∀ q∈L i,q.2.length <= b.lim i
def bagOb (b:BagK) (L:Nat->LK) (i n:Nat):List Ob:=(List.range' i n).flatMap fun i=>(L i).map (obK (b.es i))
theorem bagOb_succ (b:BagK) (L:Nat->LK) (i n:Nat):bagOb b L i (n+1)=(L i).map (obK (b.es i))++bagOb b L (i+1) n:=by
 simp [bagOb,List.range'_succ]
section
variable {b:BagK} {h0 h:za} {id:Nat} {L:Nat->LK} {xs:Nat->AVal} {Q:zQ}
theorem BagL.ld (hb:BagL b h0 id L xs) (hle:h0.le h) {i:Nat} (hi:i<23):A.ldv h (.ptr id 0 i)=some (xs i):=by
 rw [zl3 (hle _ _ hb.box),zr2 _ hi]
theorem zgs {g:Nat} (i:Nat) (s:zhp C b i g) (hb:BagL b h0 id L xs) (n:Nat) (hi:i<23) (ho:Owns h0 h (bagOb b L i (n+1))) (hq: ∀ h',Owns h0 h' (bagOb b L (i+1) n)->Q (.bool true) h'):C g [xs i] h Q:=by
 rw [bagOb_succ] at ho
 cases hf:b.full i with
 | true=>
  obtain ⟨q1,q2⟩:=(ho.perm List.perm_append_comm).out
  have hx:=(hb.is i hi).mono q1.le
  rw [<- LK.zh5] at hx
  rw [<- LK.obs (L i) (xs i)] at q1 q2
  refine s.1 hf ((L i).ll (xs i)) _ h Q ⟨by rw [<- LK.obs (L i) (xs i)] at hx;exact hx,hb.n_le i hi,fun j hj=> ?_⟩ q2 fun h' hle=>hq h' (q1.grow hle)
  have hj':j<(L i).length:=hj
  show ((L i).getD j (.nils,[])).2.length <= _
  rw [List.getD_eq_getElem?_getD,List.getElem?_eq_getElem hj']
  exact hb.zua i hi _ (List.getElem_mem hj')
 | false=>
  have e:=hb.none i hi hf
  have hx:=hb.is i hi
  rw [e] at hx ho
  simp only [List.map_nil,List.nil_append] at hx ho
  exact s.2 hf (xs i) [] h h Q (hx.mono ho.le) (za.le_refl h) fun h' hle=>hq h' (ho.grow hle)
end
def ApartK (C:CSem) (b:BagK) (g:Nat):Prop:= ∀ (id:Nat) (L:Nat->LK) (xs:Nat->AVal) (h0 h:za) (Q:zQ),BagL b h0 id L xs->Owns h0 h (bagOb b L 0 23)->(∀ h',h0.le h'->Q (.bool true) h')->C g [.ptr id 0 0] h Q
theorem bag_apartK (i:ze3.Imp C N) (b:BagK) (f0:zhp C b 0 (N 80)) (f1:zhp C b 1 (N 81)) (f2:zhp C b 2 (N 82)) (f3:zhp C b 3 (N 83)) (f4:zhp C b 4 (N 84)) (f5:zhp C b 5 (N 85)) (f6:zhp C b 6 (N 86)) (f7:zhp C b 7 (N 87)) (f8:zhp C b 8 (N 88))
  (f9:zhp C b 9 (N 89)) (f10:zhp C b 10 (N 90)) (f11:zhp C b 11 (N 91)) (f12:zhp C b 12 (N 92)) (f13:zhp C b 13 (N 93)) (f14:zhp C b 14 (N 94)) (f15:zhp C b 15 (N 95)) (f16:zhp C b 16 (N 96)) (f17:zhp C b 17 (N 97)) (f18:zhp C b 18 (N 98)) (f19:zhp C b 19 (N 99))
  (f20:zhp C b 20 (N 100)) (f21:zhp C b 21 (N 101)) (f22:zhp C b 22 (N 102)):ApartK C b (N 62):=by
 intro id L xs h0 h Q hb ho hq
 apply i
 simp -dsimp [hb.ld ho.le (i:=0) (by omega)]
 refine zgs 0 f0 hb 22 (by omega) ho fun h ho=> ?_
 simp -dsimp [hb.ld ho.le (i:=1) (by omega)]
 refine zgs 1 f1 hb 21 (by omega) ho fun h ho=> ?_
 simp -dsimp [hb.ld ho.le (i:=2) (by omega)]
 refine zgs 2 f2 hb 20 (by omega) ho fun h ho=> ?_
 simp -dsimp [hb.ld ho.le (i:=3) (by omega)]
 refine zgs 3 f3 hb 19 (by omega) ho fun h ho=> ?_
 simp -dsimp [hb.ld ho.le (i:=4) (by omega)]
 refine zgs 4 f4 hb 18 (by omega) ho fun h ho=> ?_
 simp -dsimp [hb.ld ho.le (i:=5) (by omega)]
 refine zgs 5 f5 hb 17 (by omega) ho fun h ho=> ?_
 simp -dsimp [hb.ld ho.le (i:=6) (by omega)]
 refine zgs 6 f6 hb 16 (by omega) ho fun h ho=> ?_
 simp -dsimp [hb.ld ho.le (i:=7) (by omega)]
 refine zgs 7 f7 hb 15 (by omega) ho fun h ho=> ?_
 simp -dsimp [hb.ld ho.le (i:=8) (by omega)]
 refine zgs 8 f8 hb 14 (by omega) ho fun h ho=> ?_
 simp -dsimp [hb.ld ho.le (i:=9) (by omega)]
 refine zgs 9 f9 hb 13 (by omega) ho fun h ho=> ?_
 simp -dsimp [hb.ld ho.le (i:=10) (by omega)]
 refine zgs 10 f10 hb 12 (by omega) ho fun h ho=> ?_
 simp -dsimp [hb.ld ho.le (i:=11) (by omega)]
 refine zgs 11 f11 hb 11 (by omega) ho fun h ho=> ?_
 simp -dsimp [hb.ld ho.le (i:=12) (by omega)]
 refine zgs 12 f12 hb 10 (by omega) ho fun h ho=> ?_
 simp -dsimp [hb.ld ho.le (i:=13) (by omega)]
 refine zgs 13 f13 hb 9 (by omega) ho fun h ho=> ?_
 simp -dsimp [hb.ld ho.le (i:=14) (by omega)]
 refine zgs 14 f14 hb 8 (by omega) ho fun h ho=> ?_
 simp -dsimp [hb.ld ho.le (i:=15) (by omega)]
 refine zgs 15 f15 hb 7 (by omega) ho fun h ho=> ?_
 simp -dsimp [hb.ld ho.le (i:=16) (by omega)]
 refine zgs 16 f16 hb 6 (by omega) ho fun h ho=> ?_
 simp -dsimp [hb.ld ho.le (i:=17) (by omega)]
 refine zgs 17 f17 hb 5 (by omega) ho fun h ho=> ?_
 simp -dsimp [hb.ld ho.le (i:=18) (by omega)]
 refine zgs 18 f18 hb 4 (by omega) ho fun h ho=> ?_
 simp -dsimp [hb.ld ho.le (i:=19) (by omega)]
 refine zgs 19 f19 hb 3 (by omega) ho fun h ho=> ?_
 simp -dsimp [hb.ld ho.le (i:=20) (by omega)]
 refine zgs 20 f20 hb 2 (by omega) ho fun h ho=> ?_
 simp -dsimp [hb.ld ho.le (i:=21) (by omega)]
 refine zgs 21 f21 hb 1 (by omega) ho fun h ho=> ?_
 simp -dsimp [hb.ld ho.le (i:=22) (by omega)]
 refine zgs 22 f22 hb 0 (by omega) ho fun h ho=> ?_
 try simp -dsimp
 exact zbe (hq _ ho.le)
end Go.Ab
set_option maxRecDepth 100000
namespace Go.Ab
variable {C:CSem} {N:zN}
theorem zmo {E:zx} {g:Nat} (i: ∀ (v0:AVal) (h:za) (Q:zQ),z6 E C v0 h (dn Q)->C g [v0] h Q):zek C g:=fun x W h0 h Q hx hle hq=>i x h Q (flatG_nil hx hle fun h' hle=>zbe (hq h' hle))
theorem apartK_spec {b:BagK} {k es fp fa:Nat} (hk:k<23) (hf: ∀ i,b.full i=false->i≠k) (hone: ∀ Lk:LK,bagOb b (fun i=>if i=k then Lk else []) 0 23=Lk.map (obK es)) (hlim:100000000 <= b.lim k) (s1:PutSpec C k fp) (s3:ApartK C b fa)
  {t:LL} {h0 h:za} {Q:zQ} (ht:t.ok h0) (ho:Owns h0 h (t.obs es)) (hq: ∀ h',h0.le h'->Q (.bool true) h'):zuq C fp fa t.x h Q:=by
 have hn:=ht.n_le
 try simp -dsimp [zuq]
 intro id hid
 refine zg.intro (fun n vs hh=> ∃ j:Nat,j+n=t.n /\ vs=[.int .i64 j] /\ ztu h hh id (upf (fun _=>[]) k ((List.range j).map t.xs))) t.n ?_ ⟨0,by simp,by simp,by
  have:=ztu.start hid
  rw [show upf (fun _=>([]:List AVal)) k ((List.range 0).map t.xs)=fun _=>[] from zr7 ..]
  exact this⟩
 rintro Y n vs hh ⟨j,hj,rfl,hb⟩ hY
 have hx:=ht.is.mono (za.le_trans ho.le hb.le)
 simp -dsimp [zrc hx]
 refine B.zn (fun h1=> ?_) (fun h1=> ?_)<;>simp at h1
 ·have hc:(t.xs j).zc8=true:=(ho.slAt j (Objs.get h1)).zc8
  simp -dsimp [zk2 hx h1,zqu hx h1]
  refine s1 h hh id _ _ _ hb hc (by rw [zha];simp;omega) fun h' hb'=> ?_
  simp -dsimp [zkc (n:=j) (by omega)]
  refine hY (n-1) _ _ (by omega) ⟨j+1,by omega,by simp,?_⟩
  rw [zha,upf_upf] at hb'
  rw [List.range_succ,List.map_append];exact hb'
 ·have:j=t.n:=by omega
  subst this
  let Lk:LK:=(List.range t.n).map fun j=>(t.xs j,t.D j)
  have hc:Owns h0 h (Lk.map (obK es)):=by
   have ho':Owns h0 h (Objs es t.n t.xs t.D t.R++[]):=by rw [List.append_nil];exact ho
   have:=ho'.cutR
   rw [List.append_nil] at this
   have e:Objs es t.n t.xs t.D (fun _=>[])=Lk.map (obK es):=by
    show (List.range t.n).map _=((List.range t.n).map _).map _
    rw [List.map_map];rfl
   rw [<- e];exact this
  obtain ⟨xs,ob⟩:=hb
  rw [<- hone] at hc
  obtain ⟨q1,q2⟩:=((hc.join ob).perm List.perm_append_comm).out
  obtain ⟨id',e,hbx⟩:=q1.zqc 23 Objs.getL
  cases e
  refine s3 id (fun i=>if i=k then Lk else []) xs _ hh Q ⟨hbx,fun i hi=> ?_,fun i hi hfi=> ?_,fun i hi=> ?_,fun i hi q hq=> ?_⟩ q2 fun h' hle=>hq h' (za.le_trans q1.le hle)
  ·have:=q1.slAt i (Objs.getA hi)
   have e:(upf (fun _=>([]:List AVal)) k ((List.range t.n).map t.xs) i).map sing=((fun i=>if i=k then Lk else []) i:LK).map fun q=>[q.1]:=by
    show (if i=k then (List.range t.n).map t.xs else []).map sing=(if i=k then Lk else []).map fun q=>[q.1]
    split
    ·rw [List.map_map]
     show _=((List.range t.n).map _).map _
     rw [List.map_map];rfl
    ·rfl
   rw [e] at this;exact this
  ·have:=hf i hfi
   show (if i=k then Lk else [])=[]
   rw [if_neg this]
  ·show (if i=k then Lk else []).length <= _
   split
   ·show ((List.range t.n).map _).length <= _
    rw [List.length_map,List.length_range];omega
   ·simp
  ·have hq:q∈(if i=k then Lk else []):=hq
   by_cases e:i=k
   ·rw [if_pos e] at hq
    obtain ⟨j,hj,rfl⟩:=List.mem_map.1 hq
    have:=ht.zua j (by simpa using hj)
    rw [e]
    show (t.D j).length <= _
    omega
   ·rw [if_neg e] at hq;cases hq
def bagTx:BagK:=⟨fun _=>1,fun _=>100000000,fun i=>decide (i=3)⟩
theorem ze3.spl (i:ze3.Imp C N) (f0:zek C (N 80)) (f1:zek C (N 81)) (f2:zek C (N 82)) (s3:zms C 1 (N 83)) (i4:zfy.Imp C N) (i5:zbb.Imp C N) (i6:zb5.Imp C N) (i7:zbq.Imp C N) (i8:zb4.Imp C N) (i9:zbr.Imp C N) (f10:zek C (N 90)) (i11:zbs.Imp C N) (f12:zek C (N 92)) (f13:zek C (N 93)) (f14:zek C (N 94)) (f15:zek C (N 95)) (f16:zek C (N 96)) (f17:zek C (N 97)) (f18:zek C (N 98)) (f19:zek C (N 99)) (f20:zek C (N 100)) (f21:zek C (N 101)) (f22:zek C (N 102)):ApartK C bagTx (N 62):=by
 have z: ∀ {j g:Nat},bagTx.full j=false->zek C g->zhp C bagTx j g:=fun h s=>⟨fun e=>(by rw [h] at e;cases e),fun _=>s⟩
 exact bag_apartK i bagTx (z rfl f0) (z rfl f1) (z rfl f2) ⟨fun _ t h0 h Q ht ho hq=>s3 t h0 h Q ⟨ht.is,ht.n_le,ht.zua⟩ ho hq,fun e=>(by cases e)⟩ (z rfl (zmo i4)) (z rfl (zmo i5)) (z rfl (zmo i6)) (z rfl (zmo i7)) (z rfl (zmo i8)) (z rfl (zmo i9)) (z rfl f10) (z rfl (zmo i11)) (z rfl f12) (z rfl f13) (z rfl f14) (z rfl f15) (z rfl f16) (z rfl f17) (z rfl f18) (z rfl f19) (z rfl f20) (z rfl f21) (z rfl f22)
theorem one3 (Lk:LK):bagOb bagTx (fun i=>if i=3 then Lk else []) 0 23=Lk.map (obK 1):=by
 have:List.range' 0 23=[0,1,2,3,4,5,6,7,8,9,10,11,12,13,14,15,16,17,18,19,20,21,22]:=rfl
 unfold bagOb
 rw [this]
 simp [bagTx]
theorem zeb.spec (i:zeb.Imp C N):PutSpec C 3 (N 405):=fun h hh id B y Q hb hy hl hq=>i _ _ hh Q (putG_spec (k:=3) (by omega) hb hy hl fun h' hb'=>zbe (hq h' hb'))
theorem zdo.spec (i:zdo.Imp C N) (s1:PutSpec C 3 (N 405)) (s2:ApartK C bagTx (N 62)):zms C 1 (N 396):=fun t h0 h Q ht ho hq=>i t.x h Q (apartK_spec (k:=3) (by omega) (fun i h e=>by subst e;cases h) one3 (Nat.le_refl _) s1 s2 ht ho fun h' hle=>zbe (hq h' hle))
end Go.Ab
set_option maxRecDepth 100000
namespace Go.Ab
variable {C:CSem} {N:zN}
def two {α:Type} (a b:α):Nat->α:=fun j=>if j=0 then a else b
end Go.Ab
set_option maxRecDepth 100000
namespace Go.Ab
variable {C:CSem} {N:zN}
theorem litO {h:za} {es n:Nat} {cs:List AVal} (L:List (List AVal)) {K:Nat->za->Prop} (hc:cs=L.flatten) (hL: ∀ p∈L,p.length=es) (hn:n=L.length) (hK: ∀ i h',Owns h h' [.sl es (.sl i 0 0 n es n) L []]->K i h'):B.newO h (some cs) K:=
 fun i hi=>hK i _ ((Owns.start h).zrn hi (by simpa using hL) hn (by simp;omega) (by simpa using hc))
end Go.Ab
namespace Go.Ab
def zto:DK Itm (AVal×AVal) where
 n:=4
 bytes:=72
 z:=[.str [],.int .i64 0,.nils,.nils]
 pos:=by omega
 small:=by omega
 zlen:=rfl
 cells t a:=[.str t.Code,.int .i64 t.Life,a.1,a.2]
 len _ _:=rfl
 at_ h t a:=(∃ R,SlX h 2 a.1 (t.ze5.map Part.cs) R) /\ (∃ R,SlX h 1 a.2 (t.zen.map tc) R)
 mono hle ha:=⟨ha.1.imp fun _ r=>r.mono hle,ha.2.imp fun _ r=>r.mono hle⟩
 ok _:=True
 at_ok _:=trivial
 obs b t a:=[zqo b a.1 t.ze5,zqf b a.2 t.zen]
 ofObs {b h t a} _ ha:=⟨⟨_,show SlX h 2 a.1 (t.ze5.map Part.cs) (bif b then zk1 else []) from ha (zqo b a.1 t.ze5) (by simp)⟩,⟨_,show SlX h 1 a.2 (t.zen.map tc) (bif b then zhn else []) from ha (zqf b a.2 t.zen) (by simp)⟩⟩
theorem itemW_K {h:za} {x:AVal} {L:List Itm} (hx:Dl zto h x L) (hok: ∀ t∈L,t.ok):Dl ze8 h x L:=by
 obtain ⟨P,R,rfl,s,ha⟩:=hx
 exact ⟨P,R,rfl,s,fun p hp=>⟨(ha p hp).1,(ha p hp).2,hok p.1 (List.mem_map_of_mem hp)⟩⟩
def Itm.inLen (t:Itm):Prop:=t.Code.length<4611686018427387904 /\ (∀ p∈t.ze5,p.Item.length<4611686018427387904) /\ (∀ o∈t.zen,o.length<4611686018427387904) /\ t.ze5.length<100000000000000000 /\ t.zen.length<100000000000000000
abbrev tyItem:Ty:= .st [.s,.i .i64,.sl 24 2 tyPart,.sl 16 1 .s]
theorem absSl1 {H:za} {b e:Nat} {t:Ty} {c:List AVal} (h:zju H (.sl b e t) c): ∃ v,c=[v]:=by
 rcases h with h|h|⟨_,_,h,_⟩<;>exact ⟨_,h⟩
theorem dPartL {H:za} {p:List AVal} (h:zju H tyPart p): ∃ w:Part,p=w.cs /\ w.Item.length<4611686018427387904:=by
 obtain ⟨a,r,rfl,⟨n1,rfl,q1⟩,⟨b,r2,rfl,⟨n2,rfl,_⟩,hr⟩⟩:=h
 cases hr
 exact ⟨⟨n1,n2⟩,rfl,by unfold reach at q1;show n1.length<_;omega⟩
theorem dPartsL {H:za} {v:AVal} (h:zju H (.sl 24 2 tyPart) [v]): ∃ L:List Part,SlIs H 2 v (L.map Part.cs) /\ L.length<100000000000000000 /\ ∀ l∈L,l.Item.length<4611686018427387904:=by
 obtain ⟨L,h1,h2,h3⟩:=zup Part.cs (fun l=>l.Item.length<4611686018427387904) (fun p hp=>dPartL hp) h
 exact ⟨L,h1,by unfold reach at h2;omega,h3⟩
theorem dTextW {H:za} {p:List AVal} (h:zju H .s p): ∃ s:List UInt8,p=tc s /\ s.length<4611686018427387904:=by
 obtain ⟨s,rfl,q⟩:=h
 exact ⟨s,rfl,by unfold reach at q;omega⟩
theorem dTextsL {H:za} {v:AVal} (h:zju H (.sl 16 1 .s) [v]): ∃ L:List (List UInt8),SlIs H 1 v (L.map tc) /\ L.length<100000000000000000 /\ ∀ s∈L,s.length<4611686018427387904:=by
 obtain ⟨L,h1,h2,h3⟩:=zup tc (fun s=>s.length<4611686018427387904) (fun p hp=>dTextW hp) h
 exact ⟨L,h1,by unfold reach at h2;omega,h3⟩
theorem dItem {H:za} {p:List AVal} (h:zju H tyItem p): ∃ (t:Itm) (a:AVal×AVal),p=zto.cells t a /\ zto.at_ H t a /\ t.inLen:=by
 obtain ⟨a,r,rfl,⟨n1,rfl,q1⟩,⟨b,r2,rfl,⟨n2,rfl,_⟩,⟨c,r3,rfl,h3,⟨d,r4,rfl,h4,hr⟩⟩⟩⟩:=h
 cases hr
 obtain ⟨v,rfl⟩:=absSl1 h3
 obtain ⟨w,rfl⟩:=absSl1 h4
 obtain ⟨P,k1,k2,k3⟩:=dPartsL h3
 obtain ⟨O,g1,g2,g3⟩:=dTextsL h4
 exact ⟨⟨n1,n2,P,O⟩,(v,w),rfl,⟨⟨[],k1⟩,⟨[],g1⟩⟩,by unfold reach at q1;show n1.length<_;omega,k3,g3,k2,g2⟩
theorem arg_sliceDP {T Ad:Type} {K:DK T Ad} {Pr:T->Prop} {H:za} {bytes:Nat} {e:Ty} {v:AVal} (hd: ∀ p,zju H e p-> ∃ (t:T) (a:Ad),p=K.cells t a /\ K.at_ H t a /\ Pr t) (h:zju H (.sl bytes K.n e) [v]): ∃ L:List T,Dl K H v L /\ L.length*bytes <= reach /\ ∀ t∈L,Pr t:=by
 obtain ⟨G,h1,h2⟩:=arg_slice (T:={ p:T×Ad // K.at_ H p.1 p.2 /\ Pr p.1 }) (fun p=>K.cells p.1.1 p.1.2) (fun p hp=>by obtain ⟨t,a,e,k⟩:=hd p hp;exact ⟨⟨(t,a),k⟩,e⟩) h
 refine ⟨(G.map (·.1)).map (·.1),⟨G.map (·.1),[],rfl,?_,fun p hp=> ?_⟩,by simpa using h2,fun t ht=> ?_⟩
 ·rw [List.map_map];exact h1
 ·obtain ⟨q,_,rfl⟩:=List.mem_map.1 hp;exact q.2.1
 ·obtain ⟨q,hq,rfl⟩:=List.mem_map.1 ht
  obtain ⟨q',_,rfl⟩:=List.mem_map.1 hq
  exact q'.2.2
theorem dItems {H:za} {v:AVal} (h:zju H (.sl 72 4 tyItem) [v]): ∃ L:List Itm,Dl zto H v L /\ L.length<4611686018427387904 /\ ∀ t∈L,t.inLen:=by
 obtain ⟨L,h1,h2,h3⟩:=arg_sliceDP (K:=zto) (fun p hp=>dItem hp) h
 exact ⟨L,h1,by unfold reach at h2;omega,h3⟩
end Go.Ab
set_option maxRecDepth 100000
namespace Go.Ab
variable {C:CSem} {N:zN}
theorem itm_getW {h:za} {x:AVal} {L:List Itm} (hx:Dl zto h x L) {i:Nat} {r:Itm} (hr:L[i]? =some r): ∃ p o,V.idxS 4 x (.int .i64 (i:Int))=some (elp 4 x i 0) /\ V.fieldAddr 0 (elp 4 x i 0)=some (elp 4 x i 0) /\
  V.fieldAddr 2 (elp 4 x i 0)=some (elp 4 x i 2) /\ V.fieldAddr 3 (elp 4 x i 0)=some (elp 4 x i 3) /\ A.ldv h (elp 4 x i 0)=some (.str r.Code) /\ A.ldv h (elp 4 x i 2)=some p /\ A.ldv h (elp 4 x i 3)=some o /\
  (∃ R,SlX h 2 p (r.ze5.map Part.cs) R) /\ V.zbj p=some (.int .i64 (r.ze5.length:Int)) /\ (∃ R,SlX h 1 o (r.zen.map tc) R) /\ V.zbj o=some (.int .i64 (r.zen.length:Int)):=by
 obtain ⟨a,ea⟩:=hx.get hr
 obtain ⟨⟨R1,a1⟩,⟨R2,a2⟩⟩:(∃ R,SlX h 2 a.1 (r.ze5.map Part.cs) R) /\ (∃ R,SlX h 1 a.2 (r.zen.map tc) R):=ea.at_
 exact ⟨a.1,a.2,ea.idx,ea.fld 0 0,ea.fld 0 2,ea.fld 0 3,ea.ld 0 (by decide),ea.ld 2 (by decide),ea.ld 3 (by decide),⟨R1,a1⟩,by simpa using a1.zbj,⟨R2,a2⟩,by simpa using a2.zbj⟩
theorem quo20 {a:Nat} (h:a<4611686018427387904):V.bin .quo (.int .i64 (a:Int)) (.int .i64 20)=some (.int .i64 ((a / 20:Nat):Int)):=by
 rw [V.zmr _ _ _ (by omega),show (a:Int).tdiv 20=((a / 20:Nat):Int) from rfl,wrap_i64 (by omega) (by omega)]
theorem litT {h:za} (L:List (List UInt8)) {cs:List AVal} {n:Nat} {K:Nat->za->Prop} (hc:cs=(L.map tc).flatten) (hn:n=L.length) (hK: ∀ i h',Owns h h' [.sl 1 (.sl i 0 0 n 1 n) (L.map tc) []]->K i h'):B.newO h (some cs) K:=
 litO (L.map tc) hc (by intro p hp;obtain ⟨_,_,rfl⟩:=List.mem_map.1 hp;rfl) (by simpa using hn) hK
end Go.Ab
namespace Go.Ab
structure Sta where
 Now:Int
 NextLot:Int
 zr3:Int
 zhg:List Itm
 Lots:List Lot
 zlc:List Line
 deriving DecidableEq
end Go.Ab
namespace Go.Ab
variable {C:CSem} {N:zN}
section
variable {hb h0 h:za} {l:List Ob} {p:AVal} {b:List UInt8} {r:Rdr}
theorem endGet {o:Ob}:(l++[o])[l.length]? =some o:=by simp
theorem endSet {o o':Ob}:(l++[o]).set l.length o'=l++[o']:=by simp
end
end Go.Ab
namespace Go.Ab
variable {C:CSem} {N:zN}
def zb1.Spec (C:CSem) (N:zN):Prop:= ∀ (x:AVal) (L:List (List UInt8)) (R:List (List AVal)) (s:List UInt8) (h:za) (Q:zQ),SlX h 1 x (L.map tc) R->L.length<4611686018427387904 ->
 (∀ n:Int,(0 <= n↔s∈L)->Q (.int .i64 n) h)->C (N 445) [x,.str s] h Q
theorem zb1.spec (i:zb1.Imp C N):zb1.Spec C N:=by
 intro x L R s h Q hx hl hq
 apply i
 have hlx:=hx.zbj
 rw [List.length_map] at hlx
 simp -dsimp only [zb1.cps,zfw.cps,hlx,B.zd]
 refine zg.intro (fun n vs hh=> ∃ k:Nat,k+n=L.length /\ vs=[.int .i64 (k:Int)] /\ hh=h /\ s∉L.take k) L.length ?_ ⟨0,by simp,rfl,rfl,by simp⟩
 rintro Y n vs hh ⟨k,hn,rfl,rfl,hno⟩ hY
 simp -dsimp only [zfw.l2,zfw.k1,lssN,B.zd]
 refine B.zn (fun hc=> ?_) (fun hc=> ?_)
 ·rw [decide_eq_true_eq] at hc
  obtain ⟨w,hw⟩:=zfz hc
  have hk:k<(L.map tc).length:=by simpa using hc
  have e1:A.ldv hh (elp 1 x k 0)=some (.str w):=hx.cell (get_map hw)
  have e2:V.idxS (opsS 16 (.str []) 0).es x (.int .i64 (k:Int))=some (elp 1 x k 0):=hx.idxN hk
  have e3: ∀ (p:AVal) (K:AVal->Prop),(opsS 16 (.str []) 0).ld hh p K=B.pv (A.ldv hh p) K:=fun _ _=>rfl
  simp -dsimp only [e2,e3,e1,B.zd,V.znx]
  refine B.zn (fun hd=> ?_) (fun hd=> ?_)
  ·rw [decide_eq_true_eq] at hd
   subst hd
   exact zbe (hq k ⟨fun _=>List.mem_of_getElem? hw,fun _=>by omega⟩)
  ·rw [decide_eq_false_iff_not] at hd
   simp -dsimp only [add1 (show k<4611686018427387904 by omega),B.zd]
   refine hY (L.length-(k+1)) _ _ (by omega) ⟨k+1,by omega,rfl,rfl,?_⟩
   rw [take_succ hw]
   simp [hno,hd]
 ·rw [decide_eq_false_iff_not] at hc
  have:k=L.length:=by omega
  subst this
  rw [List.take_length] at hno
  exact zbe (hq (-1) ⟨fun h=>by omega,fun h=>absurd h hno⟩)
def zbm.Spec (C:CSem) (N:zN):Prop:= ∀ (x:AVal) (L:List (List UInt8)) (R:List (List AVal)) (s:List UInt8) (h:za) (Q:zQ),SlX h 1 x (L.map tc) R->L.length<4611686018427387904 ->
 Q (.bool (decide (s∈L))) h->C (N 442) [x,.str s] h Q
theorem zbm.spec (i:zbm.Imp C N) (s1:zb1.Spec C N):zbm.Spec C N:=by
 intro x L R s h Q hx hl hq
 apply i
 simp -dsimp only [zbm.cps,zmu.cps]
 refine s1 x L R s h _ hx hl fun n hn=> ?_
 simp -dsimp only [V.zjr,B.zd]
 rw [decide_eq_decide.2 hn]
 exact zbe hq
end Go.Ab
namespace Go.Ab
variable {C:CSem} {N:zN}
structure StaAt (h:za) (s:Sta) (x y z:AVal):Prop where
 items:Dl ze8 h x s.zhg
 lots: ∃ R,SlX h 6 y (s.Lots.map Lot.cs) R
 lines: ∃ R,SlX h 8 z (s.zlc.map Line.cs) R
 n1:s.zhg.length <= 100000000
 n2:s.Lots.length <= 100000000
 n3:s.zlc.length <= 100000000
theorem StaAt.mono {h h':za} {s:Sta} {x y z:AVal} (a:StaAt h s x y z) (hle:h.le h'):StaAt h' s x y z:=
 ⟨a.items.mono hle,a.lots.imp fun _ r=>r.mono hle,a.lines.imp fun _ r=>r.mono hle,a.n1,a.n2,a.n3⟩
abbrev staCs (s:Sta) (x y z:AVal):List AVal:=[.int .i64 s.Now,.int .i64 s.NextLot,.int .i64 s.zr3,x,y,z]
end Go.Ab
namespace Go.Ab
variable {P:Program} {w0:World} {ρ:Locs} {h H:za} {w:World}
theorem zer.at: ∀ {as1:List AVal} {l:List Value},zer ρ as1 l-> ∀ {j:Nat} {a:AVal},as1[j]? =some a-> ∃ u,l[j]? =some u /\ VRel ρ a u
 | [],_,_,j,a,h=>by simp at h
 | x::as1,_,⟨u,us,rfl,h1,h2⟩,0,a,h=>by simp at h;subst h;exact ⟨u,rfl,h1⟩
 | x::as1,_,⟨u,us,rfl,h1,h2⟩,j+1,a,h=>by
  obtain ⟨v,e1,e2⟩:=zer.at h2 (j:=j) (by simpa using h)
  exact ⟨v,by simpa using e1,e2⟩
end Go.Ab
namespace Go.Ab
variable {C:CSem} {N:zN}
theorem Owns.lay {h0 h:za} {l l':List Ob} (ho:Owns h0 h (l++l')): ∃ hb:za,h0.le hb /\ hb.le h /\ Owns hb h l /\ AllAt hb l':=by
 obtain ⟨q1,q2⟩:=(ho.perm List.perm_append_comm).out
 exact ⟨_,q1.le,q2.le,q2,q1.is⟩
end Go.Ab
namespace Go.Ab
variable {C:CSem} {N:zN}
abbrev StaO (s:Sta) (x:AVal) (P:List (Itm×(AVal×AVal))) (y z:AVal):List Ob:= .sl 4 x (P.map ze8.cs) []:: .sl 6 y (s.Lots.map Lot.cs) []:: .sl 8 z (s.zlc.map Line.cs) []::ze8.os false P
end Go.Ab
