/- What is proved: a part of the way to the statement: AdB. No conditions. -/
import Derived.Test.YtlcijlhcilgknaaQ2
set_option linter.unusedVariables false
set_option linter.unusedSimpArgs false
namespace Go.Ab
section
variable {P:Program} {C:CSem} {I:Bx} {ops:List Oper} {E:BEnv} {s' s:zcf} {h' h:za} {β:Nat->Nat}
theorem al_some {v:AVal} {p:Prop} (h:A.al v p):(∃ cs,v= .agg cs) /\ p:=by
 unfold A.al at h
 split at h
 ·exact ⟨⟨_,rfl⟩,h⟩
 ·exact h.elim
theorem okD_of {d:Option Nat} (hd:gNoneD d=true):d=none:=by
 cases d with
 | none=>rfl
 | some _=>cases hd
theorem gNone_of {g:Gd} (hg:gNone g=true):g=none:=by
 cases g with
 | none=>rfl
 | some _=>cases hg
theorem zm5 {ks:List (Operand×TypeId)} (hk:kNone ks=true):ks=[]:=by
 cases ks with
 | nil=>rfl
 | cons _ _=>cases hk
theorem new_sound {o:Oper} {d:Nat} {z:Option (List AVal)} {c:Option AVal} {K:BEnv->zcf->za->Prop} (hR:RelB I s' h' s h β) (hE:zkx I ops E s' s β)
  (hd:o.dst=some d) (hb:memB I.bs d=true) (hlt:d<I.B) (hsh:zcq P ops o s h=Sh.newO z fun id=> .ptr id 0 0) (hc: ∀ v,c=some v-> ∃ cs,v= .agg cs /\ z=some cs) (hen:envB P I ops o E=zj6 ops d E) (hx:newB I ops d c E s' h' K):Goal P C I ops o [] E s h K:=by
 unfold newB at hx
 obtain ⟨v,h1,h2⟩:=zd hx
 obtain ⟨cs,rfl,rfl⟩:=hc v h1
 unfold Goal
 rw [hsh,hd,hen]
 intro id hid
 refine ⟨fun p hp=>(by cases hp),_,h',fun k=>bif Nat.beq k d then id else β k,?_,?_,h2⟩
 ·have hne: ∀ {k cs'},memB I.bs k=true->s' (I.B+k)= .agg cs'->β k≠id:=fun hk hck e=>by
   have:=(hR.bx _ _ hk hck).2.1
   rw [e,hid] at this;cases this
  have hB: ∀ {k},k≠d->putS s' (some (I.B+d)) (.agg cs) (I.B+k)=s' (I.B+k):=fun hk=>zdg _ _ (by omega)
  refine ⟨za.le_trans hR.le (zgm _ hid),fun k hk=> ?_,fun k cs' hk hck=> ?_,fun k e cs1 cs2 hk he hke hc1 hc2=> ?_⟩
  ·have hk':=zgk hk
   rw [zdg _ _ (by omega),zdg]
   ·exact hR.cl k hk
   ·intro e;subst e;rw [hb] at hk';exact absurd hk'.2.1 (by simp)
  ·by_cases e:k=d
   ·subst e
    rw [zgx] at hck ⊢
    cases hck
    simp only [Nat.beq_refl,cond_true]
    refine ⟨trivial,zca ..,?_⟩
    cases e:h' id with
    | none=>rfl
    | some b=>rw [hR.le _ _ e] at hid;cases hid
   ·rw [hB e] at hck
    obtain ⟨k1,k2,k3⟩:=hR.bx k cs' hk hck
    simp only [ziy e,cond_false]
    refine ⟨?_,?_,k3⟩
    ·rw [zdg _ _ e];exact k1
    ·rw [z6 _ _ (hne hk hck)];exact k2
  ·show (bif Nat.beq k d then id else β k)≠bif Nat.beq e d then id else β e
   by_cases e1:k=d
   ·subst e1
    rw [hB (Ne.symm hke)] at hc2
    rw [Nat.beq_refl,ziy (Ne.symm hke)]
    exact (hne he hc2).symm
   ·by_cases e2:e=d
    ·subst e2
     rw [hB e1] at hc1
     rw [Nat.beq_refl,ziy e1]
     exact hne hk hc1
    ·rw [hB e1] at hc1
     rw [hB e2] at hc2
     rw [ziy e1,ziy e2]
     exact hR.ap k e cs1 cs2 hk he hke hc1 hc2
 ·intro e g b off hm
  obtain ⟨k1,k2,k3,k4⟩:=zlf hm
  have a:=hE _ _ _ _ k1
  refine ⟨a.inBs,a.inDs,a.noB,a.lt,?_,?_⟩
  ·rw [zdg _ _ (by omega)];exact a.al
  ·simp only [ziy k3,cond_false]
   rw [zdg _ _ k2]
   rcases a.at_ with e|⟨e,j,x,t,e1,e2,e3⟩
   ·exact .inl e
   ·refine .inr ⟨e,j,x,t,e1,e2,?_⟩
    rw [zdg]
    ·exact e3
    ·intro hh;subst hh;exact k4 j x e1 e2
theorem load_sound {o:Oper} {t:TypeId} {x:Operand} {d off:Nat} {K:BEnv->zcf->za->Prop} (hR:RelB I s' h' s h β) (hE:zkx I ops E s' s β) (ho:o.op= .load t x) (hp:I.place E o.guard x=some (d,off))
  (hd:I.okD o.dst=true) (hG:I.okG ops o.guard=true) (hen:envB P I ops o E=ziv ops o.dst E) {u:TypeDesc} (hu:P.underlying t=some u)
  (hx:A.gdO ops o.guard s' h' (fun K=>A.pv (bif zd1 P t then V.zfg off (P.cellsOf t) (s' (I.B+d)) else V.zd8 off (s' (I.B+d))) fun v=>K v h') fun v h=>K (ziv ops o.dst E) (putS s' o.dst v) h):Goal P C I ops o [] E s h K:=by
 unfold Goal
 rw [hen]
 have fin: ∀ v,K (ziv ops o.dst E) (putS s' o.dst v) h'->(A.keep h (zed P s []) fun v h1=> ∃ s1' h1' β1,RelB I s1' h1' (putS s o.dst v) h1 β1 /\ zkx I ops (ziv ops o.dst E) s1' (putS s o.dst v) β1 /\ K (ziv ops o.dst E) s1' h1') v h:=fun v hk=>
  ⟨fun p hp=>(by cases hp),_,h',β,rel_put hR hd hR.le (Fr.refl h' h),env_kill hE hd,hk⟩
 rcases gd_cases (P:=P) (o:=o) hR hG hx with ⟨k1,k2,k3⟩|⟨k1,k2,k3⟩
 ·obtain ⟨v,h1,h2⟩:=zd k2
  have hb:=zor hE hp
  have hal: ∃ cs,s' (I.B+d)= .agg cs:=by
   cases hs:s' (I.B+d) with
   | agg cs=>exact ⟨cs,rfl⟩
   | _=>rw [hs] at h1;cases hg:zd1 P t<;>rw [hg] at h1<;>simp [V.zfg,V.zd8] at h1
  obtain ⟨cs,hcs⟩:=hal
  have hv:=znq hR hE hp hcs k3
  obtain ⟨_,m2,_⟩:=hR.bx d cs hb hcs
  rw [hcs] at h1
  rw [k1,ho]
  simp only [shOf,hu,hv]
  have e1:A.ldnv h (.ptr (β d) 0 off) (P.cellsOf t)=V.zfg off (P.cellsOf t) (.agg cs):=by
   simp only [A.ldnv,m2,zek,List.lookup,beq_self_eq_true,V.zfg]
  have e2:A.ldv h (.ptr (β d) 0 off)=V.zd8 off (.agg cs):=by
   simp only [A.ldv,m2,zek,List.lookup,beq_self_eq_true,V.zd8]
   split
   ·rfl
   ·rw [List.getElem?_eq_none (by omega)]
  rw [e1,e2]
  have:(bif zd1 P t then Sh.pv (V.zfg off (P.cellsOf t) (.agg cs)) else Sh.pv (V.zd8 off (.agg cs)))= .val v:=by
   cases hg:zd1 P t<;>rw [hg] at h1<;>simp only [cond_true,cond_false] at h1 ⊢ <;>rw [h1]<;>rfl
  rw [this]
  exact fin v h2
 ·rw [k1];exact fin _ k2
theorem put1_len {off:Nat} {v:AVal} {cs cs':List AVal} (h:V.put1 off v cs=some cs'):off<cs.length /\ cs'.length=cs.length:=by
 unfold V.put1 at h
 cases hv:v.zdd with
 | false=>rw [hv] at h;cases h
 | true=>
  rw [hv] at h
  simp only [cond_true] at h
  split at h
  ·rename_i hlt;cases h;exact ⟨hlt,by simp⟩
  ·cases h
theorem putN_len {off n:Nat} {v:AVal} {cs cs':List AVal} (h:V.putN off n v cs=some cs'):off+n <= cs.length /\ cs'.length=cs.length:=by
 unfold V.putN at h
 split at h
 ·split at h
  ·rename_i hh;cases h;exact ⟨hh.2,by simp;omega⟩
  ·cases h
 ·cases h
theorem sh_st_blk {id off n:Nat} {cs cs':List AVal} {f:List AVal->Option (List AVal)} (hb:h id=some (zek cs)) (hf:f cs=some cs') (hle:off+n <= cs.length) (hl:cs'.length=cs.length):
  Sh.st h (.ptr id 0 off) f n 0 .undef= .heap id (zek cs') .undef:=by
 have h1:Nat.ble (0+off+n) cs.length=true:=by rw [Nat.ble_eq];omega
 simp only [Sh.st,hb,zek,List.lookup,beq_self_eq_true,Bool.true_and,h1,cond_true,hf,hl]
theorem zm3 {d:Nat} (hR:RelB I s' h' s h β) (hE:zkx I ops E s' s β): ∀ (ks:List (Operand×TypeId)) (p:Prop),zjp I E d s' ks p ->
  p /\ ∀ q∈ks,∃ d' off' cs2,memB I.bs d'=true /\ d'≠d /\ s' (I.B+d')= .agg cs2 /\ evS s q.1= .ptr (β d') 0 off'
 | [],p,hx=>⟨hx,fun _ h=>(by cases h)⟩
 | (x,ty)::r,p,hx=>by
  simp only [zjp] at hx
  split at hx
  ·rename_i d' off' hpl
   cases he:Nat.beq d' d with
   | true=>rw [he] at hx;exact hx.elim
   | false=>
    rw [he] at hx
    obtain ⟨⟨cs2,hcs2⟩,hx⟩:=al_some hx
    obtain ⟨k1,k2⟩:=zm3 hR hE r p hx
    refine ⟨k1,fun q hq=> ?_⟩
    rcases List.mem_cons.1 hq with rfl|hq
    ·exact ⟨d',off',cs2,zor hE hpl,(fun e=>by rw [e,Nat.beq_refl] at he;cases he),hcs2,place_any hR hE hpl hcs2⟩
    ·exact k2 q hq
  ·exact hx.elim
theorem store_sound' {o:Oper} {t:TypeId} {x y:Operand} {d off:Nat} {ks:List (Operand×TypeId)} {K:BEnv->zcf->za->Prop} (hR:RelB I s' h' s h β) (hE:zkx I ops E s' s β) (ho:o.op= .store t x y) (hg:o.guard=none) (hp:I.place E none x=some (d,off))
  (hy:I.okO y=true) (hd:o.dst=none) (hen:envB P I ops o E=E)
  (hx:zjp I E d s' ks (bif zd1 P t then A.pv (V.setN off (P.cellsOf t) (evS s' y) (s' (I.B+d))) fun c=>K E (putS s' (some (I.B+d)) c) h'
    else bif Nat.beq (P.cellsOf t) 1 then A.pv (V.setF off (evS s' y) (s' (I.B+d))) fun c=>K E (putS s' (some (I.B+d)) c) h' else False)):Goal P C I ops o ks E s h K:=by
 have hb:=zor hE hp
 obtain ⟨hx,hkk⟩:=zm3 hR hE ks _ hx
 have hal: ∃ cs cs',s' (I.B+d)= .agg cs /\ cs'.length=cs.length /\ K E (putS s' (some (I.B+d)) (.agg cs')) h' /\ (evS s x= .ptr (β d) 0 off->h (β d)=some (zek cs)->zcq P ops o s h= .heap (β d) (zek cs') .undef):=by
  rw [zi7 hR hy] at hx
  have hst:zcq P ops o s h=shOf P o.op (evS s) h:=by unfold zcq;rw [hg]
  rw [hst,ho]
  cases hA:zd1 P t with
  | true=>
   rw [hA] at hx
   obtain ⟨c,h1,h2⟩:=zd hx
   cases hs:s' (I.B+d)<;>rw [hs] at h1<;>(try (simp [V.setN] at h1;done))
   rename_i cs
   simp only [V.setN] at h1
   split at h1<;>(try (cases h1;done))
   rename_i cs' hput
   cases h1
   obtain ⟨l1,l2⟩:=putN_len hput
   refine ⟨cs,cs',rfl,l2,h2,fun hv hbk=> ?_⟩
   simp only [shOf,hA,cond_true,hv,A.zn9]
   exact sh_st_blk hbk hput l1 l2
  | false=>
   rw [hA] at hx
   simp only [cond_false] at hx
   cases h1c:Nat.beq (P.cellsOf t) 1 with
   | false=>rw [h1c] at hx;exact hx.elim
   | true=>
    rw [h1c] at hx
    obtain ⟨c,h1,h2⟩:=zd hx
    cases hs:s' (I.B+d)<;>rw [hs] at h1<;>(try (simp [V.setF] at h1;done))
    rename_i cs
    simp only [V.setF] at h1
    split at h1<;>(try (cases h1;done))
    rename_i cs' hput
    cases h1
    obtain ⟨l1,l2⟩:=put1_len hput
    refine ⟨cs,cs',rfl,l2,h2,fun hv hbk=> ?_⟩
    simp only [shOf,hA,h1c,cond_true,cond_false,hv,A.zn9]
    exact sh_st_blk hbk hput (by omega) l2
 obtain ⟨cs,cs',hcs,hl,hK,hsh⟩:=hal
 have hv:=place_any hR hE hp hcs
 obtain ⟨m1,m2,m3⟩:=hR.bx d cs hb hcs
 unfold Goal
 rw [hsh hv m2,hd,hen]
 refine ⟨fun p hp'=> ?_,_,h',β,?_,?_,hK⟩
 ·simp only [zed,List.mem_map] at hp'
  obtain ⟨q,hq,rfl⟩:=hp'
  obtain ⟨d',off',cs2,n1,n2,n3,n4⟩:=hkk q hq
  rw [n4]
  exact sameAt_of (id:=β d') (.inr ⟨off',rfl⟩) (z6 _ _ (hR.ap d' d cs2 cs n1 hb n2 n3 hcs))
 ·have hB: ∀ {k},k≠d->putS s' (some (I.B+d)) (.agg cs') (I.B+k)=s' (I.B+k):=fun hk=>zdg _ _ (by omega)
  have hag: ∀ {k cs1},putS s' (some (I.B+d)) (.agg cs') (I.B+k)= .agg cs1-> ∃ cs2,s' (I.B+k)= .agg cs2:=fun {k cs1} hk=>by
   by_cases e:k=d
   ·subst e;exact ⟨cs,hcs⟩
   ·rw [hB e] at hk;exact ⟨cs1,hk⟩
  refine ⟨fun id b hb1=> ?_,fun k hk=> ?_,fun k cs1 hk hck=> ?_,fun k e cs1 cs2 hk he hke hc1 hc2=> ?_⟩
  ·rw [z6]
   ·exact hR.le id b hb1
   ·intro e;subst e;rw [m3] at hb1;cases hb1
  ·have:=zgk hk
   rw [zdg _ _ (by omega)];exact hR.cl k hk
  ·by_cases e:k=d
   ·subst e
    rw [zgx] at hck
    cases hck
    exact ⟨m1,zca ..,m3⟩
   ·rw [hB e] at hck
    obtain ⟨k1,k2,k3⟩:=hR.bx k cs1 hk hck
    exact ⟨k1,by rw [z6 _ _ (hR.ap k d cs1 cs hk hb e hck hcs)];exact k2,k3⟩
  ·obtain ⟨a,ha⟩:=hag hc1
   obtain ⟨b,hb2⟩:=hag hc2
   exact hR.ap k e a b hk he hke ha hb2
 ·intro e g b off' hm
  have a:=hE _ _ _ _ hm
  refine ⟨a.inBs,a.inDs,a.noB,a.lt,?_,a.at_⟩
  by_cases e':b=d
  ·subst e';exact ⟨cs',zgx ..⟩
  ·rw [zdg _ _ (by omega)];exact a.al
theorem der_sound {o:Oper} {x:Operand} {d off off':Nat} {K:BEnv->zcf->za->Prop} (hR:RelB I s' h' s h β) (hE:zkx I ops E s' s β) (hp:I.place E o.guard x=some (d,off))
  (hsh:evS s x= .ptr (β d) 0 off->shOf P o.op (evS s) h= .val (.ptr (β d) 0 off')) (hok:chkD I ops o []=true) (hen: ∀ e,o.dst=some e->envB P I ops o E=(e,o.guard,d,off')::zj6 ops e E) (hx:derB I ops o d off' E s' h' K):Goal P C I ops o [] E s h K:=by
 unfold derB at hx
 cases hd:o.dst with
 | none=>rw [hd] at hx;exact hx.elim
 | some e=>
  rw [hd] at hx
  simp only at hx
  simp only [chkD,hd,kNone,Bool.true_and,Bool.and_eq_true,Bool.not_eq_true',Nat.blt_eq] at hok
  obtain ⟨o1,o2,o3,hG⟩:=hok
  obtain ⟨⟨cs,hcs⟩,hx⟩:=al_some hx
  have hb:=zor hE hp
  have heB:e<I.B:=o3
  have hrel: ∀ v,RelB I (putS s' (some e) .undef) h' (putS s (some e) v) h β:=fun v=>by
   have hcl: ∀ k,I.clean k=true->k≠e:=fun k hk he=>by
    subst he
    have:=zgk hk
    rw [o1] at this;exact absurd this.2.2 (by simp)
   have hBs: ∀ k,memB I.bs k=true->k≠e:=fun k hk he=>by subst he;rw [o2] at hk;cases hk
   have hB: ∀ k,putS s' (some e) .undef (I.B+k)=s' (I.B+k):=fun k=>zdg _ _ (by omega)
   refine ⟨hR.le,fun k hk=> ?_,fun k cs1 hk hck=> ?_,fun k e' cs1 cs2 hk he hke hc1 hc2=> ?_⟩
   ·rw [zdg _ _ (hcl k hk),zdg _ _ (hcl k hk)];exact hR.cl k hk
   ·rw [hB] at hck
    rw [zdg _ _ (hBs k hk)];exact hR.bx k cs1 hk hck
   ·rw [hB] at hc1 hc2
    exact hR.ap k e' cs1 cs2 hk he hke hc1 hc2
  have henv: ∀ v,(v= .ptr (β d) 0 off' \/ (v= .tup [] /\ NotHeld ops (putS s (some e) v) o.guard))->zkx I ops ((e,o.guard,d,off')::zj6 ops e E) (putS s' (some e) .undef) (putS s (some e) v) β:=fun v hv=>by
   intro e' g b o' hm
   rcases List.mem_cons.1 hm with hm|hm
   ·cases hm
    refine ⟨hb,o1,o2,heB,⟨cs,?_⟩,?_⟩
    ·rw [zdg _ _ (by omega)];exact hcs
    ·rw [zgx]
     rcases hv with hv|hv
     ·exact .inl hv
     ·exact .inr hv
   ·obtain ⟨k1,k2,k3,k4⟩:=zlf hm
    have a:=hE _ _ _ _ k1
    refine ⟨a.inBs,a.inDs,a.noB,a.lt,?_,?_⟩
    ·rw [zdg _ _ (by omega)];exact a.al
    ·rw [zdg _ _ k2]
     rcases a.at_ with e'|⟨e',j,x,t,e1,e2,e3⟩
     ·exact .inl e'
     ·refine .inr ⟨e',j,x,t,e1,e2,?_⟩
      rw [zdg]
      ·exact e3
      ·intro hh;subst hh;exact k4 j x e1 e2
  unfold Goal
  rw [hen e hd]
  rcases gd_cases (P:=P) (o:=o) hR hG hx with ⟨k1,k2,k3⟩|⟨k1,k2,k3⟩
  ·rw [k1,hsh (znq hR hE hp hcs k3),hd]
   exact ⟨fun p hp=>(by cases hp),_,h',β,hrel _,henv _ (.inl rfl),k2⟩
  ·rw [k1,hd]
   refine ⟨fun p hp=>(by cases hp),_,h',β,hrel _,henv _ (.inr ⟨rfl,?_⟩),k2⟩
   obtain ⟨j,x,t,e1,e2,e3⟩:=k3
   refine ⟨j,x,t,e1,e2,?_⟩
   rw [zdg]
   ·exact e3
   ·intro he
    subst he
    rw [e1] at hG
    simp only [Bx.okG,e2] at hG
    have:=zgk hG
    rw [o1] at this;exact absurd this.2.2 (by simp)
theorem zo5 (hC:CGood C) {o:Oper} {ks:List (Operand×TypeId)} {K:BEnv->zcf->za->Prop} (hR:RelB I s' h' s h β) (hE:zkx I ops E s' s β) (hk:chkS I ops o ks E=true) (hx:stepB P C I ops o ks E s' h' K):Goal P C I ops o ks E s h K:=by
 have gen:chkG I ops o=true->envB P I ops o E=ziv ops o.dst E->genB P C I ops o ks E s' h' K->Goal P C I ops o ks E s h K:=gen_sound hC hR hE
 have sh0:o.guard=none->zcq P ops o s h=shOf P o.op (evS s) h:=fun hg=>by unfold zcq;rw [hg]
 unfold stepB at hx
 unfold chkS at hk
 split at hx
 ·rename_i t ho
  simp only [ho] at hk
  cases hd:o.dst with
  | none=>simp only [hd] at hx hk;exact gen hk (by simp only [envB,ho,hd]) hx
  | some d=>
   simp only [hd] at hx hk
   cases hb:memB I.bs d with
   | false=>simp only [hb,cond_false] at hx hk;exact gen hk (by simp only [envB,ho,hd,hb,cond_false]) hx
   | true=>
    simp only [hb,cond_true,Bool.and_eq_true,Nat.blt_eq] at hx hk
    have hks:=zm5 hk.2.1
    subst hks
    refine new_sound (z:=zeroOf P t) hR hE hd hb hk.2.2 ?_ (fun v hv=> ?_) (by simp only [envB,ho,hd,hb,cond_true]) hx
    ·rw [sh0 (gNone_of hk.1),ho];rfl
    ·unfold zpr at hv
     split at hv
     ·rename_i cs hz;cases hv;exact ⟨cs,rfl,hz⟩
     ·cases hv
 ·rename_i t x ho
  simp only [ho] at hk
  cases hd:o.dst with
  | none=>simp only [hd] at hx hk;exact gen hk (by simp only [envB,ho,hd]) hx
  | some d=>
   simp only [hd] at hx hk
   cases hb:memB I.bs d with
   | false=>simp only [hb,cond_false] at hx hk;exact gen hk (by simp only [envB,ho,hd,hb,cond_false]) hx
   | true=>
    simp only [hb,cond_true,Bool.and_eq_true,Nat.blt_eq] at hx hk
    have hks:=zm5 hk.2.1
    subst hks
    rw [zi7 hR hk.2.2.2] at hx
    refine new_sound (z:=bif zd1 P t then A.znh (P.cellsOf t) (evS s x) else A.zrh (evS s x)) hR hE hd hb hk.2.2.1 ?_ (fun v hv=> ?_) (by simp only [envB,ho,hd,hb,cond_true]) hx
    ·rw [sh0 (gNone_of hk.1),ho];rfl
    ·cases hA:zd1 P t with
     | true=>
      rw [hA] at hv
      simp only [cond_true] at hv ⊢
      unfold A.boxN at hv
      split at hv
      ·rename_i cs hc
       split at hv
       ·rename_i hl
        cases hv
        exact ⟨cs,rfl,by rw [hc];simp only [A.znh,hl,if_true]⟩
       ·cases hv
      ·cases hv
     | false=>
      rw [hA] at hv
      simp only [cond_false,A.box1,A.zrh] at hv ⊢
      cases hc:(evS s x).zdd with
      | true=>rw [hc] at hv;cases hv;exact ⟨_,rfl,rfl⟩
      | false=>rw [hc] at hv;cases hv
 ·rename_i t x ho
  simp only [ho] at hk
  split at hx
  ·rename_i d off hp
   simp only [hp,Bool.and_eq_true] at hk
   have hks:=zm5 hk.1
   subst hks
   split at hx
   ·exact hx.elim
   ·rename_i u hu
    exact load_sound hR hE ho hp hk.2.1 hk.2.2 (by simp only [envB,ho]) hu hx
  ·rename_i hp
   simp only [hp] at hk
   exact gen hk (by simp only [envB,ho]) hx
 ·rename_i t x y ho
  simp only [ho] at hk
  split at hx
  ·rename_i d off hp
   simp only [hp,Bool.and_eq_true] at hk
   have hg:=gNone_of hk.1
   refine store_sound' hR hE ho hg (by rw [<- hg];exact hp) hk.2.1 (okD_of hk.2.2) (by simp only [envB,ho,hp]) hx
  ·rename_i hp
   simp only [hp] at hk
   exact gen hk (by simp only [envB,ho,hp]) hx
 ·rename_i t x f ho
  simp only [ho] at hk
  split at hx
  ·rename_i d off hp
   simp only [hp] at hk
   have hks:ks=[]:=by
    simp only [chkD,Bool.and_eq_true] at hk
    exact zm5 hk.1
   subst hks
   split at hx<;>(try exact hx.elim)
   rename_i fs hu
   split at hx<;>(try exact hx.elim)
   rename_i fd hfd
   cases hz:Nat.beq (P.cellsOf fd.type) 0 with
   | true=>rw [hz] at hx;exact hx.elim
   | false=>
    rw [hz] at hx
    refine der_sound hR hE hp (fun hv=> ?_) hk (fun e hd=>by simp only [envB,ho,hp,hu,hfd,hd]) hx
    rw [ho]
    simp only [shOf,hu,hfd,hz,cond_false,hv,V.fieldAddr,Sh.pv]
  ·rename_i hp
   simp only [hp] at hk
   exact gen hk (by simp only [envB,ho,hp]) hx
 ·rename_i x ho
  simp only [ho] at hk
  split at hx
  ·rename_i d off hp
   simp only [hp] at hk
   have hks:ks=[]:=by
    simp only [chkD,Bool.and_eq_true] at hk
    exact zm5 hk.1
   subst hks
   refine der_sound hR hE hp (fun hv=> ?_) hk (fun e hd=>by simp only [envB,ho,hp,hd]) hx
   rw [ho]
   simp only [shOf,hv,Sh.nilCheck]
  ·rename_i hp
   simp only [hp] at hk
   exact gen hk (by simp only [envB,ho,hp]) hx
 ·rename_i n1 n2 n3 n4 n5 n6
  cases ho:o.op<;>(try (simp only [ho] at hk;exact gen hk (by simp only [envB,ho]) hx))<;>simp_all
def Back (I:Bx) (Q:zcf->za->Prop):zcf->za->Prop:=fun s h=> ∃ s' h' β,RelB I s' h' s h β /\ Q s' h'
theorem zq1 (hC:CGood C) {Q:zcf->za->Prop}: ∀ (l:List Oper) {E:BEnv} {s' s:zcf} {h' h:za} {β:Nat->Nat},RelB I s' h' s h β->zkx I ops E s' s β->chkO P I ops (plain l) E=true->opsB P C I ops (plain l) Q E s' h'->opsWp P C ops l (Back I Q) s h
 | [],_,_,_,_,_,β,hR,_,_,hx=>⟨_,_,β,hR,hx⟩
 | o::r,_,_,_,_,_,_,hR,hE,hk,hx=>zjx.2 (zgf hC.mono (fun _ _ ⟨_,_,_,_,k1,k2,k3⟩=>zq1 hC r k1 k2 (Bool.and_eq_true_iff.1 hk).2 k3) (zo5 hC hR hE (Bool.and_eq_true_iff.1 hk).1 hx))
theorem zq2 (hC:CGood C) {Q:zcf->za->Prop}: ∀ (l:List (Item×List (Operand×TypeId))) {E:BEnv} {s' s:zcf} {h' h:za} {β:Nat->Nat},RelB I s' h' s h β->zkx I ops E s' s β->chkO P I ops (drawn l) E=true->opsB P C I ops (drawn l) Q E s' h'->zfl P C ops l (Back I Q) s h
 | [],_,_,_,_,_,β,hR,_,_,hx=>⟨_,_,β,hR,hx⟩
 | (t,ks)::r,_,_,_,_,_,_,hR,hE,hk,hx=>(znk hC.mono).2 (zgf hC.mono (fun _ _ ⟨k0,_,_,_,k1,k2,k3⟩=>⟨k0,zq2 hC r k1 k2 (Bool.and_eq_true_iff.1 hk).2 k3⟩) (zo5 hC hR hE (Bool.and_eq_true_iff.1 hk).1 hx))
end
theorem zmj: ∀ {a b:List Nat},natsEq a b=true->a=b
 | [],[],_=>rfl
 | x::r,y::s,h=>by
  simp only [natsEq,Bool.and_eq_true] at h
  rw [zpx h.1,zmj h.2]
 | [],_::_,h=>by cases h
 | _::_,[],h=>by cases h
theorem zoa: ∀ {a b:List (List Nat)},natssEq a b=true->a=b
 | [],[],_=>rfl
 | x::r,y::s,h=>by
  simp only [natssEq,Bool.and_eq_true] at h
  rw [zmj h.1,zoa h.2]
 | [],_::_,h=>by cases h
 | _::_,[],h=>by cases h
theorem opAt_item {P:Program} {ops:Array Oper} {t:Item} (ht:t∈items P ops.toList):opAt ops.toList t.i=t.o:=by
 have:=(zp6 ht).1
 unfold opAt
 rw [show ops.toList[t.i]? =some t.o by simpa using this];rfl
theorem keeps_lit {P:Program} {ops:Array Oper} {y:Item}: ∀ {l:List Item},(∀ t∈l,t∈items P ops.toList)->zja l y=znw ops.toList (keepsI l y)
 | [],_=>rfl
 | x::r,h=>by
  have ih:=keeps_lit (y:=y) (l:=r) (fun t ht=>h t (List.mem_cons_of_mem _ ht))
  have hx:=opAt_item (h x (List.mem_cons_self ..))
  simp only [zja,keepsI]
  rw [ih]
  cases ho:x.o.op<;>(try rfl)
  simp only
  cases y.m.testBit x.i with
  | true=>rfl
  | false=>simp only [cond_false,List.singleton_append,znw,hx,ho]
theorem drawn_lit {P:Program} {ops:Array Oper}: ∀ (p seen:List Item),(∀ t∈seen,t∈items P ops.toList)->(∀ t∈p,t∈items P ops.toList)-> ∀ pl:List (Nat×List Nat),p.map (fun t=>t.i)=pl.map (fun q=>q.1)->zla seen p=pl.map (fun q=>q.2) ->
  drawn (zfa seen p)=litOf ops.toList pl
 | [],_,_,_,[],_,_=>rfl
 | [],_,_,_,_::_,h,_=>by simp at h
 | _::_,_,_,_,[],h,_=>by simp at h
 | y::r,seen,hs,hp,(i,js)::pl,h1,h2=>by
  simp only [List.map_cons,List.cons.injEq,zla] at h1 h2
  have ih:=drawn_lit r (seen++[y]) (fun t ht=>by
   rcases List.mem_append.1 ht with ht|ht
   ·exact hs t ht
   ·rw [List.mem_singleton.1 ht];exact hp y (List.mem_cons_self ..)) (fun t ht=>hp t (List.mem_cons_of_mem _ ht)) pl h1.2 h2.2
  have hy:=opAt_item (hp y (List.mem_cons_self ..))
  show (y.o,bif y.k.zhs then zja seen y else [])::drawn (zfa (seen++[y]) r)=(opAt ops.toList i,znw ops.toList js)::litOf ops.toList pl
  rw [ih, <- h1.1,hy, <- h2.1,keeps_lit hs]
  cases y.k.zhs<;>rfl
theorem planLit_spec {P:Program} {ops:Array Oper} {pl:List (Nat×List Nat)} (h:planLit P ops pl=true): ∃ l,plan P ops=some l /\ drawn l=litOf ops.toList pl:=by
 unfold planLit at h
 split at h
 ·rename_i l hp
  refine ⟨l,hp,?_⟩
  simp only [Bool.and_eq_true] at h
  obtain ⟨p,rfl,_,hm⟩:=plan_items hp
  have e1:=zmj h.1
  have e2:=zoa h.2
  have em:(zfa [] p).map (fun t=>t.1)=p:=zhi [] p
  rw [em] at e2
  refine drawn_lit p [] (fun _ h=>by cases h) hm pl ?_ e2
  rw [<- e1]
  conv=>lhs;rw [<- em]
  rw [List.map_map];rfl
 ·cases h
def BackE (I:Bx) (Q:Ex->zcf->za->Prop):Ex->zcf->za->Prop:=fun e=>Back I (Q e)
theorem memB_mem: ∀ {l:List Nat} {k:Nat},memB l k=true->k∈l
 | [],_,h=>by cases h
 | x::r,k,h=>by
  simp only [memB] at h
  cases e:Nat.beq x k with
  | true=>rw [Nat.eq_of_beq_eq_true e];exact List.mem_cons_self ..
  | false=>rw [e] at h;exact List.mem_cons_of_mem _ (memB_mem h)
theorem zpa {k:Nat}: ∀ {ps:List Nat} {xs:List AVal} {s:zcf},(∀ p∈ps,k≠p)->zpb ps xs s k=s k
 | [],[],_,_=>rfl
 | [],_::_,_,_=>rfl
 | _::_,[],_,_=>rfl
 | p::ps,x::xs,s,h=>by
  show zpb ps xs (putS s (some p) x) k=s k
  rw [zpa fun q hq=>h q (by simp [hq]),zdg _ _ (h p (by simp))]
theorem zg0 {P:Program} {C:CSem} {I:Bx} (hC:CGood C): ∀ (c:Code),chkC P I c=true-> ∀ {Q:Ex->zcf->za->Prop} {s' s:zcf} {h' h:za} {β:Nat->Nat},RelB I s' h' s h β->bwp P C I c Q s' h'->awp P C c (BackE I Q) s h
 | .skip,_,_,_,_,_,_,β,hR,x=>⟨_,_,β,hR,x⟩
 | .ret,_,_,_,_,_,_,β,hR,x=>⟨_,_,β,hR,x⟩
 | .exit _,_,_,_,_,_,_,β,hR,x=>⟨_,_,β,hR,x⟩
 | .region _ ops false,hk,_,_,_,_,_,_,hR,x=>zq1 hC ops.toList hR (fun _ _ _ _ h=>(by cases h)) hk x
 | .region k ops true,hk,Q,s',s,h',h,β,hR,x=>by
  simp only [bwp] at x
  simp only [chkC] at hk
  simp only [awp]
  split at x
  ·rename_i pl hp
   simp only [hp,Bool.and_eq_true] at hk
   obtain ⟨l,h2,h3⟩:=planLit_spec hk.1
   have hk2:=hk.2
   rw [<- h3] at x hk2
   simp only [h2]
   exact zq2 hC _ hR (fun _ _ _ _ h=>(by cases h)) hk2 x
  ·exact x.elim
 | .seq a b,hk,Q,s',s,h',h,β,hR,x=>by
  simp only [chkC,Bool.and_eq_true] at hk
  refine zgl hC.mono a (fun e s h ⟨s',h',β,k1,k2⟩=> ?_) (zg0 hC a hk.1 hR x)
  cases e with
  | normal=>exact zg0 hC b hk.2 k1 k2
  | exit _=>exact ⟨s',h',β,k1,k2⟩
  | ret=>exact ⟨s',h',β,k1,k2⟩
 | .cond c a b,hk,Q,s',s,h',h,β,hR,x=>by
  simp only [chkC,Bool.and_eq_true] at hk
  simp only [bwp] at x
  rw [zi7 hR hk.1] at x
  simp only [awp,A.cond] at x ⊢
  split at x
  ·exact ⟨fun e=>zg0 hC a hk.2.1 hR (x.1 e),fun e=>zg0 hC b hk.2.2 hR (x.2 e)⟩
  ·exact x.elim
 | .scope b,hk,Q,s',s,h',h,β,hR,x=>zg0 hC b hk hR x
 | .label _,hk,Q,s',s,h',h,β,hR,x=>⟨s',h',β,hR,x⟩
 | .block id b,hk,Q,s',s,h',h,β,hR,x=>zgl hC.mono b (fun e s h ⟨s',h',β,k1,k2⟩=>by
   cases e with
   | normal=>exact ⟨s',h',β,k1,k2⟩
   | ret=>exact ⟨s',h',β,k1,k2⟩
   | exit j=>
    simp only [Ex.inBlock] at k2 ⊢
    cases hj:Nat.beq j id with
    | true=>rw [hj] at k2;exact ⟨s',h',β,k1,k2⟩
    | false=>rw [hj] at k2;exact ⟨s',h',β,k1,k2⟩) (zg0 hC b hk hR x)
 | .loop c,hk,Q,s',s,h',h,β,hR,x=>fun X hX=>by
  refine x (fun s' h'=> ∀ s h β,RelB I s' h' s h β->X s h) (fun s1' h1' y s1 h1 β1 hR1=>hX s1 h1 ?_) s h β hR
  refine zgl hC.mono c (fun e s h ⟨s',h',β,k1,k2⟩=> ?_) (zg0 hC c hk hR1 y)
  cases e with
  | normal=>exact k2 s h β k1
  | exit _=>exact ⟨s',h',β,k1,k2⟩
  | ret=>exact ⟨s',h',β,k1,k2⟩
 | .rangeFunc g ps a b,hk,Q,s',s,h',h,β,hR,x=>fun sz id hid hround=>by
  simp only [chkC,Bool.and_eq_true] at hk
  obtain ⟨⟨hg,hL,hps⟩,ka,kb⟩:=hk
  have hcut:cutS (cutL ps.toList a b) s'=cutS (cutL ps.toList a b) s:=by
   funext k
   unfold cutS
   cases hm:memB (cutL ps.toList a b) k with
   | false=>rfl
   | true=>exact hR.cl k (List.all_eq_true.1 hL k (memB_mem hm))
  have hid':h' id=none:=by
   cases e:h' id with
   | none=>rfl
   | some c=>rw [hR.le _ _ e] at hid;cases hid
  have y:=x sz id hid' fun xs h1 Ky hh1 ⟨hlen,w⟩=>by
   rw [hcut] at w ⊢
   refine hround xs h1 Ky hh1 ⟨hlen,?_⟩
   have h0: ∀ d cs,zpb ps.toList xs (cutS (cutL ps.toList a b) s) (I.B+d)≠ .agg cs:=fun d cs e=>by
    rw [zpa fun p hp=>by have:=(zgk (List.all_eq_true.1 hps p hp)).1;omega] at e
    unfold cutS at e
    cases hm:memB (cutL ps.toList a b) (I.B+d) with
    | false=>rw [hm] at e;cases e
    | true=>have:=(zgk (List.all_eq_true.1 hL _ (memB_mem hm))).1;omega
   have hR1:RelB I (zpb ps.toList xs (cutS (cutL ps.toList a b) s)) h1 (zpb ps.toList xs (cutS (cutL ps.toList a b) s)) h1 (fun k=>k):=
    ⟨za.le_refl h1,fun _ _=>rfl,fun d cs _ e=>absurd e (h0 d cs),fun d e cs cs' _ _ _ hc _=>absurd hc (h0 d cs)⟩
   refine zgl hC.mono a (fun e s2 h2 ⟨s2',h2',β2,k1,k2⟩=> ?_) (zg0 hC a ka hR1 w)
   cases e with
   | normal=>
    refine zgl hC.mono b (fun e s3 h3 ⟨s3',h3',β3,k3,k4⟩=> ?_) (zg0 hC b kb k1 k2)
    obtain ⟨h4,l4,k5⟩:=k4
    exact ⟨h4,za.le_trans l4 k3.le,k5⟩
   | exit _=>exact k2
   | ret=>exact k2
  rw [zi7 hR hg,hcut] at y
  revert y
  split
  ·intro y
   refine hC.mono _ _ _ _ _ (fun v h1 ⟨h1',⟨j,h4',m1,m2,m3⟩,l1,f1⟩=> ?_) (hC.frame _ _ _ _ _ (zhj _ hR.le) y)
   have hj:h1 id=some (zi9 sz (cutS (cutL ps.toList a b) s) ps a b j):=l1 _ _ (m2 _ _ (zca ..))
   have h4le: ∀ i c,h4' i=some c->i≠id /\ h1' i=some c:=fun i c hc=>by
    have:i≠id:=fun e=>by subst e;rw [m1] at hc;cases hc
    exact ⟨this,m2 i c (by rw [z6 _ _ this];exact hc)⟩
   refine ⟨j,erase h1 id,erase_same h1 id,upd_erase_le hj,s',h4',β,⟨fun i c hc=> ?_,hR.cl,fun d cs hb hc=> ?_,hR.ap⟩,m3⟩
   ·obtain ⟨n1,n2⟩:=h4le i c hc
    rw [zmp _ n1];exact l1 i c n2
   ·obtain ⟨u1,u2,u3⟩:=hR.bx d cs hb hc
    have n1:β d≠id:=fun e=>by rw [e,hid] at u2;cases u2
    obtain ⟨u4,u5⟩:=f1 (β d) (by rw [z6 _ _ n1];exact u3) _ (by rw [z6 _ _ n1];exact u2)
    refine ⟨u1,by rw [zmp _ n1];exact u4,?_⟩
    cases e:h4' (β d) with
    | none=>rfl
    | some c=>rw [(h4le _ _ e).2] at u5;cases u5
  ·exact fun y=>y
 | .goto _,_,_,_,_,_,_,_,_,x=>x.elim
 | .refuse _,_,_,_,_,_,_,_,_,x=>x.elim
theorem zno {P:Program} {I:Bx} {s' s:zcf} {h' h:za} {β:Nat->Nat} (hR:RelB I s' h' s h β): ∀ (rs:List ResultVar) (l:List AVal),resB P I h' s' rs=some l->resS P h s rs=some l
 | [],l,e=>e
 | .tmp t::r,l,e=>by
  simp only [resB] at e
  cases hc:I.clean t with
  | false=>rw [hc] at e;cases e
  | true=>
   rw [hc,cond_true,hR.cl t hc] at e
   simp only [resS]
   cases hr:resB P I h' s' r with
   | none=>rw [hr] at e;simp [zlv] at e
   | some l'=>rw [hr] at e;rw [zno hR r l' hr];exact e
 | .cell t ty::r,l,e=>by
  simp only [resB] at e
  simp only [resS]
  have go: ∀ o o',(∀ v,o=some v->o'=some v)->zlv o (resB P I h' s' r)=some l->zlv o' (resS P h s r)=some l:=fun o o' ho e=>by
   cases hr:resB P I h' s' r with
   | none=>rw [hr] at e;cases o<;>simp [zlv] at e
   | some l'=>
    rw [hr] at e
    cases o with
    | none=>simp [zlv] at e
    | some v=>rw [ho v rfl,zno hR r l' hr];exact e
  cases hb:memB I.bs t with
  | true=>
   rw [hb,cond_true] at e
   split at e
   ·cases e
   ·rename_i u hu
    refine go _ _ (fun v hv=> ?_) e
    have hal: ∃ cs,s' (I.B+t)= .agg cs:=by
     cases hs:s' (I.B+t) with
     | agg cs=>exact ⟨cs,rfl⟩
     | _=>rw [hs] at hv;cases hg:zd1 P ty<;>rw [hg] at hv<;>simp [V.zfg,V.zd8] at hv
    obtain ⟨cs,hcs⟩:=hal
    obtain ⟨m1,m2,_⟩:=hR.bx t cs hb hcs
    rw [hcs] at hv
    simp only [znn,hu,m1]
    have e1:A.ldnv h (.ptr (β t) 0 0) (P.cellsOf ty)=V.zfg 0 (P.cellsOf ty) (.agg cs):=by
     simp only [A.ldnv,m2,zek,List.lookup,beq_self_eq_true,V.zfg]
    have e2:A.ldv h (.ptr (β t) 0 0)=V.zd8 0 (.agg cs):=by
     simp only [A.ldv,m2,zek,List.lookup,beq_self_eq_true,V.zd8]
     split
     ·rfl
     ·rw [List.getElem?_eq_none (by omega)]
    rw [e1,e2];exact hv
  | false=>
   rw [hb,cond_false] at e
   cases hc:I.clean t with
   | false=>rw [hc] at e;cases e
   | true=>
    rw [hc,cond_true,hR.cl t hc] at e
    refine go _ _ (fun v hv=> ?_) e
    unfold znn at hv ⊢
    split at hv
    ·cases hv
    ·rename_i u hu
     cases hA:zd1 P ty with
     | true=>rw [hA] at hv;exact ldnv_le hR.le hv
     | false=>rw [hA] at hv;exact zk1 hR.le hv
theorem AC_introB {P:Program} (hm:P.follows .mixedOrders=true) {f:FuncId} {fn:Func} {c:Code} {I:Bx} (hf:P.funcs[f]? =some fn) (hb:fn.body=some c) (hcall: ∀ (va:Array Value) (w:World),(callFunc f va).run P w= .ok (.enter f va) w)
  (hc:zir fn.ntmps c=true) (hne:Nat.beq f zn4=false) {args:List AVal} (hl:args.length <= fn.ntmps) (hB:args.length <= I.B) (hk:chkC P I c=true) {h:za} {Q:zQ} (hx:bwp P (AC P) I c (retB P I fn.results.toList Q) (zdi args) h):AC P f args h Q:=by
 refine AC_drop (AC_intro hm hf hb hcall hc hne hl ?_)
 have hR:RelB I (zdi args) h (zdi args) h (fun k=>k):=by
  have h0: ∀ d cs,zdi args (I.B+d)≠ .agg cs:=fun d cs e=>by
   simp only [zdi,List.getD] at e
   rw [List.getElem?_eq_none (by omega)] at e
   cases e
  exact ⟨za.le_refl h,fun _ _=>rfl,fun d cs _ e=>absurd e (h0 d cs),fun d e cs cs' _ _ _ hc _=>absurd hc (h0 d cs)⟩
 refine zgl (AC_good P).mono c (fun e s h ⟨s',h',β,k1,k2⟩=> ?_) (zg0 (AC_good P) c hk hR hx)
 have fin:A.pv (oneOf (resB P I h' s' fn.results.toList)) (fun v=>Q v h')->A.pv (resV P h s fn.results.toList) fun v=> ∃ h',Q v h' /\ h'.le h:=fun hk=>by
  obtain ⟨v,e1,e2⟩:=zd hk
  cases hr:resB P I h' s' fn.results.toList with
  | none=>rw [hr] at e1;cases e1
  | some l=>
   rw [hr] at e1
   have:=zno k1 _ _ hr
   unfold resV
   rw [this,e1]
   exact ⟨h',e2,k1.le⟩
 cases e with
 | normal=>exact fin k2
 | ret=>exact fin k2
 | exit _=>exact k2
section
variable (P:Program) (I:Bx) (ops:List Oper)
def wrB (o:Oper) (E:BEnv):List Nat:=
 match o.op with
 | .alloc _ | .box _ _=>match o.dst with
  | some d=>bif memB I.bs d then [I.B+d] else [d]
  | none=>[]
 | .store _ x _=>match I.place E o.guard x with
  | some (d,_)=>[I.B+d]
  | none=>o.dst.toList
 | _=>o.dst.toList
def writesO:List (Oper×List (Operand×TypeId))->BEnv->List Nat
 | [],_=>[]
 | (o,_)::r,E=>wrB I o E++writesO r (envB P I ops o E)
end
def zg3 (P:Program) (I:Bx):Code->List Nat
 | .region _ ops false=>writesO P I ops.toList (plain ops.toList) []
 | .region k ops true=>match plOf k I.pl with
  | some l=>writesO P I ops.toList (litOf ops.toList l) []
  | none=>[]
 | .seq a b=>zg3 P I a++zg3 P I b
 | .cond _ a b=>zg3 P I a++zg3 P I b
 | .block _ b=>zg3 P I b
 | .loop b=>zg3 P I b
 | .scope b=>zg3 P I b
 | _=>[]
def W1 (G:AVal->za->(Nat->za->Prop)->Prop):List AVal->za->(Nat->za->Prop)->Prop
 | [x],h,E=>G x h E
 | _,_,_=>False
def W2 (G:AVal->AVal->za->(Nat->za->Prop)->Prop):List AVal->za->(Nat->za->Prop)->Prop
 | [x,y],h,E=>G x y h E
 | _,_,_=>False
section
variable {P:Program} {C:CSem} {I:Bx} {ops:List Oper}
theorem gdO_mono {g:Gd} {s:zcf} {h:za} {M:(zQ)->Prop} {K K':zQ} (hM:M K->M K') (hk: ∀ v h,K v h->K' v h) (x:A.gdO ops g s h M K):A.gdO ops g s h M K':=by
 unfold A.gdO at x ⊢
 split at x
 ·exact hM x
 ·split at x
  ·unfold A.gd at x ⊢
   split at x
   ·exact ⟨fun e=>hM (x.1 e),fun e=>hk _ _ (x.2 e)⟩
   ·exact hk _ _ x
   ·exact x
  ·exact x
theorem zpg {o:Option AVal} {K K':AVal->Prop} (hk: ∀ v,K v->K' v) (x:A.pv o K):A.pv o K':=by
 unfold A.pv at x ⊢
 split at x
 ·exact hk _ x
 ·exact x
theorem al_mono {v:AVal} {p q:Prop} (hk:p->q) (x:A.al v p):A.al v q:=by
 unfold A.al at x ⊢
 split at x
 ·exact hk x
 ·exact x
theorem zkk {E:BEnv} {s:zcf}: ∀ {ks:List (Operand×TypeId)} {k k':List (Operand×TypeId)->Prop},(∀ l,k l->k' l)->zjq I E s ks k->zjq I E s ks k'
 | [],_,_,hk,x=>hk _ x
 | (x,ty)::r,k,k',hk,hx=>by
  have other: ∀ {x},zjq I E s r (fun l=>k ((x,ty)::l))->zjq I E s r (fun l=>k' ((x,ty)::l)):=fun hx=>zkk (fun l y=>hk _ y) hx
  cases x<;>(try exact other hx)
  rename_i t
  simp only [zjq] at hx ⊢
  cases hb:memB I.bs t with
  | true=>rw [hb] at hx;exact al_mono (fun y=>zkk hk y) hx
  | false=>
   rw [hb] at hx
   simp only [cond_false] at hx ⊢
   cases hc:I.clean t with
   | true=>rw [hc] at hx;exact other hx
   | false=>
    rw [hc] at hx
    simp only [cond_false] at hx ⊢
    cases hm:memB (E.map (·.1)) t with
    | true=>rw [hm] at hx;exact zkk hk hx
    | false=>rw [hm] at hx;exact hx
theorem zm4 {E:BEnv} {d:Nat} {s:zcf}: ∀ {ks:List (Operand×TypeId)} {p q:Prop},(p->q)->zjp I E d s ks p->zjp I E d s ks q
 | [],_,_,hk,x=>hk x
 | (x,ty)::r,p,q,hk,hx=>by
  simp only [zjp] at hx ⊢
  split at hx
  ·rename_i d' off hp
   cases hb:Nat.beq d' d with
   | true=>rw [hb] at hx;exact hx.elim
   | false=>rw [hb] at hx;exact al_mono (fun y=>zm4 hk y) hx
  ·exact hx
theorem stepB_strong (hC:zlx C) {o:Oper} {ks:List (Operand×TypeId)} {E:BEnv} {s:zcf} {h:za} {K K':BEnv->zcf->za->Prop}
  (hk: ∀ s1 h1,zje (wrB I o E) s s1->K (envB P I ops o E) s1 h1->K' (envB P I ops o E) s1 h1) (x:stepB P C I ops o ks E s h K):stepB P C I ops o ks E s h K':=by
 have put: ∀ (d:Option Nat) (v:AVal) (l:List Nat),d.toList=l->zje l s (putS s d v):=fun d v l e=>by
  subst e
  cases d with
  | none=>exact zje.refl _ _
  | some d=>exact fun k hk=>zdg s v fun e=>hk (by simp [e])
 have gen:envB P I ops o E=ziv ops o.dst E->wrB I o E=o.dst.toList->genB P C I ops o ks E s h K->genB P C I ops o ks E s h K':=fun e1 e2 y=>by
  unfold genB at y ⊢
  refine zkk (fun l z=> ?_) y
  have hk': ∀ v h1,K (ziv ops o.dst E) (putS s o.dst v) h1->K' (ziv ops o.dst E) (putS s o.dst v) h1:=fun v h1 z=>by
   rw [<- e1]
   exact hk _ _ (put _ _ _ e2.symm) (by rw [e1];exact z)
  cases l with
  | nil=>exact zo6 hC hk' z
  | cons q r=>exact gdO_mono (fun z=>zkh.2 (zgf hC (fun v h1 ⟨a,b⟩=>⟨a,hk' _ _ b⟩) (zkh.1 z))) hk' z
 have der: ∀ (d off:Nat) (e:Nat),o.dst=some e->envB P I ops o E=(e,o.guard,d,off)::zj6 ops e E->wrB I o E=o.dst.toList->derB I ops o d off E s h K->derB I ops o d off E s h K':=fun d off e hd e1 e2 y=>by
  unfold derB at y ⊢
  rw [hd] at y ⊢
  refine al_mono (fun y=> ?_) y
  have hk': ∀ h1,K ((e,o.guard,d,off)::zj6 ops e E) (putS s (some e) .undef) h1->K' ((e,o.guard,d,off)::zj6 ops e E) (putS s (some e) .undef) h1:=fun h1 z=>by
   rw [<- e1]
   exact hk _ _ (put _ _ _ (by rw [e2,hd])) (by rw [e1];exact z)
  exact gdO_mono (hk' h) (fun _ h1 z=>hk' h1 z) y
 unfold stepB at x ⊢
 unfold envB wrB at gen der hk
 cases ho:o.op with
 | alloc t=>
  rw [ho] at x gen hk
  simp only at x gen hk ⊢
  cases hd:o.dst with
  | none=>rw [hd] at x gen;exact gen rfl rfl x
  | some d=>
   rw [hd] at x gen hk
   simp only at x gen hk ⊢
   cases hb:memB I.bs d with
   | false=>rw [hb] at gen x;exact gen rfl rfl x
   | true=>
    rw [hb] at x hk
    exact zpg (fun v z=>hk _ _ (put _ _ _ rfl) z) x
 | box t y=>
  rw [ho] at x gen hk
  simp only at x gen hk ⊢
  cases hd:o.dst with
  | none=>rw [hd] at x gen;exact gen rfl rfl x
  | some d=>
   rw [hd] at x gen hk
   simp only at x gen hk ⊢
   cases hb:memB I.bs d with
   | false=>rw [hb] at gen x;exact gen rfl rfl x
   | true=>
    rw [hb] at x hk
    exact zpg (fun v z=>hk _ _ (put _ _ _ rfl) z) x
 | load t y=>
  rw [ho] at x gen hk
  simp only at x gen hk ⊢
  split at x
  ·rename_i d off hp
   have y:=x
   split at y
   ·exact y.elim
   ·rename_i u hu
    have hk': ∀ v h1,K (ziv ops o.dst E) (putS s o.dst v) h1->K' (ziv ops o.dst E) (putS s o.dst v) h1:=fun v h1 z=>hk _ _ (put _ _ _ rfl) z
    exact gdO_mono (fun z=>zpg (fun v z=>hk' _ _ z) z) hk' y
  ·rename_i hp
   exact gen (by trivial) (by trivial) x
 | store t y v=>
  rw [ho] at x gen hk
  simp only at x gen hk ⊢
  split at x
  ·rename_i d off hp
   simp only [hp] at hk ⊢
   refine zm4 (fun y=> ?_) x
   cases hA:zd1 P t with
   | true=>rw [hA] at y;exact zpg (fun v z=>hk _ _ (put _ _ _ rfl) z) y
   | false=>
    rw [hA] at y
    simp only [cond_false] at y ⊢
    cases h1:Nat.beq (P.cellsOf t) 1 with
    | false=>rw [h1] at y;exact y
    | true=>rw [h1] at y;exact zpg (fun v z=>hk _ _ (put _ _ _ rfl) z) y
  ·rename_i hp
   simp only [hp] at gen ⊢
   exact gen (by trivial) (by trivial) x
 | fieldAddr t y f=>
  rw [ho] at x gen der hk
  simp only at x gen der hk ⊢
  split at x
  ·rename_i d off hp
   simp only [hp] at der ⊢
   have y:=x
   split at y<;>(try exact y.elim)
   rename_i fs hu
   simp only [hu] at der ⊢
   split at y<;>(try exact y.elim)
   rename_i fd hfd
   simp only [hfd] at der ⊢
   cases hz:Nat.beq (P.cellsOf fd.type) 0 with
   | true=>rw [hz] at y;exact y
   | false=>
    rw [hz] at y
    simp only [cond_false] at y ⊢
    cases hd:o.dst with
    | none=>simp only [derB,hd] at y
    | some e=>exact der d _ e hd (by simp only [hd]) (by trivial) y
  ·rename_i hp
   simp only [hp] at gen ⊢
   exact gen (by trivial) (by trivial) x
 | nilCheck y=>
  rw [ho] at x gen der hk
  simp only at x gen der hk ⊢
  split at x
  ·rename_i d off hp
   simp only [hp] at der ⊢
   have y:=x
   cases hd:o.dst with
   | none=>simp only [derB,hd] at y
   | some e=>exact der d _ e hd (by simp only [hd]) (by trivial) y
  ·rename_i hp
   simp only [hp] at gen ⊢
   exact gen (by trivial) (by trivial) x
 | _=>
  rw [ho] at x gen
  exact gen rfl rfl x
theorem znu (hC:zlx C) {Q Q':zcf->za->Prop} {L:List Nat}: ∀ (l:List (Oper×List (Operand×TypeId))) {E:BEnv} {s:zcf} {h:za},(∀ k∈writesO P I ops l E,k∈L)->(∀ s1 h1,zje L s s1->Q s1 h1->Q' s1 h1) ->
  opsB P C I ops l Q E s h->opsB P C I ops l Q' E s h
 | [],_,_,_,_,hq,x=>hq _ _ (zje.refl _ _) x
 | (o,ks)::r,E,s,h,hl,hq,x=>stepB_strong hC (fun s1 h1 ha y=>znu hC r (fun k hk=>hl k (List.mem_append_right _ hk)) (fun s2 h2 hb z=>hq _ _ ((ha.mono fun k hk=>hl k (List.mem_append_left _ hk)).trans hb) z) y) x
theorem zhx (hC:zlx C): ∀ (c:Code) {Q Q':Ex->zcf->za->Prop} {s:zcf} {h:za},(∀ e s1 h1,zje (zg3 P I c) s s1->Q e s1 h1->Q' e s1 h1)->bwp P C I c Q s h->bwp P C I c Q' s h
 | .skip,_,_,_,_,hq,x=>hq _ _ _ (zje.refl _ _) x
 | .ret,_,_,_,_,hq,x=>hq _ _ _ (zje.refl _ _) x
 | .exit _,_,_,_,_,hq,x=>hq _ _ _ (zje.refl _ _) x
 | .region _ ops false,_,_,_,_,hq,x=>znu hC (plain ops.toList) (fun _ hk=>hk) (fun s1 h1 ha y=>hq _ _ _ ha y) x
 | .region _ ops true,Q,Q',s,h,hq,x=>by
  simp only [bwp] at x ⊢
  simp only [zg3] at hq
  split at x
  ·rename_i l hp
   simp only [hp] at hq ⊢
   exact znu hC (litOf ops.toList l) (fun _ hk=>hk) (fun s1 h1 ha y=>hq _ _ _ ha y) x
  ·exact x.elim
 | .seq a b,Q,Q',s,h,hq,x=>by
  refine zhx hC a (fun e s1 h1 ha y=> ?_) x
  have ha':zje (zg3 P I (.seq a b)) s s1:=ha.mono fun k hk=>List.mem_append_left _ hk
  cases e with
  | normal=>exact zhx hC b (fun e s2 h2 hb z=>hq _ _ _ (ha'.trans (hb.mono fun k hk=>List.mem_append_right _ hk)) z) y
  | exit _=>exact hq _ _ _ ha' y
  | ret=>exact hq _ _ _ ha' y
 | .cond c a b,Q,Q',s,h,hq,x=>by
  simp only [bwp] at x ⊢
  unfold A.cond at x ⊢
  split at x
  ·exact ⟨fun e=>zhx hC a (fun _ _ _ ha y=>hq _ _ _ (ha.mono fun k hk=>List.mem_append_left _ hk) y) (x.1 e),fun e=>zhx hC b (fun _ _ _ ha y=>hq _ _ _ (ha.mono fun k hk=>List.mem_append_right _ hk) y) (x.2 e)⟩
  ·exact x.elim
 | .scope b,Q,Q',s,h,hq,x=>zhx hC b hq x
 | .label _,Q,Q',s,h,hq,x=>hq _ _ _ (zje.refl _ _) x
 | .block id b,Q,Q',s,h,hq,x=>zhx hC b (fun e s1 h1 ha y=>by
   cases e with
   | normal=>exact hq _ _ _ ha y
   | ret=>exact hq _ _ _ ha y
   | exit j=>
    simp only [Ex.inBlock] at y ⊢
    cases hj:Nat.beq j id with
    | true=>rw [hj] at y;exact hq _ _ _ ha y
    | false=>rw [hj] at y;exact hq _ _ _ ha y) x
 | .loop c,Q,Q',s,h,hq,x=>fun X hX=>by
  refine x (fun s1 h1=>zje (zg3 P I c) s s1->X s1 h1) (fun s1 h1 y ha=>hX s1 h1 ?_) (zje.refl _ _)
  refine zhx hC c (fun e s2 h2 hb z=> ?_) y
  cases e with
  | normal=>exact z (ha.trans hb)
  | exit _=>exact hq _ _ _ (ha.trans hb) z
  | ret=>exact hq _ _ _ (ha.trans hb) z
 | .rangeFunc g ps a b,Q,Q',s,h,hq,x=>fun sz=>zpf hC (fun _ _ _ w=>w) (fun j h y=>hq _ _ _ (zje.refl _ _) y) (x sz)
 | .goto _,_,_,_,_,_,x=>x.elim
 | .refuse _,_,_,_,_,_,x=>x.elim
theorem seqB (hC:zlx C) {c a b:Code} {Q:Ex->zcf->za->Prop} {X:zcf->za->Prop} {s:zcf} {h:za} (hc:c= .seq a b) (hb: ∀ s h,X s h->bwp P C I b Q s h) (ha:bwp P C I a (Ex.then X Q) s h):bwp P C I c Q s h:=by
 subst hc
 exact zhx hC a (fun e s h _ y=>by
  cases e with
  | normal=>exact hb _ _ y
  | exit _=>exact y
  | ret=>exact y) ha
theorem condB {c x y:Code} {o:Operand} {Q:Ex->zcf->za->Prop} {p q:Prop} {s:zcf} {h:za} (hc:c= .cond o x y) (hx:p->bwp P C I x Q s h) (hy:q->bwp P C I y Q s h) (hr:A.cond (evS s o) p q):bwp P C I c Q s h:=by
 subst hc
 simp only [bwp,A.cond] at hr ⊢
 split at hr
 ·exact ⟨fun e=>hx (hr.1 e),fun e=>hy (hr.2 e)⟩
 ·exact hr.elim
theorem loopB (hC:zlx C) {c b:Code} {Q:Ex->zcf->za->Prop} {s:zcf} {h:za} (keep live:List Nat) {G:List AVal->zG}
  (hc:c= .loop b) (hk:(keep.all fun k=> !memB (zg3 P I b) k)=true)
  (hG: ∀ (Y:zL) (s:zcf) (h:za),G (keep.map s) (live.map s) h Y->bwp P C I b (Ex.then (fun s h=>Y (live.map s) h) Q) s h)
  (hr:zw (G (keep.map s)) (live.map s) h):bwp P C I c Q s h:=by
 subst hc
 intro X hX
 have hm: ∀ (l:List Nat) (k:Nat),k∈l->memB l k=true:=fun l=>by
  induction l with
  | nil=>intro k h;cases h
  | cons a r ih=>
   intro k h
   simp only [memB]
   rcases List.mem_cons.1 h with rfl|h
   ·rw [Nat.beq_refl];rfl
   ·rw [ih k h];cases Nat.beq a k<;>rfl
 have hw: ∀ k∈keep,k∉zg3 P I b:=fun k hk' hin=>by
  have:=List.all_eq_true.1 hk k hk'
  rw [hm _ _ hin] at this;cases this
 refine hr (fun vs h=> ∀ s',keep.map s'=keep.map s->live.map s'=vs->X s' h) ?_ s rfl rfl
 intro vs h1 hg s1 e1 e2
 subst e2
 rw [<- e1] at hg
 refine hX s1 h1 (zhx hC b (fun e s2 h2 ha z=> ?_) (hG _ s1 h1 hg))
 cases e with
 | normal=>
  refine z s2 ?_ rfl
  exact List.map_congr_left fun k hk'=>ha k (hw k hk')
 | exit _=>exact z
 | ret=>exact z
end
def dn (Q:zQ) (v:AVal) (h:za):Prop:= ∃ h',Q v h' /\ h'.le h
abbrev im0 (C:CSem) (g:Nat) (f:za->zQ->Prop):Prop:= ∀ (h:za) (Q:zQ),f h (dn Q)->C g [] h Q
abbrev im1 (C:CSem) (g:Nat) (f:AVal->za->zQ->Prop):Prop:= ∀ (v0:AVal) (h:za) (Q:zQ),f v0 h (dn Q)->C g [v0] h Q
abbrev im2 (C:CSem) (g:Nat) (f:AVal->AVal->za->zQ->Prop):Prop:= ∀ (v0 v1:AVal) (h:za) (Q:zQ),f v0 v1 h (dn Q)->C g [v0,v1] h Q
abbrev im3 (C:CSem) (g:Nat) (f:AVal->AVal->AVal->za->zQ->Prop):Prop:= ∀ (v0 v1 v2:AVal) (h:za) (Q:zQ),f v0 v1 v2 h (dn Q)->C g [v0,v1,v2] h Q
abbrev im4 (C:CSem) (g:Nat) (f:AVal->AVal->AVal->AVal->za->zQ->Prop):Prop:= ∀ (v0 v1 v2 v3:AVal) (h:za) (Q:zQ),f v0 v1 v2 v3 h (dn Q)->C g [v0,v1,v2,v3] h Q
abbrev im5 (C:CSem) (g:Nat) (f:AVal->AVal->AVal->AVal->AVal->za->zQ->Prop):Prop:= ∀ (v0 v1 v2 v3 v4:AVal) (h:za) (Q:zQ),f v0 v1 v2 v3 v4 h (dn Q)->C g [v0,v1,v2,v3,v4] h Q
abbrev im6 (C:CSem) (g:Nat) (f:AVal->AVal->AVal->AVal->AVal->AVal->za->zQ->Prop):Prop:= ∀ (v0 v1 v2 v3 v4 v5:AVal) (h:za) (Q:zQ),f v0 v1 v2 v3 v4 v5 h (dn Q)->C g [v0,v1,v2,v3,v4,v5] h Q
theorem zbu {Q:zQ} {v:AVal} {h:za} (hq:Q v h):dn Q v h:=⟨h,hq,za.le_refl h⟩
theorem dn_le {Q:zQ} {v:AVal} {h h':za} (hle:h.le h') (hq:Q v h):dn Q v h':=⟨h,hq,hle⟩
abbrev Wr {α:Sort _} (a:α):Type:=Prop
namespace B
variable (h:za)
def pv (o:Option AVal) (K:AVal->Prop):Wr K:=A.pv o K
def cond (c:AVal) (x y:Prop):Wr (x,y):=A.cond c x y
def al (v:AVal) (p:Prop):Wr p:=A.al v p
def pick (c a b:AVal) (K:AVal->Prop):Wr K:=A.pick c a b K
def newO (o:Option (List AVal)) (K:Nat->za->Prop):Wr K:=A.newO h o K
def ld (p:AVal) (K:AVal->Prop):Wr K:=A.ld h p K
def ldn (p:AVal) (n:Nat) (K:AVal->Prop):Wr K:=A.ldn h p n K
def st (p v:AVal) (K:za->Prop):Wr K:=A.st h p v K
def stn (p:AVal) (n:Nat) (v:AVal) (K:za->Prop):Wr K:=A.stn h p n v K
def nilCheck (v:AVal) (K:AVal->Prop):Wr K:=A.nilCheck v K
def appW (es bytes:Nat) (x y:AVal) (K:zQ):Wr K:=A.appW h es bytes x y K
def mks (bytes:Nat) (z:Option (List AVal)) (l c:AVal) (K:zQ):Wr K:=A.mks h bytes z l c K
def appZ (es bytes:Nat) (z:List AVal) (x y:AVal) (K:zQ):Wr K:=A.appZ h es bytes (some z) x y K
def call (C:CSem) (f:Nat) (args:List AVal) (h:za) (K:zQ):Wr K:=C f args h K
def clr (z:List AVal) (x:AVal) (K:zQ):Wr K:=A.clr h (some z) x K
def zl3 (K:zQ):Wr K:=A.newObj h (.map [] 0) fun id h=>K (.mp id) h
def mset (kd:KD) (x k v:AVal) (K:za->Prop):Wr K:=A.mset h (some kd) x k v K
def rangeMap (x:AVal) (K:zQ):Wr K:=A.rangeMap h x K
def zfc (x:AVal) (K:zQ):Wr K:=A.zfc h x K
def zf1 (h:za) (C:CSem) (f:AVal) (args:List AVal) (K:zQ):Wr K:=A.zf1 h C f args K
def gd (c:AVal) (want:Bool) (M:(zQ)->Prop) (K:zQ):Wr (M,K):=A.gd h c want M K
def gdb (d:Bool) (M:(zQ)->Prop) (K:zQ):Wr K:=(d=true->M K) /\ (d=false->K (.tup []) h)
def zol (ls:List (AVal×Option Nat)) (K:zQ):zQ:=A.zol h ls K
end B
@[simp] theorem B.zd (v:AVal) (K:AVal->Prop):(B.pv (some v) K:Prop)=K v:=propext Iff.rfl
@[simp] theorem B.al_agg (cs:List AVal) (p:Prop):(B.al (.agg cs) p:Prop)=p:=propext Iff.rfl
@[simp] theorem B.cond_true (x y:Prop):(B.cond (.bool true) x y:Prop)=x:=by simp [B.cond,A.cond]
@[simp] theorem B.cond_false (x y:Prop):(B.cond (.bool false) x y:Prop)=y:=by simp [B.cond,A.cond]
theorem B.zr {b:Bool} {x y:Prop} (hx:b=true->x) (hy:b=false->y):B.cond (.bool b) x y:=⟨hx,hy⟩
@[simp] theorem B.ze4 (h:za) (p:AVal) (K:AVal->Prop):(B.ld h p K:Prop)=B.pv (A.ldv h p) K:=propext Iff.rfl
@[simp] theorem B.ldn_eq (h:za) (p:AVal) (n:Nat) (K:AVal->Prop):(B.ldn h p n K:Prop)=B.pv (A.ldnv h p n) K:=propext Iff.rfl
@[simp] theorem B.zhf (id g off:Nat) (K:AVal->Prop):(B.nilCheck (.ptr id g off) K:Prop)=K (.ptr id g off):=propext Iff.rfl
@[simp] theorem B.zjr (h:za) (C:CSem) (f:Nat) (first caps args:List AVal) (K:zQ):(B.zf1 h C (.fn f first caps) args K:Prop)=B.call C f (first++args++caps) h K:=propext Iff.rfl
def gv (b:Bool) (v:AVal):AVal:=bif b then v else .tup []
@[simp] theorem zp7 (v:AVal):gv true v=v:=eq_of_heq HEq.rfl
@[simp] theorem gv_false (v:AVal):gv false v= .tup []:=eq_of_heq HEq.rfl
@[simp] theorem gv_gv (b c:Bool) (v:AVal):gv b (gv c v)=gv (b&&c) v:=by cases b<;>cases c<;>exact eq_of_heq HEq.rfl
section
variable (h:za) (b c:Bool) (M:(zQ)->Prop) (K:zQ) (v:AVal)
@[simp] theorem B.gd_t:(B.gd h (.bool b) true M K:Prop)=B.gdb h b M K:=by cases b<;>simp [B.gd,A.gd,B.gdb]
@[simp] theorem B.gd_f:(B.gd h (.bool b) false M K:Prop)=B.gdb h (!b) M K:=by cases b<;>simp [B.gd,A.gd,B.gdb]
@[simp] theorem B.gd_ct:(B.gd h (gv b (.bool c)) true M K:Prop)=B.gdb h (b&&c) M K:=by cases b<;>cases c<;>simp [B.gd,A.gd,B.gdb,gv]
@[simp] theorem B.gd_cf:(B.gd h (gv b (.bool c)) false M K:Prop)=B.gdb h (b&& !c) M K:=by cases b<;>cases c<;>simp [B.gd,A.gd,B.gdb,gv]
@[simp] theorem B.gd_tup (w:Bool):(B.gd h (.tup []) w M K:Prop)=K (.tup []) h:=propext Iff.rfl
@[simp] theorem B.zoy:(B.gdb h b (fun K=>K v h) K:Prop)=K (gv b v) h:=by cases b<;>simp [B.gdb,gv]
@[simp] theorem B.zce:(B.gdb h true M K:Prop)=M K:=by simp [B.gdb]
@[simp] theorem B.zdw:(B.gdb h false M K:Prop)=K (.tup []) h:=by simp [B.gdb]
end
@[congr] theorem B.gdb_congr {h:za} {c c':Bool} {M M':(zQ)->Prop} {K:zQ} (hc:c=c') (hM:c'=true-> ∀ K,M K=M' K):(B.gdb h c M K:Prop)=B.gdb h c' M' K:=by
 subst hc
 unfold B.gdb
 cases c
 ·simp
 ·simp [hM rfl]
section
variable (b c d:Bool) (u x y:AVal) (K:AVal->Prop)
@[simp] theorem B.pick_and:(B.pick (.bool b) (gv b (.bool c)) (.bool d) K:Prop)=K (.bool (bif b then c else d)):=by cases b<;>exact eq_of_heq HEq.rfl
@[simp] theorem B.pick_or:(B.pick (.bool b) (.bool d) (gv (!b) (.bool c)) K:Prop)=K (.bool (bif b then d else c)):=by cases b<;>exact eq_of_heq HEq.rfl
@[simp] theorem B.pick_nor:(B.pick (.bool !b) (.bool d) (gv b (.bool c)) K:Prop)=K (.bool (bif b then c else d)):=by cases b<;>exact eq_of_heq HEq.rfl
@[simp] theorem B.zev:(B.pick (.bool true) x y K:Prop)=K x:=eq_of_heq HEq.rfl
@[simp] theorem B.ze2:(B.pick (.bool false) x y K:Prop)=K y:=eq_of_heq HEq.rfl
@[simp] theorem B.pick_plain:(B.pick (.bool b) (.bool c) (.bool d) K:Prop)=K (.bool (bif b then c else d)):=by cases b<;>exact eq_of_heq HEq.rfl
@[simp] theorem B.pick_int (k:IntKind) (x y:Int):(B.pick (.bool b) (.int k x) (.int k y) K:Prop)=K (.int k (bif b then x else y)):=by cases b<;>exact eq_of_heq HEq.rfl
@[simp] theorem B.pick_or2 {b c d e:Bool} {K:AVal->Prop} (hc:e= !b):(B.pick (.bool b) (.bool d) (gv e (.bool c)) K:Prop)=K (.bool (bif b then d else c)):=by subst hc;cases b<;>exact eq_of_heq HEq.rfl
@[simp] theorem B.pick_and2 {b c d e:Bool} {K:AVal->Prop} (hc:e=b):(B.pick (.bool b) (gv e (.bool c)) (.bool d) K:Prop)=K (.bool (bif b then c else d)):=by subst hc;cases e<;>exact eq_of_heq HEq.rfl
theorem cond_andb:(bif b then c else false)=(b&&c):=by cases b<;>rfl
theorem cond_orb:(bif b then true else c)=(b||c):=by cases b<;>rfl
attribute [simp] cond_andb cond_orb
end
namespace V
variable (k:IntKind) (a b:Int)
@[simp] theorem ze8:bin .add (.int k a) (.int k b)=some (.int k (k.wrap (a+b))):=by simp [bin,arith]
@[simp] theorem zgt:bin .sub (.int k a) (.int k b)=some (.int k (k.wrap (a-b))):=by simp [bin,arith]
@[simp] theorem bin_mul:bin .mul (.int k a) (.int k b)=some (.int k (k.wrap (a*b))):=by simp [bin,arith]
@[simp] theorem zkr (hb:b≠0):bin .quo (.int k a) (.int k b)=some (.int k (k.wrap (a.tdiv b))):=by simp [bin,arith,hb]
@[simp] theorem bin_rem (hb:b≠0):bin .rem (.int k a) (.int k b)=some (.int k (a.tmod b)):=by simp [bin,arith,hb]
@[simp] theorem zfy:bin .eql (.int k a) (.int k b)=some (.bool (decide (a=b))):=by simp [bin,arith];rfl
@[simp] theorem bin_neq:bin .neq (.int k a) (.int k b)=some (.bool (!decide (a=b))):=by simp [bin,arith];rfl
@[simp] theorem zec:bin .lss (.int k a) (.int k b)=some (.bool (decide (a<b))):=by simp [bin,arith]
@[simp] theorem bin_leq:bin .leq (.int k a) (.int k b)=some (.bool (decide (a <= b))):=by simp [bin,arith]
@[simp] theorem zmq:bin .gtr (.int k a) (.int k b)=some (.bool (decide (b<a))):=by simp [bin,arith]
@[simp] theorem zgb:bin .geq (.int k a) (.int k b)=some (.bool (decide (b <= a))):=by simp [bin,arith]
@[simp] theorem bin_seql (x y:List UInt8):bin .eql (.str x) (.str y)=some (.bool (decide (x=y))):=by simp only [bin,strOp];congr 2;rw [Bool.eq_iff_iff];simp
@[simp] theorem bin_sneq (x y:List UInt8):bin .neq (.str x) (.str y)=some (.bool (!decide (x=y))):=by simp only [bin,strOp];congr 3;rw [Bool.eq_iff_iff];simp
@[simp] theorem eqBool_eql (x y:Bool):zrb .eql (.bool x) (.bool y)=some (.bool (x==y)):=eq_of_heq HEq.rfl
@[simp] theorem eqBool_neq (x y:Bool):zrb .neq (.bool x) (.bool y)=some (.bool (!(x==y))):=eq_of_heq HEq.rfl
@[simp] theorem zf5 (x:Bool):un .not (.bool x)=some (.bool !x):=eq_of_heq HEq.rfl
@[simp] theorem un_neg:un .neg (.int k a)=some (.int k (k.wrap (0-a))):=eq_of_heq HEq.rfl
@[simp] theorem toInt_int (j:IntKind):toInt k (.int j a)=some (.int k (k.wrap a)):=eq_of_heq HEq.rfl
@[simp] theorem strStr_str (x:List UInt8):strStr (.str x)=some (.str x):=eq_of_heq HEq.rfl
@[simp] theorem fieldAddr_ptr (o id g off:Nat):fieldAddr o (.ptr id g off)=some (.ptr id g (off+o)):=eq_of_heq HEq.rfl
@[simp] theorem zkb (o:Nat) (cs:List AVal):zd8 o (.agg cs)=cs[o]? :=eq_of_heq HEq.rfl
@[simp] theorem fieldN_agg (o n:Nat) (cs:List AVal):zfg o n (.agg cs)=if o+n <= cs.length then some (.agg ((cs.drop o).take n)) else none:=eq_of_heq HEq.rfl
@[simp] theorem setF_agg (o:Nat) (v:AVal) (cs:List AVal):setF o v (.agg cs)=zpr (put1 o v cs):=by unfold setF zpr;rfl
@[simp] theorem setN_agg (o n:Nat) (v:AVal) (cs:List AVal):setN o n v (.agg cs)=zpr (putN o n v cs):=by unfold setN zpr;rfl
@[simp] theorem put1_cell (o:Nat) (v:AVal) (cs:List AVal):put1 o v cs=bif v.zdd then (if o<cs.length then some (cs.set o v) else none) else none:=eq_of_heq HEq.rfl
@[simp] theorem putN_agg (o n:Nat) (xs cs:List AVal):putN o n (.agg xs) cs=if xs.length=n /\ o+n <= cs.length then some (cs.take o++xs++cs.drop (o+n)) else none:=eq_of_heq HEq.rfl
@[simp] theorem zfw (i:Nat) (cs:List AVal):ext i (.tup cs)=cs[i]? :=eq_of_heq HEq.rfl
@[simp] theorem lenStr_str (x:List UInt8):zj5 (.str x)=some (.int .i64 x.length):=eq_of_heq HEq.rfl
@[simp] theorem lenSl_nils:zcw .nils=some (.int .i64 0):=eq_of_heq HEq.rfl
@[simp] theorem lenSl_sz:zcw .sz=some (.int .i64 0):=eq_of_heq HEq.rfl
@[simp] theorem lenSl_sl (id g off n es cp:Nat):zcw (.sl id g off n es cp)=some (.int .i64 n):=eq_of_heq HEq.rfl
@[simp] theorem max2_int:max2 (.int k a) (.int k b)=some (.int k (max a b)):=by
 simp only [max2];congr 2;split<;>omega
@[simp] theorem min2_int:min2 (.int k a) (.int k b)=some (.int k (min a b)):=by
 simp only [min2];congr 2;split<;>omega
attribute [simp] zfx eqv
@[simp] theorem eqCell_b (x y:Bool):zl8 .b (.bool x) (.bool y)=some (decide (x=y)):=by cases x<;>cases y<;>rfl
@[simp] theorem eqCell_i:zl8 (.i k) (.int k a) (.int k b)=some (decide (a=b)):=by simp only [zl8];rw [if_pos ⟨trivial,trivial⟩];rfl
@[simp] theorem eqCell_s (x y:List UInt8):zl8 .s (.str x) (.str y)=some (decide (x=y)):=by simp only [zl8];congr 1;rw [Bool.eq_iff_iff];simp
end V
@[simp] theorem optAgg_some (cs:List AVal):zpr (some cs)=some (.agg cs):=eq_of_heq HEq.rfl
@[simp] theorem boxN_agg (n:Nat) (cs:List AVal):A.boxN n (.agg cs)=if cs.length=n then some (.agg cs) else none:=eq_of_heq HEq.rfl
@[simp] theorem cellsN_agg (n:Nat) (cs:List AVal):A.znh n (.agg cs)=if cs.length=n then some cs else none:=eq_of_heq HEq.rfl
attribute [simp] A.bld zei repL
@[simp] theorem isCell_bool (b:Bool):(AVal.bool b).zdd=true:=eq_of_heq HEq.rfl
@[simp] theorem isCell_int (k:IntKind) (n:Int):(AVal.int k n).zdd=true:=eq_of_heq HEq.rfl
@[simp] theorem isCell_str (s:List UInt8):(AVal.str s).zdd=true:=eq_of_heq HEq.rfl
@[simp] theorem isCell_ptr (a b c:Nat):(AVal.ptr a b c).zdd=true:=eq_of_heq HEq.rfl
@[simp] theorem isCell_nilp:AVal.nilp.zdd=true:=eq_of_heq HEq.rfl
@[simp] theorem isCell_nils:AVal.nils.zdd=true:=eq_of_heq HEq.rfl
@[simp] theorem isCell_sz:AVal.sz.zdd=true:=eq_of_heq HEq.rfl
@[simp] theorem isCell_sl (a b c d e f:Nat):(AVal.sl a b c d e f).zdd=true:=eq_of_heq HEq.rfl
@[simp] theorem isCell_fn (f:Nat) (a b:List AVal):(AVal.fn f a b).zdd=true:=eq_of_heq HEq.rfl
@[simp] theorem isCell_nilm:AVal.nilm.zdd=true:=eq_of_heq HEq.rfl
@[simp] theorem isCell_mp (i:Nat):(AVal.mp i).zdd=true:=eq_of_heq HEq.rfl
@[simp] theorem isCell_nilf:AVal.nilf.zdd=true:=eq_of_heq HEq.rfl
@[simp] theorem upd_get (h:za) (id:Nat) (b:Blk):upd h id b id=some b:=zca h id b
@[simp] theorem upd_get_ne (h:za) {id i:Nat} (b:Blk) (hne:i≠id):upd h id b i=h i:=z6 h b hne
attribute [simp] upd_upd
@[simp] theorem joinV_some (v:AVal) (l:List AVal):zlv (some v) (some l)=some (v::l):=eq_of_heq HEq.rfl
@[simp] theorem oneOf_one (v:AVal):oneOf (some [v])=some v:=eq_of_heq HEq.rfl
@[simp] theorem oneOf_more (v w:AVal) (l:List AVal):oneOf (some (v::w::l))=some (.tup (v::w::l)):=eq_of_heq HEq.rfl
theorem wrap_i64 {n:Int} (h1: -9223372036854775808 <= n) (h2:n <= 9223372036854775807):IntKind.i64.wrap n=n:=by
 rw [IntKind.wrap_i64];omega
def foot:AVal->Option Nat
 | .sl id _ _ _ _ _=>some id
 | .ptr id _ _=>some id
 | .mp id=>some id
 | _=>none
structure SlX (h:za) (es:Nat) (x:AVal) (L R:List (List AVal)):Prop where
 len: ∀ p∈L++R,p.length=es
 at_:(L=[] /\ R=[] /\ (x= .nils \/ x= .sz)) \/ ∃ id g off cp b hi,x= .sl id g off L.length es cp /\ L.length+R.length <= max L.length cp /\ h id=some b /\ b.gens.lookup g=some hi /\
  off+(L.length+R.length)*es <= hi /\ hi <= b.cells.length /\ (b.cells.drop off).take ((L.length+R.length)*es)=(L++R).flatten
abbrev SlIs (h:za) (es:Nat) (x:AVal) (L:List (List AVal)):Prop:=SlX h es x L []
theorem SlX.nils (h:za) (es:Nat):SlX h es .nils [] []:=⟨fun _ hp=>(by cases hp),.inl ⟨rfl,rfl,.inl rfl⟩⟩
theorem SlX.sz (h:za) (es:Nat):SlX h es .sz [] []:=⟨fun _ hp=>(by cases hp),.inl ⟨rfl,rfl,.inr rfl⟩⟩
theorem flat_get {α:Type} {n:Nat}: ∀ {css:List (List α)},(∀ cs∈css,cs.length=n)-> ∀ (i f:Nat) (c:List α),css[i]? =some c->f<n->css.flatten[i*n+f]? =c[f]?
 | [],_,_,_,_,h,_=>by simp at h
 | c0::css,hl,0,f,c,h,hf=>by
  simp only [List.getElem?_cons_zero,Option.some.injEq] at h
  subst h
  have:=hl c0 (by simp)
  rw [List.flatten_cons,Nat.zero_mul,Nat.zero_add,List.getElem?_append_left (by omega)]
 | c0::css,hl,i+1,f,c,h,hf=>by
  simp only [List.getElem?_cons_succ] at h
  have h0:=hl c0 (by simp)
  rw [List.flatten_cons,List.getElem?_append_right (by rw [h0,Nat.add_mul];omega), <- flat_get (fun cs hcs=>hl cs (by simp [hcs])) i f c h hf]
  congr 1
  rw [h0,Nat.add_mul];omega
theorem zlk {α:Type} {n:Nat}: ∀ {css:List (List α)},(∀ cs∈css,cs.length=n)->css.flatten.length=css.length*n
 | [],_=>by simp
 | c::css,hl=>by
  have hc:c.length=n:=hl c (by simp)
  rw [List.flatten_cons,List.length_append,zlk (fun cs hcs=>hl cs (by simp [hcs])),hc,List.length_cons,Nat.add_mul]
  omega
section
variable {h H h0:za} {es:Nat} {x:AVal} {L R:List (List AVal)}
theorem SlX.mono (hs:SlX h es x L R) (hle:h.le H):SlX H es x L R:=by
 refine ⟨hs.len,?_⟩
 rcases hs.at_ with e|⟨id,g,off,cp,b,hi,h1,h1',h2,h3,h4,hh,h5⟩
 ·exact .inl e
 ·exact .inr ⟨id,g,off,cp,b,hi,h1,h1',hle _ _ h2,h3,h4,hh,h5⟩
theorem SlX.keep (hs:SlX h es x L R) (hk: ∀ id b,foot x=some id->h id=some b->H id=some b):SlX H es x L R:=by
 refine ⟨hs.len,?_⟩
 rcases hs.at_ with e|⟨id,g,off,cp,b,hi,h1,h1',h2,h3,h4,hh,h5⟩
 ·exact .inl e
 ·exact .inr ⟨id,g,off,cp,b,hi,h1,h1',hk _ _ (by rw [h1];rfl) h2,h3,h4,hh,h5⟩
theorem SlX.known (hs:SlX h es x L R) {id:Nat} (hx:foot x=some id): ∃ b,h id=some b:=by
 rcases hs.at_ with ⟨_,_,e|e⟩|⟨id,g,off,cp,b,hi,h1,h1',h2,_⟩
 ·subst e;cases hx
 ·subst e;cases hx
 ·subst h1;cases hx;exact ⟨b,h2⟩
theorem SlX.cut (hs:SlX h es x L R):SlIs h es x L:=by
 refine ⟨fun p hp=>hs.len p (by simpa using .inl (by simpa using hp)),?_⟩
 rcases hs.at_ with ⟨e,_,e'⟩|⟨id,g,off,cp,b,hi,h1,h1',h2,h3,h4,hh,h5⟩
 ·exact .inl ⟨e,rfl,e'⟩
 ·have hl: ∀ p∈L,p.length=es:=fun p hp=>hs.len p (List.mem_append_left _ hp)
  have hfl:=zlk hl
  refine .inr ⟨id,g,off,cp,b,hi,h1,by simp;omega,h2,h3,?_,hh,?_⟩
  ·simp only [List.length_nil,Nat.add_zero];rw [Nat.add_mul] at h4;omega
  ·simp only [List.length_nil,Nat.add_zero,List.append_nil]
   have:((b.cells.drop off).take ((L.length+R.length)*es)).take (L.length*es)=L.flatten:=by
    rw [h5,List.flatten_append,List.take_append_of_le_length (by omega),List.take_of_length_le (by omega)]
   rw [<- this,List.take_take,Nat.min_eq_left]
   rw [Nat.add_mul];omega
theorem SlX.zcw (hs:SlX h es x L R):V.zcw x=some (.int .i64 L.length):=by
 rcases hs.at_ with ⟨e,_,e'|e'⟩|⟨id,g,off,cp,b,hi,h1,_⟩
 ·subst e e';rfl
 ·subst e e';rfl
 ·subst h1;rfl
theorem SlX.zdd (hs:SlX h es x L R):x.zdd=true:=by
 rcases hs.at_ with ⟨e,_,e'|e'⟩|⟨id,g,off,cp,b,hi,h1,_⟩
 ·subst e';rfl
 ·subst e';rfl
 ·subst h1;rfl
theorem SlX.zgv (hs:SlX h es x L R):A.zgv x=some L.length:=by
 rcases hs.at_ with ⟨e,_,e'|e'⟩|⟨id,g,off,cp,b,hi,h1,_⟩
 ·subst e e';rfl
 ·subst e e';rfl
 ·subst h1;rfl
def elp (es:Nat) (x:AVal) (i f:Nat):AVal:=
 match x with
 | .sl id g off _ _ _=> .ptr id g (off+i*es+f)
 | _=> .undef
theorem SlX.idx (hs:SlX h es x L R) {k:IntKind} {n:Int} (h0:0 <= n) (hn:n<L.length):V.idxS es x (.int k n)=some (elp es x n.toNat 0):=by
 rcases hs.at_ with ⟨e,_⟩|⟨id,g,off,cp,b,hi,h1,_⟩
 ·subst e;simp at hn;omega
 ·subst h1
  simp [V.idxS,elp,h0,hn]
theorem SlX.idxN (hs:SlX h es x L R) {k:IntKind} {i:Nat} (hn:i<L.length):V.idxS es x (.int k i)=some (elp es x i 0):=by
 have:=hs.idx (k:=k) (n:=(i:Int)) (by omega) (by omega)
 simpa using this
theorem SlX.zqc (hs:SlX h es x L R) {i:Nat} (hn:i<L.length) (f o:Nat):V.fieldAddr o (elp es x i f)=some (elp es x i (f+o)):=by
 rcases hs.at_ with ⟨e,_⟩|⟨id,g,off,cp,b,hi,h1,_⟩
 ·subst e;simp at hn
 ·subst h1
  simp [elp,Nat.add_assoc]
theorem SlX.ldvX (hs:SlX h es x L R) {i f:Nat} {c:List AVal} (hi:i<L.length) (hc:(L++R)[i]? =some c) (hf:f<es):A.ldv h (elp es x i f)=c[f]? :=by
 rcases hs.at_ with ⟨e,e',_⟩|⟨id,g,off,cp,b,hi',h1,h1',h2,h3,h4,hh,h5⟩
 ·subst e;simp at hi
 ·have hm:i*es+f<(L.length+R.length)*es:=by
   have:(i+1)*es <= (L.length+R.length)*es:=Nat.mul_le_mul_right _ (by omega)
   rw [Nat.add_mul] at this
   omega
  subst h1
  have h6:=flat_get hs.len i f c hc hf
  rw [<- h5,List.getElem?_take_of_lt hm,List.getElem?_drop] at h6
  simp only [elp,A.ldv,h2,h3]
  rw [if_pos (by omega),Nat.add_assoc,h6]
theorem SlX.ldv (hs:SlX h es x L R) {i f:Nat} {c:List AVal} (hc:L[i]? =some c) (hf:f<es):A.ldv h (elp es x i f)=c[f]? :=by
 have hi:=(List.getElem?_eq_some_iff.1 hc).1
 exact hs.ldvX hi (by rw [List.getElem?_append_left hi];exact hc) hf
theorem SlX.ldnv (hs:SlX h es x L R) {i f n:Nat} {c:List AVal} (hc:L[i]? =some c) (hf:f+n <= es):A.ldnv h (elp es x i f) n=some (.agg ((c.drop f).take n)):=by
 have hi:=(List.getElem?_eq_some_iff.1 hc).1
 have hcl:=hs.len c (List.mem_append_left _ (List.mem_of_getElem? hc))
 rcases hs.at_ with ⟨e,e',_⟩|⟨id,g,off,cp,b,hi',h1,h1',h2,h3,h4,hh,h5⟩
 ·subst e;simp at hi
 ·have hm:i*es+es <= (L.length+R.length)*es:=by
   have:(i+1)*es <= (L.length+R.length)*es:=Nat.mul_le_mul_right _ (by omega)
   rw [Nat.add_mul] at this
   omega
  subst h1
  simp only [elp,A.ldnv,h2,h3]
  rw [if_pos (by omega)]
  congr 2
  apply List.ext_getElem?
  intro k
  by_cases hk:k<n
  ·rw [List.getElem?_take_of_lt hk,List.getElem?_take_of_lt hk,List.getElem?_drop,List.getElem?_drop]
   have h6:=flat_get hs.len i (f+k) c (by rw [List.getElem?_append_left hi];exact hc) (by omega)
   rw [<- h5,List.getElem?_take_of_lt (by omega),List.getElem?_drop] at h6
   rw [<- h6]
   congr 1
   omega
  ·rw [List.getElem?_take_eq_none (by omega),List.getElem?_take_eq_none (by omega)]
theorem SlX.elem (hs:SlX h es x L R) {i:Nat} {c:List AVal} (hc:L[i]? =some c):A.ldnv h (elp es x i 0) es=some (.agg c):=by
 rw [hs.ldnv hc (by omega)]
 have:=hs.len c (List.mem_append_left _ (List.mem_of_getElem? hc))
 simp [<- this]
theorem SlX.rdv (hs:SlX h es x L R):A.rdv h x L.length es=some L.flatten:=by
 have hs:=hs.cut
 rcases hs.at_ with ⟨e,_,e'|e'⟩|⟨id,g,off,cp,b,hi,h1,h1',h2,h3,h4,hh,h5⟩
 ·subst e e';rfl
 ·subst e e';rfl
 ·subst h1
  simp only [List.length_nil,Nat.add_zero,List.append_nil] at h4 h5
  simp only [A.rdv,h2,h3]
  rw [if_pos ⟨Nat.le_refl _,h4⟩,h5]
theorem endsC_eq {n cp lo hi:Nat} {a b:Option AVal} (ha:a=none /\ lo=0 \/ ∃ k,a=some (.int k lo)) (hb:b=none /\ hi=n \/ ∃ k,b=some (.int k hi)):
  V.endsC n cp a b=if lo <= hi /\ hi <= max n cp then some (lo,hi) else none:=by
 rcases ha with ⟨rfl,rfl⟩|⟨k,rfl⟩<;>rcases hb with ⟨rfl,rfl⟩|⟨k',rfl⟩<;>simp [V.endsC,V.asNat]
theorem SlX.slice (hs:SlX h es x L R) (hes:0<es) {lo hi:Nat} {a b:Option AVal} (ha:a=none /\ lo=0 \/ ∃ k,a=some (.int k lo)) (hb:b=none /\ hi=L.length \/ ∃ k,b=some (.int k hi)) (h1:lo <= hi) (h2:hi <= L.length+R.length):
  ∃ x',V.zh2 es x a b=some x' /\ SlX h es x' (((L++R).take hi).drop lo) ((L++R).drop hi) /\ foot x'=foot x:=by
 rcases hs.at_ with ⟨e,e',e''⟩|⟨id,g,off,cp,bk,hh,k1,k1',k2,k3,k4,k5,k6⟩
 ·subst e e'
  simp only [List.length_nil,Nat.add_zero,Nat.le_zero_eq] at h2
  subst h2
  have:lo=0:=by omega
  subst this
  refine ⟨x,?_,⟨by simp,.inl ⟨by simp,by simp,e''⟩⟩,rfl⟩
  rcases e'' with rfl|rfl<;>simp only [V.zh2,V.ends,endsC_eq (n:=0) ha hb]<;>rfl
 ·subst k1
  have hlt:(L++R).length=L.length+R.length:=by simp
  refine ⟨.sl id g (off+lo*es) (hi-lo) es (max L.length cp-lo),?_,⟨fun p hp=>hs.len p ?_,.inr ⟨id,g,off+lo*es,max L.length cp-lo,bk,hh,?_,?_,k2,k3,?_,k5,?_⟩⟩,rfl⟩
  ·simp only [V.zh2,endsC_eq ha hb]
   rw [if_pos ⟨h1,by omega⟩]
   simp
  ·rcases List.mem_append.1 hp with hp|hp
   ·exact List.mem_of_mem_take (List.mem_of_mem_drop hp)
   ·exact List.mem_of_mem_drop hp
  ·simp only [List.length_drop,List.length_take,hlt,Nat.min_eq_left h2]
  ·simp only [List.length_drop,List.length_take,hlt,Nat.min_eq_left h2];omega
  ·simp only [List.length_drop,List.length_take,hlt,Nat.min_eq_left h2]
   have:lo*es+(hi-lo+(L.length+R.length-hi))*es=(L.length+R.length)*es:=by rw [<- Nat.add_mul];congr 1;omega
   omega
  ·simp only [List.length_drop,List.length_take,hlt,Nat.min_eq_left h2]
   have e1:((L++R).take hi).drop lo++(L++R).drop hi=(L++R).drop lo:=by
    have hg: ∀ M:List (List AVal),lo <= (M.take hi).length->(M.take hi).drop lo++M.drop hi=M.drop lo:=fun M hM=>by
     rw [<- List.drop_append_of_le_length hM,List.take_append_drop]
    exact hg _ (by rw [List.length_take,hlt];omega)
   rw [e1]
   have e2:((L++R).drop lo).flatten=(L++R).flatten.drop (lo*es):=by
    have hd: ∀ (M:List (List AVal)) (n:Nat),(∀ p∈M,p.length=es)->(M.drop n).flatten=M.flatten.drop (n*es):=by
     intro M
     induction M with
     | nil=>intro n _;simp
     | cons c M ih=>
      intro n hM
      cases n with
      | zero=>simp
      | succ n=>
       have hc:c.length=es:=hM c (by simp)
       rw [List.drop_succ_cons,ih n (fun p hp=>hM p (by simp [hp])),List.flatten_cons,Nat.add_mul,Nat.one_mul]
       rw [show n*es+es=c.length+n*es by omega,List.drop_length_add_append]
    exact hd _ _ hs.len
   rw [e2, <- k6,List.drop_take,List.drop_drop]
   congr 1
   rw [<- Nat.sub_mul];congr 1;omega
def But (x:AVal) (h h':za):Prop:= ∀ j b,h j=some b->foot x≠some j->h' j=some b
theorem But.of_le (x:AVal) (hle:h.le H):But x h H:=fun j b e _=>hle j b e
theorem zib (g n:Nat) (l:List (Nat×Nat)):List.lookup g ((g,n)::l)=some n:=by simp [List.lookup]
theorem SlX.app {bytes:Nat} {M:List (List AVal)} {K:zQ} (ho:SlX h es x L R) (hown: ∀ id b,foot x=some id->h id=some b->b.own=true) (hes:0<es) (hM: ∀ p∈M,p.length=es) (hb:(L.length+M.length)*bytes <= 140737488355328) (hm:L.length+M.length <= maxLen)
  (hk: ∀ x' h',SlIs h' es x' (L++M)->(∀ id b,foot x'=some id->h' id=some b->b.own=true)->But x h h'->(foot x'=foot x \/ ∀ id,foot x'=some id->h id=none)->K x' h'):A.app h es bytes x (some M.flatten) K:=by
 have hl:=zlk hM
 have hd:M.flatten.length / es=M.length:=by rw [hl,Nat.mul_div_cancel _ hes]
 have hall: ∀ p∈(L++M)++[],p.length=es:=fun p hp=>by
  rw [List.append_nil] at hp
  rcases List.mem_append.1 hp with hp|hp
  ·exact ho.len p (List.mem_append_left _ hp)
  ·exact hM p hp
 have fresh:L=[]->(M≠[]->(M.flatten.length / es)*bytes <= 140737488355328 /\ M.flatten.length / es <= maxLen /\ A.new h M.flatten fun id h=>K (.sl id 0 0 (M.flatten.length / es) es (M.flatten.length / es)) h):=fun e hne=>by
  subst e
  rw [hd]
  simp only [List.length_nil,Nat.zero_add] at hb hm
  refine ⟨hb,hm,fun id hid=> ?_⟩
  refine hk _ _ ⟨hall,.inr ⟨id,0,0,_,zek M.flatten,M.flatten.length,by simp only [List.nil_append];exact rfl,by simp,zca ..,zib ..,by simp [hl],Nat.le_refl _,?_⟩⟩ (fun j b hj hb'=> ?_) (But.of_le _ (zgm _ hid)) (.inr fun j hj=> ?_)
  ·simp only [List.nil_append,List.append_nil,List.length_nil,Nat.add_zero, <- hl,zek,List.drop_zero,List.take_length]
  ·cases hj
   rw [zca] at hb';cases hb';rfl
  ·cases hj;exact hid
 have hnil:M=[] \/ M.flatten.length≠0:=by
  cases M with
  | nil=>exact .inl rfl
  | cons a r=>
   refine .inr ?_
   rw [hl,List.length_cons,Nat.add_mul]
   omega
 have h0:=ho.cut
 rcases h0.at_ with ⟨e,_,e'|e'⟩|⟨id,g,off,cp,b,hi,h1,h1',h2,h3,h4,hh,h5⟩
 ·subst e'
  simp only [A.app]
  split
  ·rename_i hz
   rcases hnil with hn|hn
   ·subst hn;exact hk _ _ (by simpa using h0) (fun _ _ hj=>by cases hj) (But.of_le _ (za.le_refl h)) (.inl rfl)
   ·exact absurd hz hn
  ·rename_i hz
   exact fresh e fun hn=>hz (by rw [hn];rfl)
 ·subst e'
  simp only [A.app]
  split
  ·rename_i hz
   rcases hnil with hn|hn
   ·subst hn;exact hk _ _ (by simpa using h0) (fun _ _ hj=>by cases hj) (But.of_le _ (za.le_refl h)) (.inl rfl)
   ·exact absurd hz hn
  ·rename_i hz
   exact fresh e fun hn=>hz (by rw [hn];rfl)
 ·have hown':=hown id b (by rw [h1];rfl) h2
  subst h1
  simp only [List.length_nil,Nat.add_zero,List.append_nil] at h4 h5
  simp only [A.app,h2,h3,hd,hown',cond_true]
  have hcl:off+L.length*es <= b.cells.length:=by omega
  have htl:(b.cells.take (off+L.length*es)).length=off+L.length*es:=by simp;omega
  refine ⟨trivial,trivial,h4,hb,hm,hk _ _ ⟨hall,.inr ⟨id,b.next,off,_,_,off+L.length*es+M.flatten.length,by rw [List.length_append],by simp,zca ..,zib ..,?_,?_,?_⟩⟩ (fun j b1 hj hb1=> ?_) (fun j b1 e1 e2=> ?_) (.inl rfl)⟩
  ·rw [List.length_append,List.length_nil,Nat.add_zero,Nat.add_mul,hl];omega
  ·simp only [zhz,List.length_append,htl];omega
  ·simp only [zhz,List.append_nil,List.length_nil,Nat.add_zero]
   rw [List.drop_append_of_le_length (by omega),List.length_append,Nat.add_mul, <- hl,List.flatten_append, <- h5]
   have e1:(b.cells.take (off+L.length*es)).drop off=(b.cells.drop off).take (L.length*es):=by
    rw [List.drop_take];congr 1;omega
   have e2:((b.cells.drop off).take (L.length*es)).length=L.length*es:=by simp;omega
   rw [e1,List.take_of_length_le]
   rw [List.length_append,e2];omega
  ·cases hj
   rw [zca] at hb1;cases hb1;exact hown'
  ·rw [z6]
   ·exact e1
   ·intro e;subst e;exact e2 rfl
theorem SlX.appW {bytes:Nat} {y:AVal} {M R':List (List AVal)} {K:zQ} (ho:SlX h es x L R) (hown: ∀ id b,foot x=some id->h id=some b->b.own=true) (hs:SlX h es y M R') (hes:0<es) (hb:(L.length+M.length)*bytes <= 140737488355328) (hm:L.length+M.length <= maxLen)
  (hk: ∀ x' h',SlIs h' es x' (L++M)->(∀ id b,foot x'=some id->h' id=some b->b.own=true)->But x h h'->(foot x'=foot x \/ ∀ id,foot x'=some id->h id=none)->K x' h'):A.appW h es bytes x y K:=by
 unfold A.appW
 rw [hs.zgv]
 simp only
 rw [hs.rdv]
 exact ho.app hown hes (fun p hp=>hs.len p (List.mem_append_left _ hp)) hb hm hk
theorem zp9 {α:Type} {n:Nat}: ∀ {L:List (List α)},(∀ c∈L,c.length=n)-> ∀ (i f:Nat) (c xs:List α),L[i]? =some c->f+xs.length <= n ->
  (L.set i (c.take f++xs++c.drop (f+xs.length))).flatten=L.flatten.take (i*n+f)++xs++L.flatten.drop (i*n+f+xs.length)
 | [],_,_,_,_,_,h,_=>by simp at h
 | c0::L,hl,0,f,c,xs,h,hf=>by
  simp only [List.getElem?_cons_zero,Option.some.injEq] at h
  subst h
  have:=hl c0 (by simp)
  rw [List.set_cons_zero,List.flatten_cons,List.flatten_cons,Nat.zero_mul,Nat.zero_add,List.take_append_of_le_length (by omega),List.drop_append_of_le_length (by omega),List.append_assoc]
 | c0::L,hl,i+1,f,c,xs,h,hf=>by
  simp only [List.getElem?_cons_succ] at h
  have h0:=hl c0 (by simp)
  rw [List.set_cons_succ,List.flatten_cons,List.flatten_cons,zp9 (fun c hc=>hl c (by simp [hc])) i f c xs h hf]
  have e1:(i+1)*n+f=c0.length+(i*n+f):=by rw [h0,Nat.add_mul];omega
  have e2:(i+1)*n+f+xs.length=c0.length+(i*n+f+xs.length):=by rw [h0,Nat.add_mul];omega
  rw [e1,List.take_length_add_append,show c0.length+(i*n+f)+xs.length=c0.length+(i*n+f+xs.length) by omega,List.drop_length_add_append]
  simp [List.append_assoc]
theorem zli {α:Type} (A xs B:List α) {p:Nat} (hA:A.length=p) (k:Nat):(A++(xs++B))[k]? =if k<p then A[k]? else if k-p<xs.length then xs[k-p]? else B[k-p-xs.length]? :=by
 subst hA
 split
 ·rw [List.getElem?_append_left (by omega)]
 ·rw [List.getElem?_append_right (by omega)]
  split
  ·rw [List.getElem?_append_left (by omega)]
  ·rw [List.getElem?_append_right (by omega)]
theorem zqt {α:Type} (l:List α) (p:Nat) (v:α) (hp:p<l.length):l.set p v=l.take p++[v]++l.drop (p+1):=by
 rw [List.set_eq_take_append_cons_drop,if_pos hp];simp
theorem splice_read {i f n off hi:Nat} {cells c xs:List AVal} {T:List (List AVal)} (hT: ∀ p∈T,p.length=es) (h4:off+T.length*es <= hi) (hh:hi <= cells.length)
  (h5:(cells.drop off).take (T.length*es)=T.flatten) (hc:T[i]? =some c) (hn:xs.length=n) (hf:f+n <= es):
  ((cells.take (off+i*es+f)++xs++cells.drop (off+i*es+f+n)).drop off).take (T.length*es)=(T.set i (c.take f++xs++c.drop (f+n))).flatten /\ (cells.take (off+i*es+f)++xs++cells.drop (off+i*es+f+n)).length=cells.length:=by
 subst hn
 have hlt:i<T.length:=(List.getElem?_eq_some_iff.1 hc).1
 have hm:i*es+es <= T.length*es:=by
  have:(i+1)*es <= T.length*es:=Nat.mul_le_mul_right _ hlt
  rw [Nat.add_mul] at this
  omega
 refine ⟨?_,by simp;omega⟩
 rw [zp9 hT i f c xs hc hf, <- h5]
 apply List.ext_getElem?
 intro k
 have hfl:((cells.drop off).take (T.length*es)).length=T.length*es:=by simp;omega
 by_cases hk:k<T.length*es
 ·rw [List.getElem?_take_of_lt hk,List.getElem?_drop,List.append_assoc,List.append_assoc]
  have l1:(cells.take (off+i*es+f)).length=off+i*es+f:=by simp;omega
  have l2:(((cells.drop off).take (T.length*es)).take (i*es+f)).length=i*es+f:=by simp;omega
  rw [zli _ _ _ l1,zli _ _ _ l2,show off+k-(off+i*es+f)=k-(i*es+f) by omega]
  by_cases k1:k<i*es+f
  ·rw [if_pos (by omega),if_pos k1,List.getElem?_take_of_lt (by omega),List.getElem?_take_of_lt (by omega),List.getElem?_take_of_lt (by omega),List.getElem?_drop]
  ·rw [if_neg (by omega),if_neg k1]
   split
   ·rfl
   ·rw [List.getElem?_drop,List.getElem?_drop,List.getElem?_take_of_lt (by omega),List.getElem?_drop]
    congr 1
    omega
 ·rw [List.getElem?_take_eq_none (by omega),List.getElem?_eq_none]
  simp
  omega
theorem SlX.stn' {i f n:Nat} {c xs:List AVal} {K:za->Prop} (ho:SlX h es x L R) (hown: ∀ id b,foot x=some id->h id=some b->b.own=true) (hc:L[i]? =some c) (hn:xs.length=n) (hf:f+n <= es) (fn:List AVal->Option (List AVal))
  (hfn: ∀ (cells:List AVal) (p:Nat),A.zn9 (elp es x i f)=p->p+n <= cells.length->fn cells=some (cells.take p++xs++cells.drop (p+n)))
  (hk: ∀ h',SlX h' es x (L.set i (c.take f++xs++c.drop (f+n))) R->(∀ id b,foot x=some id->h' id=some b->b.own=true)->But x h h'->K h'):A.ph (A.stv h (elp es x i f) fn n 0) K:=by
 have hi0:i<L.length:=(List.getElem?_eq_some_iff.1 hc).1
 rcases ho.at_ with ⟨e,_⟩|⟨id,g,off,cp,b,hi,h1,h1',h2,h3,h4,hh,h5⟩
 ·subst e;simp at hc
 ·have hm:i*es+es <= (L.length+R.length)*es:=by
   have:(i+1)*es <= (L.length+R.length)*es:=Nat.mul_le_mul_right _ (by omega)
   rw [Nat.add_mul] at this
   omega
  have hown':=hown id b (by rw [h1];rfl) h2
  have hcT:(L++R)[i]? =some c:=by rw [List.getElem?_append_left hi0];exact hc
  have hlen:(L++R).length=L.length+R.length:=by simp
  obtain ⟨r1,r2⟩:=splice_read (off:=off) (hi:=hi) (cells:=b.cells) ho.len (by rw [hlen];exact h4) hh (by rw [hlen];exact h5) hcT hn hf
  have hset:(L++R).set i (c.take f++xs++c.drop (f+n))=L.set i (c.take f++xs++c.drop (f+n))++R:=by rw [List.set_append_left _ _ hi0]
  rw [hset,hlen] at r1
  have hcl:=ho.len c (List.mem_append_left _ (List.mem_of_getElem? hc))
  have hbl:Nat.ble (0+(off+i*es+f)+n) hi=true:=by rw [Nat.ble_eq];omega
  have hp:=hfn b.cells (off+i*es+f) (by rw [h1];rfl) (by omega)
  have hlen': ∀ p∈L.set i (c.take f++xs++c.drop (f+n))++R,p.length=es:=fun p hp=>by
   rcases List.mem_append.1 hp with hp|hp
   ·rcases List.mem_or_eq_of_mem_set hp with hp|hp
    ·exact ho.len p (List.mem_append_left _ hp)
    ·subst hp;simp;omega
   ·exact ho.len p (List.mem_append_right _ hp)
  subst h1
  simp only [elp,A.stv,h2,h3,hown',hbl,Bool.true_and,cond_true,hp,A.ph]
  refine hk _ ⟨hlen',.inr ⟨id,g,off,cp,_,hi,by rw [List.length_set],by rw [List.length_set];exact h1',zca ..,zib ..,by rw [List.length_set];exact h4,by simp only;rw [r2];exact hh,by simp only;rw [List.length_set];exact r1⟩⟩ (fun j b1 hj hb1=> ?_) (fun j b1 e1 e2=> ?_)
  ·cases hj
   rw [zca] at hb1;cases hb1;rfl
  ·rw [z6]
   ·exact e1
   ·intro e;subst e;exact e2 rfl
theorem SlX.st {i f:Nat} {c:List AVal} {v:AVal} {K:za->Prop} (ho:SlX h es x L R) (hown: ∀ id b,foot x=some id->h id=some b->b.own=true) (hc:L[i]? =some c) (hf:f<es) (hv:v.zdd=true)
  (hk: ∀ h',SlX h' es x (L.set i (c.set f v)) R->(∀ id b,foot x=some id->h' id=some b->b.own=true)->But x h h'->K h'):A.st h (elp es x i f) v K:=by
 have hcl:=ho.len c (List.mem_append_left _ (List.mem_of_getElem? hc))
 refine ho.stn' hown hc (xs:=[v]) (n:=1) rfl hf _ (fun cells p hp hle=> ?_) ?_
 ·rw [<- hp] at hle ⊢
  simp only [V.put1,hv,cond_true]
  rw [if_pos (by omega),zqt _ _ _ (by omega)]
 ·rw [<- zqt c f v (by omega)];exact hk
theorem SlX.stn {i f n:Nat} {c xs:List AVal} {K:za->Prop} (ho:SlX h es x L R) (hown: ∀ id b,foot x=some id->h id=some b->b.own=true) (hc:L[i]? =some c) (hn:xs.length=n) (hf:f+n <= es)
  (hk: ∀ h',SlX h' es x (L.set i (c.take f++xs++c.drop (f+n))) R->(∀ id b,foot x=some id->h' id=some b->b.own=true)->But x h h'->K h'):A.stn h (elp es x i f) n (.agg xs) K:=by
 refine ho.stn' hown hc hn hf _ (fun cells p hp hle=> ?_) hk
 rw [<- hp] at hle ⊢
 simp only [V.putN]
 rw [if_pos ⟨hn,hle⟩]
end
inductive Ob where
 | sl (es:Nat) (x:AVal) (L R:List (List AVal))
 | box (p:AVal) (cs:List AVal)
 | blk (id:Nat) (b:Blk)
def Ob.foot:Ob->Option Nat
 | .sl _ x _ _=>Ab.foot x
 | .box p _=>Ab.foot p
 | .blk id _=>some id
def Ob.at (h:za):Ob->Prop
 | .sl es x L R=>SlX h es x L R
 | .box p cs=> ∃ id,p= .ptr id 0 0 /\ h id=some (zek cs)
 | .blk id b=>h id=some b
theorem Ob.at.keep {h H:za} {o:Ob} (hs:o.at h) (hk: ∀ id b,o.foot=some id->h id=some b->H id=some b):o.at H:=by
 cases o with
 | sl es x L R=>exact SlX.keep hs hk
 | box p cs=>obtain ⟨id,rfl,e⟩:=hs;exact ⟨id,rfl,hk id _ rfl e⟩
 | blk id b=>exact hk id b rfl hs
theorem Ob.at.known {h:za} {o:Ob} (hs:o.at h) {id:Nat} (hf:o.foot=some id): ∃ b,h id=some b:=by
 cases o with
 | sl es x L R=>exact SlX.known hs hf
 | box p cs=>obtain ⟨id',rfl,e⟩:=hs;cases hf;exact ⟨_,e⟩
 | blk id b=>cases hf;exact ⟨_,hs⟩
structure Owns (h0 h:za) (l:List Ob):Prop where
 le:h0.le h
 is: ∀ o∈l,o.at h
 own: ∀ o∈l,∀ id,o.foot=some id->h0 id=none /\ ∀ b,h id=some b->b.own=true
 apart:l.Pairwise fun a b=> ∀ id,a.foot=some id->b.foot≠some id
section
variable {h0 h h' H:za} {l l':List Ob}
theorem Owns.nil (hle:h0.le h):Owns h0 h []:=⟨hle,fun _ h=>(by cases h),fun _ h=>(by cases h),.nil⟩
theorem Owns.start (h:za):Owns h h []:=Owns.nil (za.le_refl h)
theorem Owns.sub (ho:Owns h0 h l) (hs:l'.Sublist l):Owns h0 h l':=⟨ho.le,fun o hm=>ho.is o (hs.subset hm),fun o hm=>ho.own o (hs.subset hm),ho.apart.sublist hs⟩
theorem Owns.grow (ho:Owns h0 h l) (hle:h.le H):Owns h0 H l:=
 ⟨za.le_trans ho.le hle,fun o hm=>(ho.is o hm).keep fun _ _ _ e=>hle _ _ e,fun o hm id hf=>by
  obtain ⟨a,b⟩:=ho.own o hm id hf
  obtain ⟨b',hb'⟩:=(ho.is o hm).known hf
  exact ⟨a,fun c hc=>(by rw [hle _ _ hb'] at hc;cases hc;exact b _ hb')⟩,ho.apart⟩
theorem Owns.back (ho:Owns h0 h l) (hle:H.le h0):Owns H h l:=
 ⟨za.le_trans hle ho.le,ho.is,fun o hm id hf=>⟨(by
  cases e:H id with
  | none=>rfl
  | some b=>have:=hle _ _ e;rw [(ho.own o hm id hf).1] at this;cases this),(ho.own o hm id hf).2⟩,ho.apart⟩
theorem Owns.join (ho:Owns h0 h l) (hn:Owns h h' l'):Owns h0 h' (l++l'):=by
 have g:=ho.grow hn.le
 have b:=hn.back ho.le
 refine ⟨g.le,fun o hm=> ?_,fun o hm=> ?_,List.pairwise_append.2 ⟨g.apart,hn.apart,fun x hx y hy id hf hf'=> ?_⟩⟩
 ·rcases List.mem_append.1 hm with hm|hm
  ·exact g.is o hm
  ·exact b.is o hm
 ·rcases List.mem_append.1 hm with hm|hm
  ·exact g.own o hm
  ·exact b.own o hm
 ·obtain ⟨c,hc⟩:=(ho.is x hx).known hf
  have:=(hn.own y hy id hf').1
  rw [hc] at this;cases this
theorem Owns.zpw (ho:Owns h0 h l) {id:Nat} (hid:h id=none) (cs:List AVal):Owns h0 (upd h id (zek cs)) (l++[.box (.ptr id 0 0) cs]):=
 ho.join ⟨zgm _ hid,fun o hm=>by rw [List.mem_singleton.1 hm];exact ⟨id,rfl,zca ..⟩,fun o hm j hj=>by rw [List.mem_singleton.1 hm] at hj;cases hj;exact ⟨hid,fun b hb=>by rw [zca] at hb;cases hb;rfl⟩,List.pairwise_singleton _ _⟩
theorem SlX.lit {h:za} {es:Nat} {id n cp:Nat} {cs:List AVal} {L R:List (List AVal)} (hb:h id=some (zek cs)) (hL: ∀ p∈L++R,p.length=es) (hn:n=L.length) (hcp:L.length+R.length <= cp) (hc:cs=(L++R).flatten):SlX h es (.sl id 0 0 n es cp) L R:=by
 subst hn hc
 have:=zlk hL
 rw [List.length_append] at this
 exact ⟨hL,.inr ⟨id,0,0,cp,_,_,rfl,by omega,hb,zib ..,by rw [this];omega,Nat.le_refl _,by rw [<- this];simp only [zek,List.drop_zero,List.take_length]⟩⟩
theorem Owns.zqk (ho:Owns h0 h l) {id n cp es:Nat} {cs:List AVal} {L R:List (List AVal)} (hid:h id=none) (hL: ∀ p∈L++R,p.length=es) (hn:n=L.length) (hcp:L.length+R.length <= cp) (hc:cs=(L++R).flatten):Owns h0 (upd h id (zek cs)) (l++[.sl es (.sl id 0 0 n es cp) L R]):=
 ho.join ⟨zgm _ hid,fun o hm=>by rw [List.mem_singleton.1 hm];exact SlX.lit (zca ..) hL hn hcp hc,fun o hm j hj=>by rw [List.mem_singleton.1 hm] at hj;cases hj;exact ⟨hid,fun b hb=>by rw [zca] at hb;cases hb;rfl⟩,List.pairwise_singleton _ _⟩
theorem Owns.nils (ho:Owns h0 h l) (es:Nat):Owns h0 h (l++[.sl es .nils [] []]):=
 ho.join ⟨za.le_refl h,fun o hm=>by rw [List.mem_singleton.1 hm];exact SlX.nils h es,fun o hm j hj=>(by rw [List.mem_singleton.1 hm] at hj;cases hj),List.pairwise_singleton _ _⟩
theorem Owns.sz (ho:Owns h0 h l) (es:Nat):Owns h0 h (l++[.sl es .sz [] []]):=
 ho.join ⟨za.le_refl h,fun o hm=>by rw [List.mem_singleton.1 hm];exact SlX.sz h es,fun o hm j hj=>(by rw [List.mem_singleton.1 hm] at hj;cases hj),List.pairwise_singleton _ _⟩
theorem Owns.at (ho:Owns h0 h l) (k:Nat) {o:Ob} (hk:l[k]? =some o):o.at h:=ho.is o (List.mem_of_getElem? hk)
theorem Owns.slAt (ho:Owns h0 h l) (k:Nat) {es:Nat} {x:AVal} {L R:List (List AVal)} (hk:l[k]? =some (.sl es x L R)):SlX h es x L R:=ho.at k hk
theorem Owns.zom (ho:Owns h0 h l) (k:Nat) {p:AVal} {cs:List AVal} (hk:l[k]? =some (.box p cs)): ∃ id,p= .ptr id 0 0 /\ h id=some (zek cs):=ho.at k hk
theorem Owns.off (ho:Owns h0 h l) {es:Nat} {x:AVal} {L R:List (List AVal)} (hs:SlX h0 es x L R) {o:Ob} (hm:o∈l): ∀ id,Ab.foot x=some id->o.foot≠some id:=fun id hf hf'=>by
 obtain ⟨b,hb⟩:=hs.known hf
 rw [(ho.own o hm id hf').1] at hb;cases hb
theorem Owns.turn (ho:Owns h0 h l) (k:Nat) {o o':Ob} (hk:l[k]? =some o) (hat:o'.at h') (hown: ∀ id b,o'.foot=some id->h' id=some b->b.own=true)
  (hbut: ∀ j b,h j=some b->o.foot≠some j->h' j=some b) (hf:o'.foot=o.foot \/ ∀ id,o'.foot=some id->h id=none):Owns h0 h' (l.set k o'):=by
 have hm:o∈l:=List.mem_of_getElem? hk
 have hlt:k<l.length:=(List.getElem?_eq_some_iff.1 hk).1
 have hne: ∀ i a,l[i]? =some a->i≠k-> ∀ id,a.foot=some id->o.foot≠some id:=fun i a hi hik id ha hb=>by
  rcases Nat.lt_or_gt_of_ne hik with hlt|hgt
  ·have:=List.pairwise_iff_getElem.1 ho.apart i k (List.getElem?_eq_some_iff.1 hi).1 (List.getElem?_eq_some_iff.1 hk).1 hlt
   rw [(List.getElem?_eq_some_iff.1 hi).2,(List.getElem?_eq_some_iff.1 hk).2] at this
   exact this id ha hb
  ·have:=List.pairwise_iff_getElem.1 ho.apart k i (List.getElem?_eq_some_iff.1 hk).1 (List.getElem?_eq_some_iff.1 hi).1 hgt
   rw [(List.getElem?_eq_some_iff.1 hi).2,(List.getElem?_eq_some_iff.1 hk).2] at this
   exact this id hb ha
 have hset: ∀ a∈l.set k o',a=o' \/ ∃ i,i≠k /\ l[i]? =some a:=fun a ha=>by
  obtain ⟨i,hi⟩:=List.getElem?_of_mem ha
  by_cases e:i=k
  ·subst e;rw [List.getElem?_set_self hlt] at hi;cases hi;exact .inl rfl
  ·rw [List.getElem?_set_ne (Ne.symm e)] at hi;exact .inr ⟨i,e,hi⟩
 have hle:h0.le h':=fun j b e=>hbut j b (ho.le j b e) fun hj=>by rw [(ho.own o hm j hj).1] at e;cases e
 have h0n: ∀ id,o'.foot=some id->h0 id=none:=fun id hid=>by
  rcases hf with hf|hf
  ·rw [hf] at hid;exact (ho.own o hm id hid).1
  ·cases e:h0 id with
   | none=>rfl
   | some b=>have:=ho.le _ _ e;rw [hf id hid] at this;cases this
 refine ⟨hle,fun a ha=> ?_,fun a ha id hid=> ?_,?_⟩
 ·rcases hset a ha with rfl|⟨i,hi,hl⟩
  ·exact hat
  ·exact (ho.is a (List.mem_of_getElem? hl)).keep fun id b hf' hb=>hbut id b hb (hne i a hl hi id hf')
 ·rcases hset a ha with rfl|⟨i,hi,hl⟩
  ·exact ⟨h0n id hid,fun b hb=>hown id b hid hb⟩
  ·have hma:=List.mem_of_getElem? hl
   obtain ⟨b',hb'⟩:=(ho.is a hma).known hid
   refine ⟨(ho.own a hma id hid).1,fun b hb=> ?_⟩
   rw [hbut id b' hb' (hne i a hl hi id hid)] at hb
   cases hb;exact (ho.own a hma id hid).2 _ hb'
 ·have sym: ∀ i a,l[i]? =some a->i≠k-> ∀ id,a.foot=some id->o'.foot≠some id:=fun i a hl hi id ha hb=>by
   rcases hf with hf|hf
   ·rw [hf] at hb;exact hne i a hl hi id ha hb
   ·obtain ⟨b',hb'⟩:=(ho.is a (List.mem_of_getElem? hl)).known ha
    rw [hf id hb] at hb';cases hb'
  rw [List.pairwise_iff_getElem]
  intro i j hi hj hij id ha hb
  have li:(l.set k o')[i]? =some (l.set k o')[i]:=List.getElem?_eq_getElem hi
  have lj:(l.set k o')[j]? =some (l.set k o')[j]:=List.getElem?_eq_getElem hj
  by_cases e1:i=k
  ·have e2:j≠k:=by omega
   rw [List.getElem?_set_ne (Ne.symm e2)] at lj
   subst e1
   rw [List.getElem?_set_self hlt] at li
   rw [<- Option.some.inj li] at ha
   exact sym j _ lj e2 id hb ha
  ·rw [List.getElem?_set_ne (Ne.symm e1)] at li
   by_cases e2:j=k
   ·subst e2
    rw [List.getElem?_set_self hlt] at lj
    rw [<- Option.some.inj lj] at hb
    exact sym i _ li e1 id ha hb
   ·rw [List.getElem?_set_ne (Ne.symm e2)] at lj
    have:=List.pairwise_iff_getElem.1 ho.apart i j (List.getElem?_eq_some_iff.1 li).1 (List.getElem?_eq_some_iff.1 lj).1 hij
    rw [(List.getElem?_eq_some_iff.1 li).2,(List.getElem?_eq_some_iff.1 lj).2] at this
    exact this id ha hb
theorem Owns.ownAt (ho:Owns h0 h l) (k:Nat) {o:Ob} (hk:l[k]? =some o): ∀ id b,o.foot=some id->h id=some b->b.own=true:=fun id b hf hb=>(ho.own o (List.mem_of_getElem? hk) id hf).2 b hb
theorem Owns.appW (ho:Owns h0 h l) (k:Nat) {es bytes:Nat} {x y:AVal} {L R M R':List (List AVal)} {K:zQ} (hk:l[k]? =some (.sl es x L R)) (hs:SlX h es y M R') (hes:0<es) (hb:(L.length+M.length)*bytes <= 140737488355328) (hm:L.length+M.length <= maxLen)
  (hK: ∀ x' h',Owns h0 h' (l.set k (.sl es x' (L++M) []))->But x h h'->K x' h'):A.appW h es bytes x y K:=
 (ho.slAt k hk).appW (ho.ownAt k hk) hs hes hb hm fun x' h' h1 h2 h3 h4=>hK x' h' (ho.turn k hk h1 h2 h3 h4) h3
theorem Owns.st (ho:Owns h0 h l) (k:Nat) {es i f:Nat} {x v:AVal} {L R:List (List AVal)} {c:List AVal} {K:za->Prop} (hk:l[k]? =some (.sl es x L R)) (hc:L[i]? =some c) (hf:f<es) (hv:v.zdd=true)
  (hK: ∀ h',Owns h0 h' (l.set k (.sl es x (L.set i (c.set f v)) R))->But x h h'->K h'):A.st h (elp es x i f) v K:=
 (ho.slAt k hk).st (ho.ownAt k hk) hc hf hv fun h' h1 h2 h3=>hK h' (ho.turn k hk h1 h2 h3 (.inl rfl)) h3
theorem Owns.stn (ho:Owns h0 h l) (k:Nat) {es i f n:Nat} {x:AVal} {L R:List (List AVal)} {c xs:List AVal} {K:za->Prop} (hk:l[k]? =some (.sl es x L R)) (hc:L[i]? =some c) (hn:xs.length=n) (hf:f+n <= es)
  (hK: ∀ h',Owns h0 h' (l.set k (.sl es x (L.set i (c.take f++xs++c.drop (f+n))) R))->But x h h'->K h'):A.stn h (elp es x i f) n (.agg xs) K:=
 (ho.slAt k hk).stn (ho.ownAt k hk) hc hn hf fun h' h1 h2 h3=>hK h' (ho.turn k hk h1 h2 h3 (.inl rfl)) h3
theorem Owns.stElem (ho:Owns h0 h l) (k:Nat) {es i:Nat} {x:AVal} {L R:List (List AVal)} {c xs:List AVal} {K:za->Prop} (hk:l[k]? =some (.sl es x L R)) (hc:L[i]? =some c) (hn:xs.length=es)
  (hK: ∀ h',Owns h0 h' (l.set k (.sl es x (L.set i xs) R))->But x h h'->K h'):A.stn h (elp es x i 0) es (.agg xs) K:=by
 have hcl:=(ho.slAt k hk).len c (List.mem_append_left _ (List.mem_of_getElem? hc))
 refine ho.stn k hk hc hn (by omega) fun h' h1 h2=>hK h' ?_ h2
 have e:c.take 0++xs++c.drop (0+es)=xs:=by simp [List.drop_of_length_le,hcl]
 rwa [e] at h1
end
theorem Owns.push {h0 h:za} {l:List Ob} (ho:Owns h0 h l) (k:Nat) {es bytes:Nat} {x:AVal} {L R:List (List AVal)} {cs:List AVal} {K:zQ} (hk:l[k]? =some (.sl es x L R)) (hcs:cs.length=es) (hes:0<es) (hb:(L.length+1)*bytes <= 140737488355328) (hm:L.length+1 <= maxLen)
  (hK: ∀ x' h',Owns h0 h' (l.set k (.sl es x' (L++[cs]) []))->But x h h'->K x' h'):A.newO h (some cs) fun i h=>A.appW h es bytes x (.sl i 0 0 1 es 1) K:=fun i hi=>
 (ho.grow (zgm _ hi)).appW k hk (M:=[cs]) (R':=[]) (SlX.lit (zca ..) (by simpa using hcs) rfl (by simp) (by simp)) hes hb hm fun x' h' h1 h2=>hK x' h' h1 fun j b e1 e2=>h2 j b (zgm _ hi j b e1) e2
section
theorem zqo {α:Type} (l:List α) (i:Nat):(if i<l.length then l[i]? else none)=l[i]? :=by
 split
 ·rfl
 ·rw [List.getElem?_eq_none (by omega)]
theorem zk2 {h:za} {id:Nat} {cs:List AVal} (hb:h id=some (zek cs)) (off:Nat):A.ldv h (.ptr id 0 off)=cs[off]? :=by
 simp only [A.ldv,hb,zek,List.lookup,beq_self_eq_true,zqo]
theorem st_at {h:za} {id:Nat} {cs:List AVal} (hb:h id=some (zek cs)) {off:Nat} {v:AVal} (hv:v.zdd=true) (ho:off<cs.length) {K:za->Prop}:A.st h (.ptr id 0 off) v K=K (upd h id (zek (cs.set off v))):=by
 have h1:Nat.ble (0+off+1) cs.length=true:=by rw [Nat.ble_eq];omega
 simp only [A.st,A.stv,hb,zek,List.lookup,beq_self_eq_true,A.zn9,V.put1,hv,ho,if_true,A.ph,h1,Bool.true_and,cond_true,List.length_set]
variable {h0 h:za} {l:List Ob}
theorem Owns.boxSt (ho:Owns h0 h l) (k:Nat) {id off:Nat} {cs:List AVal} {v:AVal} {K:za->Prop} (hk:l[k]? =some (.box (.ptr id 0 0) cs)) (hv:v.zdd=true) (hoff:off<cs.length)
  (hK: ∀ h',Owns h0 h' (l.set k (.box (.ptr id 0 0) (cs.set off v)))->But (.ptr id 0 0) h h'->K h'):A.st h (.ptr id 0 off) v K:=by
 obtain ⟨id',e,hb⟩:=ho.zom k hk
 cases e
 rw [st_at hb hv hoff]
 have hbut:But (.ptr id 0 0) h (upd h id (zek (cs.set off v))):=fun j b e1 e2=>by rw [z6];exact e1;intro e;subst e;exact e2 rfl
 exact hK _ (ho.turn k hk ⟨id,rfl,zca ..⟩ (fun j b hj hb'=>by cases hj;rw [zca] at hb';cases hb';rfl) hbut (.inl rfl)) hbut
end
def fills (n:Nat) (g:Nat->List AVal):List (List AVal):=(List.range n).map g
@[simp] theorem fills_len (n:Nat) (g:Nat->List AVal):(fills n g).length=n:=by simp [fills]
@[simp] theorem fills_zero (g:Nat->List AVal):fills 0 g=[]:=rfl
theorem fills_get {n k:Nat} (g:Nat->List AVal) (hk:k<n):(fills n g)[k]? =some (g k):=by simp [fills,hk]
end Go.Ab
namespace Go.Ab
variable {C:CSem} {N:zN}
theorem take_succ {α:Type} {L:List α} {i:Nat} {w:α} (h:L[i]? =some w):L.take (i+1)=L.take i++[w]:=by
 rw [List.take_add_one,h];rfl
theorem get_map {α β:Type} {f:α->β} {L:List α} {i:Nat} {w:α} (h:L[i]? =some w):(L.map f)[i]? =some (f w):=by simp [h]
theorem inc64 {n:Nat} (h:n<4611686018427387904):IntKind.i64.wrap ((n:Int)+1)=((n+1:Nat):Int):=by rw [wrap_i64 (by omega) (by omega)];omega
theorem ze0 {α:Type} {L:List α} {k:Nat} (h:k<L.length): ∃ w,L[k]? =some w:=⟨L[k],by simp [h]⟩
structure Flat (T:Type) [DecidableEq T] where
 cs:T->List AVal
 es:Nat
 sh:List Ck
 len: ∀ t,(cs t).length=es
 pos:0<es
 eq: ∀ a b,V.zfx sh (cs a) (cs b)=some (decide (a=b))
section
variable {T:Type} [DecidableEq T] (F:Flat T)
def marks (mk:Int->T) (n:Nat):List (List AVal):=(List.range n).map fun (i:Nat)=>F.cs (mk (i:Int))
@[simp] theorem marks_len (mk:Int->T) (n:Nat):(marks F mk n).length=n:=by simp [marks]
end
end Go.Ab
