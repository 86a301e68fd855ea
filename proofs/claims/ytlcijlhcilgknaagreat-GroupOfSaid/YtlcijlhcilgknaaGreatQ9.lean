/- What is proved: a part of the way to the statement: Pgroup. No conditions. -/
import Derived.Test.YtlcijlhcilgknaaGreatQ7
import Derived.Test.YtlcijlhcilgknaaGreatQ6
import Derived.Test.YtlcijlhcilgknaaGreatQ8
import Derived.Test.YtlcijlhcilgknaaGreatQ3
set_option linter.unusedVariables false
set_option linter.unusedSimpArgs false
namespace Go.Ab
abbrev Key:=List UInt8
abbrev ziq (l:List Key):Prop:=l.Pairwise fun a b=>zgz a b=true
theorem zm7 {l m:List Key} (s:ziq l) (t:ziq m) (e: ∀ x,x∈l↔x∈m):l=m:=
 rise_ext (fun a b h1 h2=>by rw [zl1 h1] at h2;cases h2) s t e
def putT:List Key->Key->List Key
 | [],s=>[s]
 | x::l,s=>if zgz x s=true then x::putT l s else if x=s then x::l else s::x::l
theorem zrw {s y:Key}: ∀ {l:List Key},y∈putT l s↔y=s \/ y∈l
 | []=>by simp [putT]
 | x::l=>by
  unfold putT
  split
  ·rw [List.mem_cons,zrw,List.mem_cons]
   constructor
   ·rintro (h|h|h)
    ·exact .inr (.inl h)
    ·exact .inl h
    ·exact .inr (.inr h)
   ·rintro (h|h|h)
    ·exact .inr (.inl h)
    ·exact .inl h
    ·exact .inr (.inr h)
  ·split
   ·rename_i h
    subst h
    simp only [List.mem_cons]
    constructor
    ·exact fun h=> .inr h
    ·rintro (h|h)
     ·exact .inl h
     ·exact h
   ·simp only [List.mem_cons]
theorem zpq {s:Key}: ∀ {l:List Key},ziq l->ziq (putT l s)
 | [],_=>List.pairwise_singleton _ _
 | x::l,h=>by
  obtain ⟨h1,h2⟩:=List.pairwise_cons.1 h
  unfold putT
  split
  ·rename_i hx
   refine List.pairwise_cons.2 ⟨fun y hy=> ?_,zpq h2⟩
   rcases zrw.1 hy with rfl|hy
   ·exact hx
   ·exact h1 y hy
  ·split
   ·exact h
   ·rename_i h3 h4
    have hs:zgz s x=true:=by
     have:zgz x s=false:=by simpa using h3
     exact zll this h4
    refine List.pairwise_cons.2 ⟨fun y hy=> ?_,h⟩
    rcases List.mem_cons.1 hy with rfl|hy
    ·exact hs
    ·exact zj3 hs (h1 y hy)
theorem putT_len {s:Key}: ∀ {l:List Key},ziq l->(putT l s).length=if s∈l then l.length else l.length+1
 | [],_=>rfl
 | x::l,h=>by
  obtain ⟨h1,h2⟩:=List.pairwise_cons.1 h
  unfold putT
  split
  ·rename_i hx
   rw [List.length_cons,putT_len h2]
   have:s≠x:=fun e=>by subst e;rw [zin] at hx;cases hx
   by_cases hs:s∈l
   ·rw [if_pos hs,if_pos (List.mem_cons_of_mem _ hs)];rfl
   ·rw [if_neg hs,if_neg (fun e=>by rcases List.mem_cons.1 e with e|e;exact this e;exact hs e)];rfl
  ·split
   ·rename_i h4
    rw [if_pos (by rw [h4];exact List.mem_cons_self ..)]
   ·rename_i h3 h4
    have hs:zgz s x=true:=by
     have:zgz x s=false:=by simpa using h3
     exact zll this h4
    rw [if_neg]
    ·rfl
    ·intro hm
     rcases List.mem_cons.1 hm with e|hm
     ·exact h4 e.symm
     ·have:=zj3 hs (h1 s hm)
      rw [zin] at this;cases this
def zib (l m:List Key):List Key:=m.foldl putT l
theorem zhm {y:Key}: ∀ {m l:List Key},y∈zib l m↔y∈l \/ y∈m
 | [],l=>by simp [zib]
 | s::m,l=>by
  have:zib l (s::m)=zib (putT l s) m:=rfl
  rw [this,zhm,zrw,List.mem_cons]
  constructor
  ·rintro ((h|h)|h)
   ·exact .inr (.inl h)
   ·exact .inl h
   ·exact .inr (.inr h)
  ·rintro (h|h|h)
   ·exact .inl (.inr h)
   ·exact .inl (.inl h)
   ·exact .inr h
theorem zjz: ∀ {m l:List Key},ziq l->ziq (zib l m)
 | [],l,h=>h
 | s::m,l,h=>zjz (l:=putT l s) (zpq h)
def zco (I:List Itm):List Key:=zib [] (I.map Itm.Code)
theorem zj5 (I:List Itm):ziq (zco I):=zjz .nil
theorem zi6 {I:List Itm} {c:Key}:c∈zco I↔ ∃ t∈I,t.Code=c:=by
 unfold zco
 rw [zhm]
 simp [List.mem_map]
def zhd (t:Itm):List Key:=t.Code::(t.ze5.map Part.Item++t.zen)
def zgk (all:List Key) (t:Itm):List Key:=(zhd t).filter fun n=>decide (n∈all)
def hitT (all inn:List Key) (t:Itm):Bool:=(zgk all t).any fun n=>decide (n∈inn)
def zgq (all:List Key) (I:List Itm) (inn:List Key):List Key:=I.foldl (fun a t=>if hitT all a t=true then zib a (zgk all t) else a) inn
def zjx (all:List Key) (I:List Itm):Nat->List Key->List Key
 | 0,a=>a
 | k+1,a=>if (zgq all I a).length=a.length then zgq all I a else zjx all I k (zgq all I a)
def zdm (I:List Itm) (c:Key):List Key:=zjx (zco I) I ((zco I).length+1) [c]
inductive Eqv (E:Key->Key->Prop):Key->Key->Prop
 | rel {a b:Key}:E a b->Eqv E a b
 | refl (a:Key):Eqv E a a
 | symm {a b:Key}:Eqv E a b->Eqv E b a
 | trans {a b c:Key}:Eqv E a b->Eqv E b c->Eqv E a c
def zol (I:List Itm) (a b:Key):Prop:= ∃ t∈I,t.Code=a /\ b∈t.ze5.map Part.Item++t.zen /\ b∈zco I
theorem known_eqv {I:List Itm} {t:Itm} (ht:t∈I) {n:Key} (hn:n∈zgk (zco I) t):Eqv (zol I) t.Code n:=by
 obtain ⟨h1,h2⟩:=List.mem_filter.1 hn
 have h2:n∈zco I:=by simpa using h2
 unfold zhd at h1
 rcases List.mem_cons.1 h1 with e|h1
 ·rw [e];exact .refl _
 ·exact .rel ⟨t,ht,rfl,h1,h2⟩
section
variable {I J:List Itm} {all inn:List Key}
theorem zks: ∀ {J:List Itm} {a:List Key},ziq a->ziq (zgq all J a)
 | [],a,h=>h
 | t::J,a,h=>by
  show ziq (zgq all J (if hitT all a t=true then zib a (zgk all t) else a))
  refine zks ?_
  split
  ·exact zjz h
  ·exact h
theorem zkx: ∀ {J:List Itm} {a:List Key},∀ x∈a,x∈zgq all J a
 | [],a,x,h=>h
 | t::J,a,x,h=>by
  show x∈zgq all J (if hitT all a t=true then zib a (zgk all t) else a)
  refine zkx x ?_
  split
  ·exact zhm.2 (.inl h)
  ·exact h
theorem zsj: ∀ {J:List Itm} {a:List Key},(∀ x∈a,x∈all)-> ∀ x∈zgq all J a,x∈all
 | [],a,h=>h
 | t::J,a,h=>by
  show ∀ x∈zgq all J (if hitT all a t=true then zib a (zgk all t) else a),x∈all
  refine zsj fun x hx=> ?_
  split at hx
  ·rcases zhm.1 hx with hx|hx
   ·exact h x hx
   ·simpa using (List.mem_filter.1 hx).2
  ·exact h x hx
theorem zsi {c:Key}: ∀ {J:List Itm} {a:List Key},(∀ t∈J,t∈I)->(∀ x∈a,Eqv (zol I) c x)-> ∀ x∈zgq (zco I) J a,Eqv (zol I) c x
 | [],a,_,h=>h
 | t::J,a,hJ,h=>by
  show ∀ x∈zgq (zco I) J (if hitT (zco I) a t=true then zib a (zgk (zco I) t) else a),_
  refine zsi (fun u hu=>hJ u (by simp [hu])) fun x hx=> ?_
  split at hx
  ·rename_i hh
   rcases zhm.1 hx with hx|hx
   ·exact h x hx
   ·unfold hitT at hh
    obtain ⟨n,hn,hna⟩:=List.any_eq_true.1 hh
    have hna:n∈a:=by simpa using hna
    have ht:=hJ t (by simp)
    exact .trans (.trans (h n hna) (.symm (known_eqv ht hn))) (known_eqv ht hx)
  ·exact h x hx
theorem round_len: ∀ {J:List Itm} {a:List Key},ziq a->a.length <= (zgq all J a).length:=fun {J a} h=>by
 have hn:a.Nodup:=h.imp fun {x y} e=>zrz e
 exact hn.length_le_of_subset fun x hx=>zkx x hx
theorem zfj {a:List Key} (h:ziq a):a.Nodup:=h.imp fun {x y} e=>zrz e
theorem zt3 {a:List Key} (h:ziq a) (e:(zgq all J a).length=a.length):zgq all J a=a:=by
 have hn:=zfj h
 have hr:=zks (all:=all) (J:=J) h
 refine zm7 hr h fun x=>⟨fun hx=> ?_,fun hx=>zkx x hx⟩
 refine Classical.byContradiction fun hxa=> ?_
 have:(x::a).length <= (zgq all J a).length:=List.Nodup.length_le_of_subset (List.nodup_cons.2 ⟨hxa,hn⟩) fun y hy=>by
  rcases List.mem_cons.1 hy with rfl|hy
  ·exact hx
  ·exact zkx y hy
 rw [List.length_cons] at this
 omega
theorem zsh: ∀ {k:Nat} {a:List Key},ziq a->ziq (zjx all J k a)
 | 0,a,h=>h
 | k+1,a,h=>by
  unfold zjx
  split
  ·exact zks h
  ·exact zsh (zks h)
theorem zt1 {c:Key}: ∀ {k:Nat} {a:List Key},(∀ x∈a,Eqv (zol I) c x)-> ∀ x∈zjx (zco I) I k a,Eqv (zol I) c x
 | 0,a,h=>h
 | k+1,a,h=>by
  unfold zjx
  split
  ·exact zsi (fun t ht=>ht) h
  ·exact zt1 (zsi (fun t ht=>ht) h)
theorem zt0: ∀ {k:Nat} {a:List Key},∀ x∈a,x∈zjx all J k a
 | 0,a,x,h=>h
 | k+1,a,x,h=>by
  unfold zjx
  split
  ·exact zkx x h
  ·exact zt0 x (zkx x h)
theorem zt2 (ha:ziq all): ∀ {k:Nat} {a:List Key},ziq a->(∀ x∈a,x∈all)->all.length<a.length+k->zgq all J (zjx all J k a)=zjx all J k a
 | 0,a,h,h1,h2=>by
  have:=(zfj h).length_le_of_subset h1
  omega
 | k+1,a,h,h1,h2=>by
  unfold zjx
  split
  ·rename_i e
   rw [zt3 h e,zt3 h e]
  ·rename_i e
   have:=round_len (all:=all) (J:=J) h
   exact zt2 ha (zks h) (zsj h1) (by omega)
theorem zq7: ∀ {J:List Itm} {a:List Key},ziq a->(∀ x,x∈zgq all J a->x∈a)-> ∀ t∈J,∀ m∈zgk all t,∀ n∈zgk all t,m∈a->n∈a
 | u::J,a,h,hx,t,ht,m,hm,n,hn,hma=>by
  have hx: ∀ x,x∈zgq all J (if hitT all a u=true then zib a (zgk all u) else a)->x∈a:=hx
  have h1:ziq (if hitT all a u=true then zib a (zgk all u) else a):=by
   split
   ·exact zjz h
   ·exact h
  have hsub: ∀ x,x∈(if hitT all a u=true then zib a (zgk all u) else a)->x∈a:=fun x h=>hx x (zkx x h)
  rcases List.mem_cons.1 ht with rfl|ht
  ·have hh:hitT all a t=true:=List.any_eq_true.2 ⟨m,hm,by simpa using hma⟩
   rw [if_pos hh] at hsub
   exact hsub n (zhm.2 (.inr hn))
  ·have e:(if hitT all a u=true then zib a (zgk all u) else a)=a:=by
    refine zm7 h1 h fun x=>⟨hsub x,fun hx=> ?_⟩
    split
    ·exact zhm.2 (.inl hx)
    ·exact hx
   rw [e] at hx
   exact zq7 h hx t ht m hm n hn hma
end
theorem zep {I:List Itm} {c:Key} (hc:c∈zco I):ziq (zdm I c) /\ ∀ y,y∈zdm I c↔Eqv (zol I) c y:=by
 have r0:ziq [c]:=List.pairwise_singleton _ _
 have r1:ziq (zdm I c):=zsh r0
 have hall: ∀ x∈[c],x∈zco I:=fun x hx=>by rw [List.mem_singleton.1 hx];exact hc
 have he:=zt2 (all:=zco I) (J:=I) (zj5 I) (k:=(zco I).length+1) r0 hall (by simp;omega)
 have he:zgq (zco I) I (zdm I c)=zdm I c:=he
 refine ⟨r1,fun y=>⟨fun hy=>zt1 (fun x hx=>by rw [List.mem_singleton.1 hx];exact .refl _) y hy,fun hy=> ?_⟩⟩
 have cl: ∀ t∈I,∀ m∈zgk (zco I) t,∀ n∈zgk (zco I) t,m∈zdm I c->n∈zdm I c:=zq7 r1 (fun x hx=>by rw [he] at hx;exact hx)
 have edge: ∀ a b,zol I a b->(a∈zdm I c↔b∈zdm I c):=fun a b ⟨t,ht,e,hb,hk⟩=>by
  have ka:a∈zgk (zco I) t:=List.mem_filter.2 ⟨by unfold zhd;rw [e];exact List.mem_cons_self ..,by simpa using zi6.2 ⟨t,ht,e⟩⟩
  have kb:b∈zgk (zco I) t:=List.mem_filter.2 ⟨List.mem_cons_of_mem _ hb,by simpa using hk⟩
  exact ⟨cl t ht a ka b kb,cl t ht b kb a ka⟩
 have key: ∀ a b,Eqv (zol I) a b->(a∈zdm I c↔b∈zdm I c):=fun a b h=>by
  induction h with
  | rel h=>exact edge _ _ h
  | refl=>exact Iff.rfl
  | symm _ ih=>exact ih.symm
  | trans _ _ h1 h2=>exact h1.trans h2
 exact (key c y hy).1 (zt0 c (by simp))
def zih (g:Key->Option Key):Nat->Key->Key->Prop
 | 0,c,r=>g c=some c /\ r=c
 | n+1,c,r=> ∃ e,g c=some e /\ e≠c /\ zih g n e r
def zqd (g:Key->Option Key) (a b:Key):Prop:= ∃ r n m,zih g n a r /\ zih g m b r
theorem zih.top {g:Key->Option Key}: ∀ {n:Nat} {c r:Key},zih g n c r->g r=some r
 | 0,c,r,h=>by obtain ⟨h,rfl⟩:=h;exact h
 | n+1,c,r,⟨e,_,_,h⟩=>zih.top h
theorem zih.det {g:Key->Option Key}: ∀ {n m:Nat} {c r q:Key},zih g n c r->zih g m c q->n=m /\ r=q
 | 0,0,c,r,q,h,k=>by obtain ⟨_,rfl⟩:=h;obtain ⟨_,rfl⟩:=k;exact ⟨rfl,rfl⟩
 | 0,m+1,c,r,q,h,k=>by
  obtain ⟨h,rfl⟩:=h
  obtain ⟨e,k,hne,_⟩:=k
  rw [h] at k;cases k
  exact absurd rfl hne
 | n+1,0,c,r,q,h,k=>by
  obtain ⟨k,rfl⟩:=k
  obtain ⟨e,h,hne,_⟩:=h
  rw [k] at h;cases h
  exact absurd rfl hne
 | n+1,m+1,c,r,q,h,k=>by
  obtain ⟨e,h1,_,h⟩:=h
  obtain ⟨f,k1,_,k⟩:=k
  rw [h1] at k1;cases k1
  obtain ⟨e1,e2⟩:=zih.det h k
  exact ⟨by rw [e1],e2⟩
structure UF (g:Key->Option Key) (ks:Key->Prop) (E:Key->Key->Prop):Prop where
 dom: ∀ c,(∃ d,g c=some d)↔ks c
 root: ∀ c,ks c-> ∃ n r,zih g n c r
 eqv: ∀ a b,g a=some b->Eqv E a b
 rel: ∀ a b,E a b->zqd g a b
def zp2 (g:Key->Option Key) (a b:Key):Key->Option Key:=fun x=>if x=a then some b else g x
section
variable {g:Key->Option Key} {ks:Key->Prop} {E:Key->Key->Prop}
theorem zih.isKey (u:UF g ks E) {n:Nat} {c r:Key} (h:zih g n c r):ks c:=by
 cases n with
 | zero=>exact (u.dom c).1 ⟨c,h.1⟩
 | succ n=>obtain ⟨e,h,_⟩:=h;exact (u.dom c).1 ⟨e,h⟩
theorem zih.eqv (u:UF g ks E): ∀ {n:Nat} {c r:Key},zih g n c r->Eqv E c r
 | 0,c,r,h=>by obtain ⟨_,rfl⟩:=h;exact .refl _
 | n+1,c,r,⟨e,h1,_,h⟩=> .trans (u.eqv _ _ h1) (zih.eqv u h)
theorem zqd.refl (u:UF g ks E) {a:Key} (h:ks a):zqd g a a:=by
 obtain ⟨n,r,h⟩:=u.root a h
 exact ⟨r,n,n,h,h⟩
theorem zqd.symm {a b:Key} (h:zqd g a b):zqd g b a:=by
 obtain ⟨r,n,m,h,k⟩:=h
 exact ⟨r,m,n,k,h⟩
theorem zqd.trans {a b c:Key} (h:zqd g a b) (k:zqd g b c):zqd g a c:=by
 obtain ⟨r,n,m,h1,h2⟩:=h
 obtain ⟨q,i,j,k1,k2⟩:=k
 obtain ⟨_,rfl⟩:=h2.det k1
 exact ⟨r,n,j,h1,k2⟩
theorem UF.same (u:UF g ks E) {a b:Key}:zqd g a b↔ks a /\ ks b /\ Eqv E a b:=by
 constructor
 ·rintro ⟨r,n,m,h,k⟩
  exact ⟨h.isKey u,k.isKey u,.trans (h.eqv u) (.symm (k.eqv u))⟩
 ·rintro ⟨ha,hb,h⟩
  have key:(ks a↔ks b) /\ (ks a->zqd g a b):=by
   clear ha hb
   induction h with
   | rel h=>
    obtain ⟨r,n,m,h1,h2⟩:=u.rel _ _ h
    exact ⟨⟨fun _=>h2.isKey u,fun _=>h1.isKey u⟩,fun _=>⟨r,n,m,h1,h2⟩⟩
   | refl a=>exact ⟨Iff.rfl,fun h=> .refl u h⟩
   | symm _ ih=>exact ⟨ih.1.symm,fun h=>(ih.2 (ih.1.2 h)).symm⟩
   | trans _ _ h1 h2=>exact ⟨h1.1.trans h2.1,fun h=>(h1.2 h).trans (h2.2 (h1.1.1 h))⟩
  exact key.2 ha
theorem zud {a b ra rb:Key} (ha:g ra=some ra) (hb:g rb=some rb): ∀ {n:Nat} {c r:Key},zih g n c r->r≠ra->zih (zp2 g ra rb) n c r
 | 0,c,r,h,hr=>by
  obtain ⟨h,rfl⟩:=h
  exact ⟨by unfold zp2;rw [if_neg hr];exact h,rfl⟩
 | n+1,c,r,⟨e,h1,h2,h⟩,hr=>by
  refine ⟨e,?_,h2,zud (a:=a) (b:=b) ha hb h hr⟩
  unfold zp2
  rw [if_neg]
  ·exact h1
  ·intro e2
   subst e2
   rw [ha] at h1;cases h1
   exact h2 rfl
theorem join_same {ra rb:Key} (ha:g ra=some ra) (hb:g rb=some rb) (hne:ra≠rb): ∀ {n:Nat} {c:Key},zih g n c ra->zih (zp2 g ra rb) (n+1) c rb
 | 0,c,h=>by
  obtain ⟨h,rfl⟩:=h
  refine ⟨rb,by unfold zp2;rw [if_pos rfl],Ne.symm hne,?_⟩
  exact ⟨by unfold zp2;rw [if_neg (Ne.symm hne)];exact hb,rfl⟩
 | n+1,c,⟨e,h1,h2,h⟩=>by
  refine ⟨e,?_,h2,join_same ha hb hne h⟩
  unfold zp2
  rw [if_neg]
  ·exact h1
  ·intro e2
   subst e2
   rw [ha] at h1;cases h1
   exact h2 rfl
theorem Eqv.mono {E F:Key->Key->Prop} (h: ∀ a b,E a b->F a b) {a b:Key} (e:Eqv E a b):Eqv F a b:=by
 induction e with
 | rel e=>exact .rel (h _ _ e)
 | refl=>exact .refl _
 | symm _ ih=>exact .symm ih
 | trans _ _ h1 h2=>exact .trans h1 h2
theorem UF.join (u:UF g ks E) {a b ra rb:Key} {n m:Nat} (ha:zih g n a ra) (hb:zih g m b rb):UF (zp2 g ra rb) ks (fun x y=>E x y \/ (x=a /\ y=b)):=by
 have ta:=ha.top
 have tb:=hb.top
 have mono: ∀ x y,E x y->(E x y \/ (x=a /\ y=b)):=fun _ _ h=> .inl h
 have newE:Eqv (fun x y=>E x y \/ (x=a /\ y=b)) ra rb:= .trans (.symm ((ha.eqv u).mono mono)) (.trans (.rel (.inr ⟨rfl,rfl⟩)) ((hb.eqv u).mono mono))
 have root': ∀ {k:Nat} {c r:Key},zih g k c r-> ∃ k',zih (zp2 g ra rb) k' c (if r=ra then rb else r):=by
  intro k c r h
  by_cases hr:r=ra
  ·subst hr
   rw [if_pos rfl]
   by_cases hne:r=rb
   ·subst hne
    have:zp2 g r r=g:=by
     funext x
     unfold zp2
     by_cases hx:x=r
     ·subst hx;rw [if_pos rfl,ta]
     ·rw [if_neg hx]
    rw [this];exact ⟨k,h⟩
   ·exact ⟨k+1,join_same ta tb hne h⟩
  ·rw [if_neg hr]
   exact ⟨k,zud (a:=a) (b:=b) ta tb h hr⟩
 refine ⟨fun c=> ?_,fun c hc=> ?_,fun x y h=> ?_,fun x y h=> ?_⟩
 ·rw [<- u.dom c]
  unfold zp2
  by_cases hx:c=ra
  ·subst hx
   rw [if_pos rfl]
   exact ⟨fun _=>⟨_,ta⟩,fun _=>⟨_,rfl⟩⟩
  ·rw [if_neg hx]
 ·obtain ⟨k,r,h⟩:=u.root c hc
  obtain ⟨k',h'⟩:=root' h
  exact ⟨k',_,h'⟩
 ·unfold zp2 at h
  by_cases hx:x=ra
  ·subst hx
   rw [if_pos rfl] at h
   cases h
   exact newE
  ·rw [if_neg hx] at h
   exact (u.eqv x y h).mono mono
 ·rcases h with h|⟨rfl,rfl⟩
  ·obtain ⟨r,i,j,h1,h2⟩:=u.rel x y h
   obtain ⟨_,h1'⟩:=root' h1
   obtain ⟨_,h2'⟩:=root' h2
   exact ⟨_,_,_,h1',h2'⟩
  ·obtain ⟨_,h1'⟩:=root' ha
   obtain ⟨_,h2'⟩:=root' hb
   rw [if_pos rfl] at h1'
   have:(if rb=ra then rb else rb)=rb:=by split<;>rfl
   rw [this] at h2'
   exact ⟨rb,_,_,h1',h2'⟩
end
end Go.Ab
namespace Go.Ab
variable {C:CSem} {N:zN}
abbrev sV:Key->AVal:=fun s=> .str s
abbrev upBlk (ps:Ents Key Key) (c:Nat):Blk:=zgy (encM sV sV ps) c
structure UpAt (h:za) (p:AVal) (m:Nat) (ps:Ents Key Key) (c:Nat):Prop where
 ptr:A.ldv h p=some (.mp m)
 map:h m=some (upBlk ps c)
theorem UpAt.lkp {h:za} {p:AVal} {m:Nat} {ps:Ents Key Key} {c:Nat} (u:UpAt h p m ps c) (k:Key):A.lkp h (some .s) (some (.str [])) false (.mp m) (.str k)=some (.str ((getP ps k).getD [])):=
 lkp_blk (κ:=sV) (v:=sV) keyS u.map [] k false
theorem UpAt.lkp2 {h:za} {p:AVal} {m:Nat} {ps:Ents Key Key} {c:Nat} (u:UpAt h p m ps c) (k:Key):A.lkp h (some .s) (some (.str [])) true (.mp m) (.str k)=some (.tup [.str ((getP ps k).getD []),.bool (getP ps k).isSome]):=
 lkp_blk (κ:=sV) (v:=sV) keyS u.map [] k true
theorem UpAt.mono {h h':za} {p:AVal} {m:Nat} {ps:Ents Key Key} {c:Nat} (u:UpAt h p m ps c) (hle:h.le h'):UpAt h' p m ps c:=⟨ldv_le hle u.ptr,hle _ _ u.map⟩
def zct.Spec (C:CSem) (N:zN):Prop:= ∀ (h:za) (p:AVal) (m:Nat) (ps:Ents Key Key) (c n:Nat) (a r:Key) (Q:zQ),UpAt h p m ps c->zih (getP ps) n a r->Q (.str r) h->C (N 577) [.str a,p] h Q
theorem zct.spec (i:zct.Imp C N):zct.Spec C N:=by
 intro h p m ps c n a r Q hu hr hq
 apply i
 refine zg.intro (fun t vs hh=> ∃ x,vs=[.str x] /\ hh=h /\ zih (getP ps) t x r) n ?_ ⟨a,rfl,rfl,hr⟩
 rintro Y t vs hh ⟨x,rfl,rfl,hR⟩ hY
 simp -dsimp only [zct.l2,zct.k1,B.zg0,hu.ptr,B.zd,hu.lkp,V.bin_sneq]
 cases t with
 | zero=>
  obtain ⟨e,rfl⟩:=hR
  rw [e]
  simp -dsimp
  exact zbe hq
 | succ t=>
  obtain ⟨e,he,hne,hR⟩:=hR
  rw [he]
  simp -dsimp [hne,hu.ptr,hu.lkp,he]
  exact hY t _ _ (by omega) ⟨e,rfl,rfl,hR⟩
abbrev UpO (N:zN) (m:Nat) (p q:AVal) (ps:Ents Key Key) (c:Nat):List Ob:=[.blk m (upBlk ps c),.box p [.mp m],.box q [.fn (N 577) [] [p]]]
theorem UpO.at {h0 h:za} {m:Nat} {p q:AVal} {ps:Ents Key Key} {c:Nat} {l:List Ob} (o:Owns h0 h (UpO N m p q ps c++l)):UpAt h p m ps c /\ A.ldv h q=some (.fn (N 577) [] [p]):=by
 obtain ⟨_,rfl,b1⟩:=o.zqc 1 rfl
 obtain ⟨_,rfl,b2⟩:=o.zqc 2 rfl
 exact ⟨⟨by rw [zl3 b1];rfl,o.at 0 rfl⟩,by rw [zl3 b2];rfl⟩
structure UpIs (ps:Ents Key Key) (c:Nat) (ks:Key->Prop) (E:Key->Key->Prop):Prop where
 uf:UF (getP ps) ks E
 zmw:zkn ps c
 nodup:(zf0 ps).Nodup
def zdp.Spec (C:CSem) (N:zN):Prop:= ∀ (h0 h:za) (m:Nat) (p q:AVal) (ps:Ents Key Key) (c:Nat) (a b:Key) (ks:Key->Prop) (E:Key->Key->Prop) (Q:zQ),Owns h0 h (UpO N m p q ps c)->UpIs ps c ks E->ks a ->
 (∀ ps' c' h',Owns h0 h' (UpO N m p q ps' c')->UpIs ps' c' ks (fun x y=>E x y \/ (x=a /\ y=b /\ ks b))->Q (.tup []) h')->C (N 576) [.str a,.str b,p,q] h Q
theorem UF.cong {g:Key->Option Key} {ks:Key->Prop} {E F:Key->Key->Prop} (u:UF g ks E) (h: ∀ x y,E x y↔F x y):UF g ks F:=by
 have:E=F:=by funext x y;exact propext (h x y)
 rw [<- this];exact u
theorem zdp.spec (i:zdp.Imp C N) (s1:zct.Spec C N):zdp.Spec C N:=by
 intro h0 h m p q ps c a b ks E Q ho hu ha hq
 apply i
 obtain ⟨ua,uq⟩:=UpO.at (l:=[]) (by rw [List.append_nil];exact ho)
 simp -dsimp only [zdp.cps,zdp.k1,B.zg0,ua.ptr,uq,B.zd,ua.lkp2,V.zg8,List.getElem?_cons_zero,List.getElem?_cons_succ]
 refine B.zn (fun hb=> ?_) (fun hb=> ?_)
 ·have kb:ks b:=(hu.uf.dom b).1 (Option.isSome_iff_exists.1 hb)
  obtain ⟨n,ra,hra⟩:=hu.uf.root a ha
  obtain ⟨k,rb,hrb⟩:=hu.uf.root b kb
  simp -dsimp only [B.zg0,ua.ptr,uq,B.zd]
  rw [B.zlp]
  refine s1 h p m ps c n a ra _ ua hra ?_
  refine keepS2 ⟨_,ua.ptr⟩ ⟨_,uq⟩ ?_
  rw [B.zlp]
  refine s1 h p m ps c k b rb _ ua hrb ?_
  refine keepS1 ⟨_,ua.ptr⟩ ?_
  refine ho.mset (κ:=sV) (v:=sV) 0 rfl keyS ra rb fun h' o _ _=> ?_
  refine zbe (hq _ _ h' o ⟨?_,hu.zmw.put ra rb,zsz hu.nodup ra rb c⟩)
  have e:getP (putP ps ra rb c)=zp2 (getP ps) ra rb:=by funext x;rw [znr];rfl
  rw [e]
  exact (hu.uf.join hra hrb).cong fun x y=>⟨fun h=>h.imp id fun e=>⟨e.1,e.2,kb⟩,fun h=>h.imp id fun e=>⟨e.1,e.2.1⟩⟩
 ·have kb: ¬ ks b:=fun kb=>by
   obtain ⟨d,e⟩:=(hu.uf.dom b).2 kb
   rw [e] at hb;cases hb
  exact zbe (hq ps c h ho ⟨hu.uf.cong fun x y=>⟨fun h=> .inl h,fun h=>h.elim id fun e=>absurd e.2.2 kb⟩,hu.zmw,hu.nodup⟩)
end Go.Ab
namespace Go.Ab
variable {C:CSem} {N:zN}
abbrev ztk (t:Itm):List Key:=t.ze5.map Part.Item++t.zen
def zqz (I:List Itm) (ks:Key->Prop) (j k:Nat) (x y:Key):Prop:=(∃ t∈I.take j,t.Code=x /\ y∈ztk t /\ ks y) \/ ∃ t,I[j]? =some t /\ t.Code=x /\ y∈(ztk t).take k /\ ks y
theorem doneE_zero {I:List Itm} {ks:Key->Prop} {x y:Key}: ¬ zqz I ks 0 0 x y:=by
 rintro (⟨t,h,_⟩|⟨t,_,_,h,_⟩)
 ·simp at h
 ·simp at h
theorem zui {I:List Itm} {ks:Key->Prop} {j k:Nat} {t:Itm} {n:Key} (ht:I[j]? =some t) (hn:(ztk t)[k]? =some n) (x y:Key):(zqz I ks j k x y \/ (x=t.Code /\ y=n /\ ks n))↔zqz I ks j (k+1) x y:=by
 unfold zqz
 constructor
 ·rintro ((h|⟨u,h1,h2,h3,h4⟩)|⟨h1,h2,h3⟩)
  ·exact .inl h
  ·exact .inr ⟨u,h1,h2,by
    rw [ht] at h1;cases h1
    rw [take_succ hn];exact List.mem_append_left _ h3,h4⟩
  ·exact .inr ⟨t,ht,h1.symm,by rw [take_succ hn,h2];simp,by rw [h2];exact h3⟩
 ·rintro (h|⟨u,h1,h2,h3,h4⟩)
  ·exact .inl (.inl h)
  ·rw [ht] at h1;cases h1
   rw [take_succ hn] at h3
   rcases List.mem_append.1 h3 with h3|h3
   ·exact .inl (.inr ⟨t,ht,h2,h3,h4⟩)
   ·have:=List.mem_singleton.1 h3
    exact .inr ⟨h2.symm,this,by rw [<- this];exact h4⟩
theorem doneE_next {I:List Itm} {ks:Key->Prop} {j:Nat} {t:Itm} (ht:I[j]? =some t) (x y:Key):zqz I ks j (ztk t).length x y↔zqz I ks (j+1) 0 x y:=by
 unfold zqz
 rw [take_succ ht]
 constructor
 ·rintro (⟨u,h1,h2⟩|⟨u,h1,h2,h3,h4⟩)
  ·exact .inl ⟨u,List.mem_append_left _ h1,h2⟩
  ·rw [ht] at h1;cases h1
   rw [List.take_length] at h3
   exact .inl ⟨t,by simp,h2,h3,h4⟩
 ·rintro (⟨u,h1,h2,h3,h4⟩|⟨u,h1,h2,h3,h4⟩)
  ·rcases List.mem_append.1 h1 with h1|h1
   ·exact .inl ⟨u,h1,h2,h3,h4⟩
   ·rw [List.mem_singleton.1 h1] at h2 h3
    exact .inr ⟨t,ht,h2,by rw [List.take_length];exact h3,h4⟩
  ·simp at h3
theorem doneE_end {I:List Itm} (x y:Key):zqz I (fun c=>c∈zco I) I.length 0 x y↔zol I x y:=by
 unfold zqz zol
 rw [List.take_length]
 constructor
 ·rintro (⟨t,h1,h2,h3,h4⟩|⟨t,h1,_⟩)
  ·exact ⟨t,h1,h2,h3,h4⟩
  ·simp at h1
 ·rintro ⟨t,h1,h2,h3,h4⟩
  exact .inl ⟨t,h1,h2,h3,h4⟩
def zt.Spec (C:CSem) (N:zN):Prop:= ∀ (x:AVal) (I:List Itm) (h:za) (Q:zQ),Dl ze8 h x I->I.length <= 100000000 ->
 (∀ m p ps c h',Owns h h' [.blk m (upBlk ps c),.box p [.mp m]]->UpIs ps c (fun c=>c∈zco I) (zol I)->Q (.tup [.mp m,.fn (N 577) [] [p]]) h')->C (N 568) [x] h Q
theorem zt.spec (i:zt.Imp C N) (s2:zdp.Spec C N):zt.Spec C N:=by
 intro x I h Q hx hlen hq
 apply i
 have lx:=hx.zbj
 simp -dsimp only [zt.cps,zt.k13]
 refine (Owns.start h).zos sV sV fun m h1 hm o1 _=> ?_
 intro i4 f4
 have o2:=o1.zq9 f4 [.nilm]
 generalize upd h1 i4 (zfm [.nilm])=h2 at *
 refine o2.ztt 1 (off:=0) rfl rfl (by simp) fun h3 o3 _=> ?_
 have o3:Owns h h3 [.blk m (upBlk [] 0),.box (.ptr i4 0 0) [.mp m]]:=o3
 simp -dsimp only [lx,B.zd]
 refine zg.intro (fun n vs hh=> ∃ (j c:Nat) (ps:Ents Key Key),j+n=I.length /\ vs=[.int .i64 (j:Int)] /\ Owns h hh [.blk m (upBlk ps c),.box (.ptr i4 0 0) [.mp m]] /\ zkn ps c /\ (zf0 ps).Nodup /\ ∀ k,getP ps k=if k∈(I.take j).map Itm.Code then some k else none) I.length ?_ ⟨0,0,[],by simp,rfl,o3,zkn.nil 0,.nil,by simp [getP]⟩
 rintro Y n vs hh ⟨j,c,ps,hj,rfl,o,hb,hnd,hg⟩ hY
 simp -dsimp only [zt.l12,zt.k11,V.zd4,B.zd]
 have hxx:=hx.mono o.le
 refine B.zn (fun hc=> ?_) (fun hc=> ?_)
 ·rw [decide_eq_true_eq] at hc
  have hc:j<I.length:=by omega
  obtain ⟨t,ht⟩:=zfz hc
  obtain ⟨a,ea⟩:=hxx.get ht
  have e1:V.idxS 4 x (.int .i64 (j:Int))=some (elp 4 x j 0):=ea.idx
  have e2:A.ldnv hh (elp 4 x j 0) 4=some (.agg [.str t.Code,.int .i64 t.Life,a.1,a.2]):=ea.ldn
  have ca1:a.1.zc8=true:=ea.at_.1.elim fun _ r=>r.zc8
  have ca2:a.2.zc8=true:=ea.at_.2.1.elim fun _ r=>r.zc8
  obtain ⟨_,e,hbx⟩:=o.zqc 1 rfl
  cases e
  simp -dsimp [e1,e2,ca1,ca2,zl3 hbx, - V.zfa]
  refine o.mset (κ:=sV) (v:=sV) 0 rfl keyS t.Code t.Code fun h' o' _ _=> ?_
  simp -dsimp only [add1 (show j<4611686018427387904 by omega),B.zd]
  refine hY (I.length-(j+1)) _ _ (by omega) ⟨j+1,_,_,by omega,rfl,o',hb.put t.Code t.Code,zsz hnd t.Code t.Code c,fun k=> ?_⟩
  rw [znr,hg,take_succ ht]
  simp only [List.map_append,List.map_cons,List.map_nil,List.mem_append,List.mem_singleton]
  by_cases hk:k=t.Code
  ·subst hk
   rw [if_pos rfl,if_pos (.inr rfl)]
  ·rw [if_neg hk]
   by_cases hm:k∈(I.take j).map Itm.Code
   ·rw [if_pos hm,if_pos (.inl hm)]
   ·rw [if_neg hm,if_neg (by rintro (e|e);exact hm e;exact hk e)]
 ·rw [decide_eq_false_iff_not] at hc
  have:j=I.length:=by omega
  subst this
  rw [List.take_length] at hg
  have hks: ∀ k,(k∈I.map Itm.Code)↔k∈zco I:=fun k=>by rw [zi6,List.mem_map]
  have hg: ∀ k,getP ps k=if k∈zco I then some k else none:=fun k=>by
   rw [hg]
   by_cases hm:k∈zco I
   ·rw [if_pos hm,if_pos ((hks k).2 hm)]
   ·rw [if_neg hm,if_neg fun e=>hm ((hks k).1 e)]
  have u0:UpIs ps c (fun k=>k∈zco I) (zqz I (fun k=>k∈zco I) 0 0):=by
   refine ⟨⟨fun k=> ?_,fun k hk=>⟨0,k,by rw [hg,if_pos hk],rfl⟩,fun a b e=> ?_,fun a b e=>(doneE_zero e).elim⟩,hb,hnd⟩
   ·rw [hg]
    constructor
    ·rintro ⟨d,e⟩
     by_cases hm:k∈zco I
     ·exact hm
     ·rw [if_neg hm] at e;cases e
    ·intro hm
     exact ⟨k,by rw [if_pos hm]⟩
   ·rw [hg] at e
    by_cases hm:a∈zco I
    ·rw [if_pos hm] at e;cases e;exact .refl _
    ·rw [if_neg hm] at e;cases e
  simp -dsimp only [zt.k10]
  intro i7 f7
  have o4:=o.zq9 f7 [.nilf]
  generalize upd hh i7 (zfm [.nilf])=h4 at *
  refine o4.ztt 2 (off:=0) rfl rfl (by simp) fun h5 o5 _=> ?_
  have o5:Owns h h5 (UpO N m (.ptr i4 0 0) (.ptr i7 0 0) ps c):=o5
  simp -dsimp only [lx,B.zd]
  refine zg.intro (fun n vs hh=> ∃ (j c:Nat) (ps:Ents Key Key),j+n=I.length /\ vs=[.int .i64 (j:Int)] /\ Owns h hh (UpO N m (.ptr i4 0 0) (.ptr i7 0 0) ps c) /\ UpIs ps c (fun k=>k∈zco I) (zqz I (fun k=>k∈zco I) j 0)) I.length ?_ ⟨0,c,ps,by simp,rfl,o5,u0⟩
  rintro Y n vs h2 ⟨j,c,ps,hj,rfl,o,u⟩ hY
  simp -dsimp only [zt.l9,zt.k8,V.zd4,B.zd]
  have hxx:=hx.mono o.le
  refine B.zn (fun hc=> ?_) (fun hc=> ?_)
  ·rw [decide_eq_true_eq] at hc
   have hc:j<I.length:=by omega
   obtain ⟨t,ht⟩:=zfz hc
   obtain ⟨P0,R0,eP0,sx,at0⟩:=id hx
   obtain ⟨a,hq0⟩: ∃ a,P0[j]? =some (t,a):=by
    rw [<- eP0,List.getElem?_map] at ht
    obtain ⟨q,h1,h2⟩:=Option.map_eq_some_iff.1 ht
    exact ⟨q.2,by rw [h1, <- h2]⟩
   have ea: ∀ {h':za},h.le h'->DEl ze8 h' x j t a:=fun hle=>slX_el (sx.mono hle) (fun p hp=>ze8.mono hle (at0 p hp)) hq0
   have e1:V.idxS 4 x (.int .i64 (j:Int))=some (elp 4 x j 0):=(ea o.le).idx
   have e2:A.ldnv h2 (elp 4 x j 0) 4=some (.agg [.str t.Code,.int .i64 t.Life,a.1,a.2]):=(ea o.le).ldn
   obtain ⟨⟨Rp,hp⟩,⟨Ro,ho⟩,hok⟩:=at0 _ (List.mem_of_getElem? hq0)
   have hp:SlX h 2 a.1 (t.ze5.map Part.cs) Rp:=hp
   have ho:SlX h 1 a.2 (t.zen.map tc) Ro:=ho
   have ca1:a.1.zc8=true:=hp.zc8
   have ca2:a.2.zc8=true:=ho.zc8
   have lp:=hp.zbj
   have lo:=ho.zbj
   rw [List.length_map] at lp lo
   obtain ⟨ok1,ok2⟩:t.ze5.length <= few /\ t.zen.length <= few:=hok
   unfold few at ok1 ok2
   have kt:t.Code∈zco I:=zi6.2 ⟨t,List.mem_of_getElem? ht,rfl⟩
   simp -dsimp only [zt.k7,e1,e2,B.zd,B.zou]
   have e3:V.setN 0 4 (.agg [.str t.Code,.int .i64 t.Life,a.1,a.2]) (.agg [.str [],.int .i64 0,.nils,.nils])=some (.agg [.str t.Code,.int .i64 t.Life,a.1,a.2]):=rfl
   simp -dsimp only [e3,B.zd,zt.k6,B.zrj,V.zi7,List.getElem?_cons_zero,List.getElem?_cons_succ,lp]
   refine zg.intro (fun n vs hh=> ∃ (k c:Nat) (ps:Ents Key Key),k+n=t.ze5.length /\ vs=[.int .i64 (k:Int)] /\ Owns h hh (UpO N m (.ptr i4 0 0) (.ptr i7 0 0) ps c) /\ UpIs ps c (fun k=>k∈zco I) (zqz I (fun k=>k∈zco I) j k)) t.ze5.length ?_ ⟨0,c,ps,by simp,rfl,o,u⟩
   rintro Y3 n3 vs3 h3 ⟨k,c,ps,hk,rfl,o,u⟩ hY3
   simp -dsimp only [zt.l5,zt.k4,V.zd4,B.zd]
   refine B.zn (fun hd=> ?_) (fun hd=> ?_)
   ·rw [decide_eq_true_eq] at hd
    obtain ⟨w,hw⟩:=zfz (L:=t.ze5) (k:=k) (by omega)
    have f1:V.idxS 2 a.1 (.int .i64 (k:Int))=some (elp 2 a.1 k 0):=hp.idxN (by rw [List.length_map];omega)
    have f2:A.ldnv h3 (elp 2 a.1 k 0) 2=some (.agg w.cs):=(hp.mono o.le).elem (by rw [List.getElem?_map,hw];rfl)
    simp -dsimp [f1,f2, - V.zfa]
    refine s2 h h3 m _ _ ps c t.Code w.Item _ _ _ o u kt fun ps' c' h4 o4 u4=> ?_
    simp -dsimp only [add1 (show k<4611686018427387904 by omega),B.zd]
    refine hY3 (t.ze5.length-(k+1)) _ _ (by omega) ⟨k+1,c',ps',by omega,rfl,o4,u4.uf.cong fun x y=> ?_,u4.zmw,u4.nodup⟩
    have hn:(ztk t)[k]? =some w.Item:=by
     unfold ztk
     rw [List.getElem?_append_left (by rw [List.length_map];omega),List.getElem?_map,hw];rfl
    exact zui ht hn x y
   ·rw [decide_eq_false_iff_not] at hd
    have:k=t.ze5.length:=by omega
    subst this
    simp -dsimp only [zt.k3,B.zrj,V.zi7,List.getElem?_cons_zero,List.getElem?_cons_succ,B.zd,lo]
    refine zg.intro (fun n vs hh=> ∃ (k c:Nat) (ps:Ents Key Key),k+n=t.zen.length /\ vs=[.int .i64 (k:Int)] /\ Owns h hh (UpO N m (.ptr i4 0 0) (.ptr i7 0 0) ps c) /\ UpIs ps c (fun k=>k∈zco I) (zqz I (fun k=>k∈zco I) j (t.ze5.length+k))) t.zen.length ?_ ⟨0,c,ps,by simp,rfl,o,u⟩
    rintro Y2 n2 vs2 h5 ⟨k,c,ps,hk2,rfl,o,u⟩ hY2
    simp -dsimp only [zt.l2,zt.k1,V.zd4,B.zd]
    refine B.zn (fun hd=> ?_) (fun hd=> ?_)
    ·rw [decide_eq_true_eq] at hd
     obtain ⟨w,hw⟩:=zfz (L:=t.zen) (k:=k) (by omega)
     have f1:V.idxS 1 a.2 (.int .i64 (k:Int))=some (elp 1 a.2 k 0):=ho.idxN (by rw [List.length_map];omega)
     have f2:A.ldv h5 (elp 1 a.2 k 0)=some (.str w):=(ho.mono o.le).cell (by rw [List.getElem?_map,hw];rfl)
     simp -dsimp [f1,f2, - V.zfa]
     refine s2 h h5 m _ _ ps c t.Code w _ _ _ o u kt fun ps' c' h6 o6 u6=> ?_
     simp -dsimp only [add1 (show k<4611686018427387904 by omega),B.zd]
     refine hY2 (t.zen.length-(k+1)) _ _ (by omega) ⟨k+1,c',ps',by omega,rfl,o6,u6.uf.cong fun x y=> ?_,u6.zmw,u6.nodup⟩
     have hn:(ztk t)[t.ze5.length+k]? =some w:=by
      unfold ztk
      rw [List.getElem?_append_right (by rw [List.length_map];omega),List.length_map,show t.ze5.length+k-t.ze5.length=k by omega]
      exact hw
     exact zui ht hn x y
    ·rw [decide_eq_false_iff_not] at hd
     have:k=t.zen.length:=by omega
     subst this
     simp -dsimp only [add1 (show j<4611686018427387904 by omega),B.zd]
     refine hY (I.length-(j+1)) _ _ (by omega) ⟨j+1,c,ps,by omega,rfl,o,u.uf.cong fun x y=> ?_,u.zmw,u.nodup⟩
     have hl:t.ze5.length+t.zen.length=(ztk t).length:=by simp [ztk]
     rw [hl]
     exact doneE_next ht x y
  ·rw [decide_eq_false_iff_not] at hc
   have:j=I.length:=by omega
   subst this
   obtain ⟨ua,uq⟩:=UpO.at (l:=[]) (by rw [List.append_nil];exact o)
   simp -dsimp only [B.zg0,ua.ptr,uq,B.zd]
   refine zbe (hq m (.ptr i4 0 0) ps c h2 (o.sub ?_) ⟨u.uf.cong fun x y=>doneE_end x y,u.zmw,u.nodup⟩)
   exact List.Sublist.cons_cons _ (List.Sublist.cons_cons _ (List.nil_sublist _))
end Go.Ab
namespace Go.Ab
theorem zlj {α:Type} [DecidableEq α] {x:α}: ∀ {L:List α},x∈zft L↔x∈L
 | []=>Iff.rfl
 | [a]=>Iff.rfl
 | a::b::r=>by
  unfold zft
  split
  ·rename_i e
   subst e
   rw [zlj]
   simp
  ·rw [List.mem_cons,zlj,List.mem_cons,List.mem_cons,List.mem_cons]
theorem zmp: ∀ {L:List Key},SortedB L->ziq (zft L)
 | [],_=> .nil
 | [a],_=>List.pairwise_singleton _ _
 | a::b::r,h=>by
  obtain ⟨h1,h2⟩:=List.pairwise_cons.1 h
  unfold zft
  split
  ·exact zmp h2
  ·rename_i hne
   refine List.pairwise_cons.2 ⟨fun y hy=> ?_,zmp h2⟩
   have hy:=zlj.1 hy
   have ab:zgz a b=true:=zll (h1 b (by simp)) (Ne.symm hne)
   rcases List.mem_cons.1 hy with rfl|hy
   ·exact ab
   ·have hby:=(List.pairwise_cons.1 h2).1 y hy
    cases e:zgz a y with
    | true=>rfl
    | false=>
     have:=h1 y (by simp [hy])
     have:a=y:=zmi e this
     subst this
     rw [ab] at hby;cases hby
def zfv (I:List Itm) (l:List Key):List Key:=l.foldl (fun a c=>zib a (if c∈zco I then zdm I c else [c])) []
theorem zr5 {I:List Itm}: ∀ {l a:List Key},ziq a->ziq (l.foldl (fun a c=>zib a (if c∈zco I then zdm I c else [c])) a) /\ ∀ y,y∈l.foldl (fun a c=>zib a (if c∈zco I then zdm I c else [c])) a↔y∈a \/ ∃ c∈l,y∈if c∈zco I then zdm I c else [c]
 | [],a,h=>⟨h,fun y=>by simp⟩
 | c::l,a,h=>by
  obtain ⟨h1,h2⟩:=zr5 (I:=I) (l:=l) (zjz (m:=if c∈zco I then zdm I c else [c]) h)
  refine ⟨h1,fun y=> ?_⟩
  rw [List.foldl_cons,h2,zhm]
  constructor
  ·rintro ((h|h)|⟨d,h3,h4⟩)
   ·exact .inl h
   ·exact .inr ⟨c,by simp,h⟩
   ·exact .inr ⟨d,by simp [h3],h4⟩
  ·rintro (h|⟨d,h3,h4⟩)
   ·exact .inl (.inl h)
   ·rcases List.mem_cons.1 h3 with rfl|h3
    ·exact .inl (.inr h4)
    ·exact .inr ⟨d,h3,h4⟩
theorem zkq (I:List Itm) (l:List Key):ziq (zfv I l):=(zr5 (I:=I) (l:=l) .nil).1
theorem zs2 {I:List Itm} {l:List Key} {y:Key}:y∈zfv I l↔ ∃ c∈l,(c∈zco I /\ Eqv (zol I) c y) \/ (c∉zco I /\ y=c):=by
 have:=(zr5 (I:=I) (l:=l) .nil).2 y
 unfold zfv
 rw [this]
 simp only [List.not_mem_nil,false_or]
 constructor
 ·rintro ⟨c,h1,h2⟩
  refine ⟨c,h1,?_⟩
  by_cases hc:c∈zco I
  ·rw [if_pos hc] at h2
   exact .inl ⟨hc,((zep hc).2 y).1 h2⟩
  ·rw [if_neg hc] at h2
   exact .inr ⟨hc,List.mem_singleton.1 h2⟩
 ·rintro ⟨c,h1,h2⟩
  refine ⟨c,h1,?_⟩
  rcases h2 with ⟨hc,h⟩|⟨hc,rfl⟩
  ·rw [if_pos hc];exact ((zep hc).2 y).2 h
  ·rw [if_neg hc];simp
theorem Eqv.znc {I:List Itm} {a b:Key} (h:Eqv (zol I) a b) (ha:a∈zco I):b∈zco I:=by
 have:a∈zco I↔b∈zco I:=by
  clear ha
  induction h with
  | rel h=>
   obtain ⟨t,ht,e,_,hk⟩:=h
   exact ⟨fun _=>hk,fun _=>zi6.2 ⟨t,ht,e⟩⟩
  | refl=>exact Iff.rfl
  | symm _ ih=>exact ih.symm
  | trans _ _ h1 h2=>exact h1.trans h2
 exact this.1 ha
section
variable {h0 h:za} {l:List Ob} {K T:Type} {κ:K->AVal} {v:T->AVal} {ps:Ents K T} {m c:Nat} {Q:zQ}
theorem Owns.zql {J:Ents K T->List Ob->List AVal->Prop} {vs0:List AVal} {Lp:AVal->zG} {REST:AVal->List AVal->AVal->za->(zL)->Prop} (ho:Owns h0 h l) (hbm:h0 m=some (zgy (encM κ v ps) c)) (hb:zkn ps c) (hJ:J [] l vs0)
  (heq: ∀ it vs hh Y D l,J D l vs->B.zgj hh it (fun v h2=>REST it vs v h2 Y)->Lp it vs hh Y)
  (hdone: ∀ it hh D l b Y vs,J D l vs->D.Perm ps->Owns h0 hh (l++[.blk it b])->REST (.ptr it 0 0) vs (.tup [.bool false]) hh Y)
  (hstep: ∀ it hh D l b Y vs,∀ p∈ps,J D l vs->(∀ q∈D,q∈ps)->p∉D->D.length<ps.length->Owns h0 hh (l++[.blk it b])->A.zif hh (.ptr it 0 0)=some (.tup [κ p.1,v p.2.1]) ->
   (∀ h' l' vs',J (D++[p]) l' vs'->Owns h0 h' (l'++[.blk it b])->Y vs' h')->REST (.ptr it 0 0) vs (.tup [.bool true,κ p.1,v p.2.1]) hh Y):
  B.rangeMap h (.mp m) fun v h=>zg (Lp v) vs0 h:=by
 show A.rangeMap h (.mp m) _
 simp only [A.rangeMap,zpx (ho.le _ _ hbm)]
 intro it hit
 have ho:Owns h0 (upd h it (zie (.mapIter (some m) c [] c))) (l++[.blk it (zht m c (([]:Ents K T).map (·.2.2)) c)]):=ho.newBlk (b:=zht m c [] c) hit rfl
 refine zg.intro (fun t vs hh=> ∃ (D:Ents K T) (l':List Ob),D.length+t=ps.length /\ J D l' vs /\ (∀ q∈D,q∈ps) /\ (D.map (·.2.2)).Nodup /\ Owns h0 hh (l'++[.blk it (zht m c (D.map (·.2.2)) c)])) ps.length ?_ ⟨[],l,by simp,hJ,by simp,List.Pairwise.nil,ho⟩
 rintro Y t vs hh ⟨D,l',ht,hJ',hD,hnd,o⟩ hY
 refine heq _ _ _ _ _ _ hJ' ?_
 refine o.nextMapB l'.length (seen:=D.map (·.2.2)) (since:=c) (last:=c) (o.le _ _ hbm) (by simp) hb (Nat.le_refl _) (Nat.le_refl _) (fun hall=> ?_) fun p hp hns h' o' hk he=> ?_
 ·exact hdone it hh D l' _ Y vs hJ' (hb.all hD hnd hall) o
 ·have o'':Owns h0 h' (l'++[.blk it (zht m c ((D++[p]).map (·.2.2)) c)]):=by
   have:=o'
   rw [List.set_append_right _ _ (Nat.le_refl _),Nat.sub_self] at this
   simpa using this
  have hpD:p∉D:=fun hm=>hns (List.mem_map.2 ⟨p,hm,rfl⟩)
  have nd2:((D++[p]).map (·.2.2)).Nodup:=by
   rw [List.map_append,List.nodup_append]
   exact ⟨hnd,by simp,fun x hx y hy e=>hns (by rw [List.map_cons,List.map_nil,List.mem_singleton] at hy;rw [<- hy, <- e];exact hx)⟩
  have sub: ∀ q∈D++[p],q∈ps:=fun q hq=>by
   rcases List.mem_append.1 hq with h|h
   ·exact hD q h
   ·rw [List.mem_singleton.1 h];exact hp
  have hl:(D++[p]).length <= ps.length:=List.Nodup.length_le_of_subset (List.Pairwise.of_map (S:=(· ≠ ·)) (fun p:K×T×Nat=>p.2.2) (fun a b h e=>h (by rw [e])) nd2) sub
  rw [List.length_append] at hl
  have hl:D.length+1 <= ps.length:=hl
  exact hstep it h' D l' _ Y vs p hp hJ' hD hpD hl o'' he fun h2 l2 vs2 hJ2 o2=>hY (t-1) _ _ (by omega) ⟨D++[p],l2,by rw [List.length_append,List.length_singleton];omega,hJ2,sub,nd2,o2⟩
end
end Go.Ab
namespace Go.Ab
variable {C:CSem} {N:zN}
def zbi.Spec (C:CSem) (N:zN):Prop:= ∀ (x:AVal) (L:List Key) (R:List (List AVal)) (h:za) (Q:zQ),SlX h 1 x (L.map tc) R->L.length <= 100000000 ->
 (∀ x' h',Owns h h' [.sl 1 x' (L.map tc) []]->Q x' h')->C (N 567) [x] h Q
theorem zbi.spec (i:zbi.Imp C N):zbi.Spec C N:=fun x L R h Q hx hlen hq=>
 i x h Q (zuj seqT hx hlen fun x' h' ho=>zbe (hq x' h' ho))
theorem zse {h0 h:za} {x:AVal} {L M:List Key} {R:List (List AVal)} {K:zQ} (s1:zbw.Spec C N) (s2:zbl.Spec C N) (s3:zbi.Spec C N) (ho:Owns h0 h [.sl 1 x (L.map tc) R]) (hl:L.length <= 100000000) (hM:ziq M) (hm: ∀ y,y∈L↔y∈M)
  (hK: ∀ x' h',Owns h0 h' [.sl 1 x' (M.map tc) []]->K x' h'):B.call C (N 364) [x] h fun _ h=>B.call C (N 365) [x] h fun v h=>B.call C (N 567) [v] h fun w h=>K w h:=by
 refine s1 h0 h x L R _ ho hl fun h1 L1 p1 r1 o1=> ?_
 refine s2 h0 h1 x L1 R _ o1 (by rw [p1.length_eq];exact hl) fun y h2 R2 o2=> ?_
 have e:zft L1=M:=zm7 (zmp r1) hM fun y=>by rw [zlj,p1.mem_iff,hm]
 rw [e] at o2
 have hML:M.length <= 100000000:=by
  have:=zrh L1
  rw [e,p1.length_eq] at this
  omega
 refine s3 y M R2 h2 _ (o2.slAt 0 rfl) hML fun z h3 o3=> ?_
 exact hK z h3 (o3.back o2.le)
def zc9.Spec (C:CSem) (N:zN):Prop:= ∀ (x y:AVal) (I:List Itm) (L:List Key) (R:List (List AVal)) (h:za) (Q:zQ),Dl ze8 h x I->I.length <= 1000000->SlX h 1 y (L.map tc) R->L.length <= 1000000 ->
 (∀ x' h',Owns h h' [.sl 1 x' ((zfv I L).map tc) []]->Q x' h')->C (N 553) [x,y] h Q
abbrev iV:Int->AVal:=fun n=> .int .i64 n
theorem zc9.spec (i:zc9.Imp C N) (s0:zt.Spec C N) (s1:zct.Spec C N) (s2:zbw.Spec C N) (s3:zbl.Spec C N) (s4:zbi.Spec C N):zc9.Spec C N:=by
 intro x y I L R h Q hx hI hy hL hq
 apply i
 simp -dsimp only [zc9.cps,zc9.k5]
 refine s0 x I h _ hx (by omega) fun m p ps c h1 o1 hu=> ?_
 obtain ⟨pid,e,bp⟩:=o1.zqc 1 rfl
 subst e
 have ua:UpAt h1 (.ptr pid 0 0) m ps c:=⟨by rw [zl3 bp];rfl,o1.at 0 rfl⟩
 simp -dsimp only [V.zg8,List.getElem?_cons_zero,List.getElem?_cons_succ,B.zd]
 refine (Owns.start h1).zos sV iV fun w h2 hw o2 _=> ?_
 have hyy:=hy.mono o1.le
 have ly:=hyy.zbj
 rw [List.length_map] at ly
 have ly:=(hy.zbj)
 rw [List.length_map] at ly
 simp -dsimp only [ly,B.zd]
 have o3:Owns h1 h2 [.blk w (zgy (encM sV iV []) 0),.sl 1 .nils [] []]:=o2.nils 1
 refine zg.intro (fun n vs hh=> ∃ (j d:Nat) (qs:Ents Key Int) (out:AVal) (O:List Key),j+n=L.length /\ vs=[out,.int .i64 (j:Int)] /\ Owns h1 hh [.blk w (zgy (encM sV iV qs) d),.sl 1 out (O.map tc) []] /\ O.length <= j /\ (∀ k,k∈O↔k∈L.take j /\ k∉zco I) /\
   (∀ k,0 <= (getP qs k).getD 0 /\ (getP qs k).getD 0 <= j /\ (0<(getP qs k).getD 0↔ ∃ a∈L.take j,∃ n,zih (getP ps) n a k))) L.length ?_ ⟨0,0,[],.nils,[],by simp,rfl,o3,by simp,by simp,by simp [getP]⟩
 rintro Y n vs hh ⟨j,d,qs,out,O,hj,rfl,o,hO,hmem,hw⟩ hY
 simp -dsimp only [zc9.l4,zc9.k3,V.zd4,B.zd]
 refine B.zn (fun hc=> ?_) (fun hc=> ?_)
 ·rw [decide_eq_true_eq] at hc
  obtain ⟨a,ha⟩:=zfz (L:=L) (k:=j) (by omega)
  have f1:V.idxS 1 y (.int .i64 (j:Int))=some (elp 1 y j 0):=hy.idxN (by rw [List.length_map];omega)
  have f2:A.ldv hh (elp 1 y j 0)=some (.str a):=(hyy.mono o.le).cell (by rw [List.getElem?_map,ha];rfl)
  have uh:=ua.mono o.le
  simp -dsimp only [f1,f2,B.zg0,B.zd,uh.lkp2,V.zg8,List.getElem?_cons_zero,List.getElem?_cons_succ]
  refine B.zn (fun hb=> ?_) (fun hb=> ?_)
  ·have ka:a∈zco I:=(hu.uf.dom a).1 (Option.isSome_iff_exists.1 hb)
   obtain ⟨t,r,hr⟩:=hu.uf.root a ka
   rw [B.zlp]
   refine s1 hh _ m ps c t a r _ uh hr ?_
   have g1:A.lkp hh (some .s) (some (.int .i64 0)) false (.mp w) (.str r)=some (.int .i64 ((getP qs r).getD 0)):=o.lkp (κ:=sV) (v:=iV) 0 rfl keyS 0 r
   obtain ⟨w1,w2,w3⟩:=hw r
   have g2:V.bin .add (.int .i64 ((getP qs r).getD 0)) (.int .i64 1)=some (.int .i64 ((getP qs r).getD 0+1)):=by
    rw [V.zfa,wrap_i64 (by omega) (by omega)]
   simp -dsimp only [g1,g2,B.zd]
   refine o.mset (κ:=sV) (v:=iV) 0 rfl keyS r ((getP qs r).getD 0+1) fun h' o' _ _=> ?_
   simp -dsimp only [add1 (show j<4611686018427387904 by omega),B.zd]
   refine hY (L.length-(j+1)) _ _ (by omega) ⟨j+1,_,_,out,O,by omega,rfl,o',by omega,fun k=> ?_,fun k=> ?_⟩
   ·rw [hmem,take_succ ha]
    constructor
    ·rintro ⟨h1,h2⟩
     exact ⟨List.mem_append_left _ h1,h2⟩
    ·rintro ⟨h1,h2⟩
     rcases List.mem_append.1 h1 with h1|h1
     ·exact ⟨h1,h2⟩
     ·rw [List.mem_singleton.1 h1] at h2;exact absurd ka h2
   ·obtain ⟨k1,k2,k3⟩:=hw k
    rw [znr,take_succ ha]
    by_cases hk:k=r
    ·subst hk
     rw [if_pos rfl]
     refine ⟨by simp;omega,by simp;omega,⟨fun _=>⟨a,by simp,t,hr⟩,fun _=>by simp;omega⟩⟩
    ·rw [if_neg hk]
     refine ⟨k1,by omega,k3.trans ⟨fun ⟨b,h1,h2⟩=>⟨b,List.mem_append_left _ h1,h2⟩,fun ⟨b,h1,t',h2⟩=> ?_⟩⟩
     rcases List.mem_append.1 h1 with h1|h1
     ·exact ⟨b,h1,t',h2⟩
     ·rw [List.mem_singleton.1 h1] at h2
      exact absurd (h2.det hr).2 hk
  ·have ka:a∉zco I:=fun ka=>by
    obtain ⟨d,e⟩:=(hu.uf.dom a).2 ka
    rw [e] at hb;cases hb
   have hf:ze2 [(0,none,.str a)] (repL 1 [.str []])=some [.str a]:=rfl
   rw [hf]
   refine o.push 1 rfl (cs:=[.str a]) rfl (by omega) (by simp;omega) (by simp [maxLen];omega) fun out' h' o' _=> ?_
   simp -dsimp only [add1 (show j<4611686018427387904 by omega),B.zd]
   refine hY (L.length-(j+1)) _ _ (by omega) ⟨j+1,d,qs,out',O++[a],by omega,rfl,by rw [List.map_append];exact o',by simp;omega,fun k=> ?_,fun k=> ?_⟩
   ·rw [List.mem_append,hmem,take_succ ha,List.mem_append,List.mem_singleton]
    constructor
    ·rintro (⟨h1,h2⟩|rfl)
     ·exact ⟨.inl h1,h2⟩
     ·exact ⟨.inr rfl,ka⟩
    ·rintro ⟨h1|h1,h2⟩
     ·exact .inl ⟨h1,h2⟩
     ·exact .inr h1
   ·obtain ⟨k1,k2,k3⟩:=hw k
    refine ⟨k1,by omega,k3.trans ?_⟩
    rw [take_succ ha]
    constructor
    ·rintro ⟨b,h1,h2⟩
     exact ⟨b,List.mem_append_left _ h1,h2⟩
    ·rintro ⟨b,h1,t',h2⟩
     rcases List.mem_append.1 h1 with h1|h1
     ·exact ⟨b,h1,t',h2⟩
     ·rw [List.mem_singleton.1 h1] at h2
      exact absurd (h2.isKey hu.uf) ka
 ·rw [decide_eq_false_iff_not] at hc
  have:j=L.length:=by omega
  subst this
  rw [List.take_length] at hmem hw
  have isW: ∀ {a r:Key} {n:Nat},zih (getP ps) n a r->(0<(getP qs r).getD 0↔ ∃ b∈L,b∈zco I /\ Eqv (zol I) b a):=fun {a r n} hr=>by
   rw [(hw r).2.2]
   constructor
   ·rintro ⟨b,hb,k,hk⟩
    obtain ⟨h1,_,h3⟩:=hu.uf.same.1 (⟨r,k,n,hk,hr⟩:zqd (getP ps) b a)
    exact ⟨b,hb,h1,h3⟩
   ·rintro ⟨b,hb,h1,h2⟩
    obtain ⟨q,k,j,h3,h4⟩:=hu.uf.same.2 ⟨h1,hr.isKey hu.uf,h2⟩
    obtain ⟨_,rfl⟩:=h4.det hr
    exact ⟨b,hb,k,h3⟩
  have hps:ps.length <= 1000000:=by
   have e1:ps.length=(zf0 ps).length:=by simp [zf0]
   have e2:(zf0 ps).length <= (I.map Itm.Code).length:=hu.nodup.length_le_of_subset fun k hk=>by
    have:k∈zco I:=(hu.uf.dom k).1 (Option.isSome_iff_exists.1 (by
     cases e:getP ps k with
     | some _=>rfl
     | none=>exact absurd hk (zp5.1 e)))
    obtain ⟨t,h1,h2⟩:=zi6.1 this
    exact List.mem_map.2 ⟨t,h1,h2⟩
   rw [List.length_map] at e2
   omega
  refine Owns.zql (κ:=sV) (v:=sV) (ps:=ps) (c:=c) (J:=fun D l vs=> ∃ (out':AVal) (O':List Key),vs=[out'] /\ l=[.blk w (zgy (encM sV iV qs) d),.sl 1 out' (O'.map tc) []] /\ O'.length <= L.length+D.length /\ ∀ k,k∈O'↔k∈O \/ (k∈D.map (·.1) /\ ∃ b∈L,b∈zco I /\ Eqv (zol I) b k))
   (REST:=fun it vs v h Y=>match vs with
    | [v8]=>B.pv (V.ext 0 v) fun v47=>B.cond v47
     (B.pv (A.zif h it) fun v48=>B.pv (V.ext 0 v48) fun v49=>B.zhi h C (.fn (N 577) [] [.ptr pid 0 0]) [v49] fun v53 h=>
      B.pv (A.lkp h (some .s) (some (.int .i64 0)) false (.mp w) v53) fun v54=>B.pv (V.bin .gtr v54 (.int .i64 0)) fun v55=>B.cond v55
      (B.newO h (ze2 [(0,none,v49)] (repL 1 [.str []])) fun i58 h=>B.appW h 1 16 v8 (.sl i58 0 0 1 1 1) fun v59 h=>Y [v59] h) (Y [v8] h))
     (B.call C (N 364) [v8] h fun v61 h=>B.call C (N 365) [v8] h fun v63 h=>B.call C (N 567) [v63] h fun v64 h=>dn Q v64 h)
    | _=>False) o (ua.map) hu.zmw ⟨out,O,rfl,rfl,by simp;omega,fun k=>by simp⟩ ?_ ?_ ?_
  ·rintro it vs h3 Y3 D l ⟨out',O',rfl,_⟩ hn
   exact hn
  ·rintro it h3 D l b Y3 vs ⟨out',O',rfl,rfl,hl,hm⟩ hp ho
   simp -dsimp only [V.zg8,List.getElem?_cons_zero,B.zd,B.cond_false]
   have hsub:Owns h1 h3 ([.sl 1 out' (O'.map tc) []]):=ho.sub (List.Sublist.cons _ (List.Sublist.cons_cons _ (List.nil_sublist _)))
   have hDl:D.length=ps.length:=hp.length_eq
   refine zse s2 s3 s4 hsub (by omega) (zkq I L) (fun k=> ?_) fun x' h4 o4=>zbe (hq x' h4 (o4.back o1.le))
   rw [hm,hmem,zs2]
   constructor
   ·rintro (⟨h1,h2⟩|⟨h1,b,h2,h3,h4⟩)
    ·exact ⟨k,h1,.inr ⟨h2,rfl⟩⟩
    ·exact ⟨b,h2,.inl ⟨h3,h4⟩⟩
   ·rintro ⟨b,h1,⟨h2,h3⟩|⟨h2,rfl⟩⟩
    ·refine .inr ⟨?_,b,h1,h2,h3⟩
     have hk:=h3.znc h2
     obtain ⟨v,hv⟩:=(hu.uf.dom k).2 hk
     obtain ⟨n,hn⟩:=getP_mem hv
     exact List.mem_map.2 ⟨(k,v,n),hp.mem_iff.2 hn,rfl⟩
    ·exact .inl ⟨h1,h2⟩
  ·rintro it h3 D l b Y3 vs p hpm ⟨out',O',rfl,rfl,hl,hm⟩ hsub hpD hDl ho he hY3
   have hpk:p.1∈zco I:=(hu.uf.dom p.1).1 ⟨p.2.1,mem_getP hu.nodup hpm⟩
   obtain ⟨t,r,hr⟩:=hu.uf.root p.1 hpk
   have uh:=ua.mono ho.le
   simp -dsimp only [V.zg8,List.getElem?_cons_zero,List.getElem?_cons_succ,B.zd,B.cond_true,he]
   rw [B.zlp]
   refine s1 h3 _ m ps c t p.1 r _ uh hr ?_
   have g1:A.lkp h3 (some .s) (some (.int .i64 0)) false (.mp w) (.str r)=some (.int .i64 ((getP qs r).getD 0)):=ho.lkp (κ:=sV) (v:=iV) 0 rfl keyS 0 r
   simp -dsimp only [g1,B.zd,V.bin_gtr]
   refine B.zn (fun hd=> ?_) (fun hd=> ?_)
   ·rw [decide_eq_true_eq] at hd
    have hf:ze2 [(0,none,.str p.1)] (repL 1 [.str []])=some [.str p.1]:=rfl
    simp -dsimp only [hf]
    refine ho.push 1 rfl (cs:=[.str p.1]) rfl (by omega) (by simp;omega) (by simp [maxLen];omega) fun out2 h4 o4 _=> ?_
    refine hY3 h4 [.blk w (zgy (encM sV iV qs) d),.sl 1 out2 ((O'++[p.1]).map tc) []] _ ⟨out2,O'++[p.1],rfl,rfl,by simp;omega,fun k=> ?_⟩ (by rw [List.map_append];exact o4)
    rw [List.mem_append,hm,List.map_append,List.mem_append,List.mem_singleton]
    constructor
    ·rintro ((h|⟨h1,h2⟩)|rfl)
     ·exact .inl h
     ·exact .inr ⟨.inl h1,h2⟩
     ·exact .inr ⟨.inr (by simp),(isW hr).1 hd⟩
    ·rintro (h|⟨h1|h1,h2⟩)
     ·exact .inl (.inl h)
     ·exact .inl (.inr ⟨h1,h2⟩)
     ·exact .inr (by simpa using h1)
   ·rw [decide_eq_false_iff_not] at hd
    refine hY3 h3 _ _ ⟨out',O',rfl,rfl,by simp;omega,fun k=> ?_⟩ ho
    rw [hm,List.map_append,List.mem_append]
    constructor
    ·rintro (h|⟨h1,h2⟩)
     ·exact .inl h
     ·exact .inr ⟨.inl h1,h2⟩
    ·rintro (h|⟨h1|h1,h2⟩)
     ·exact .inl h
     ·exact .inr ⟨h1,h2⟩
     ·have:k=p.1:=by simpa using h1
      subst this
      exact absurd ((isW hr).2 h2) hd
end Go.Ab
namespace Go.Ab
variable {C:CSem} {N:zN}
theorem partS:zdc (opsF 2 24 [.str [],.int .i64 0] 0 []) Part.cs (fun p=> .agg p.cs):=seqF (by omega) (by omega) rfl fun _=>rfl
def zbn.Spec (C:CSem) (N:zN):Prop:= ∀ (x:AVal) (L:List Part) (R:List (List AVal)) (h:za) (Q:zQ),SlX h 2 x (L.map Part.cs) R->L.length <= 100000000 ->
 (∀ x' h',Owns h h' [.sl 2 x' (L.map Part.cs) []]->Q x' h')->C (N 569) [x] h Q
theorem zbn.spec (i:zbn.Imp C N):zbn.Spec C N:=fun x L R h Q hx hlen hq=>
 i x h Q (zuj partS hx hlen fun x' h' ho=>zbe (hq x' h' ho))
def partT (s:Sta) (L:List Key):Sta:={ s with zhg:=s.zhg.filter (fun t=>decide (t.Code∈L)),Lots:=s.Lots.filter (fun t=>decide (t.Item∈L)),zlc:=s.zlc.filter (fun t=>decide (t.Item∈L)) }
def zcf.Spec (C:CSem) (N:zN):Prop:= ∀ (s:Sta) (x y z w:AVal) (L:List Key) (R:List (List AVal)) (h:za) (Q:zQ),StaAt h s x y z->SlX h 1 w (L.map tc) R->L.length <= 100000000->s.zhg.length+s.Lots.length+s.zlc.length <= 1000000 ->
 (∀ x' P y' z' h',P.map (·.1)=(partT s L).zhg->Owns h h' (StaO (partT s L) x' P y' z')->Q (.agg (staCs (partT s L) x' y' z')) h')->C (N 558) [.agg (staCs s x y z),w] h Q
theorem zpk {α:Type} (f:α->Bool) {l:List α} {j:Nat} {a:α} (h:l[j]? =some a):(l.take (j+1)).filter f=(l.take j).filter f++if f a=true then [a] else []:=by
 rw [take_succ h,List.filter_append]
 congr 1
 by_cases hf:f a=true
 ·rw [if_pos hf,List.filter_cons_of_pos hf];rfl
 ·rw [if_neg hf,List.filter_cons_of_neg hf];rfl
theorem zlv {α:Type} (f:α->Bool) (l:List α) (j:Nat):((l.take j).filter f).length <= l.length:=by
 have:=List.length_filter_le f (l.take j)
 rw [List.length_take] at this
 omega
theorem zcf.spec (i:zcf.Imp C N) (s1:zbm.Spec C N) (s2:zbn.Spec C N) (s3:zbi.Spec C N):zcf.Spec C N:=by
 intro s x y z w L R h Q hs hw hL hn hq
 obtain ⟨hI,⟨R2,hy⟩,⟨R3,hz⟩,n1,n2,n3⟩:=hs
 have cx:=hI.zc8
 have cy:=hy.zc8
 have cz:=hz.zc8
 have lx:=hI.zbj
 have ly:=hy.zbj
 have lz:=hz.zbj
 rw [List.length_map] at ly lz
 apply i
 simp -dsimp [cx,cy,cz,lx, - zcf.l6, - zcf.k5]
 refine zg.intro (fun n vs hh=> ∃ (j:Nat) (X:AVal) (P:List (Itm×(AVal×AVal))),j+n=s.zhg.length /\ vs=[.int .i64 (j:Int),.agg [.int .i64 s.Now,.int .i64 s.NextLot,.int .i64 s.zr3,X,.nils,.nils]] /\ P.map (·.1)=(s.zhg.take j).filter (fun t=>decide (t.Code∈L)) /\ Df ze8 h hh X P) s.zhg.length ?_ ⟨0,.nils,[],by simp,rfl,by simp,by simpa [Df,DK.os] using (Owns.start h).nils ze8.n⟩
 rintro Y n vs hh ⟨j,X,P,hj,rfl,eP,o⟩ hY
 have hPl:P.length <= s.zhg.length:=by
  have:=congrArg List.length eP
  rw [List.length_map] at this
  rw [this];exact zlv _ _ _
 have cX:X.zc8=true:=(o.slAt 0 rfl).zc8
 simp -dsimp only [zcf.l6,zcf.k5,V.zd4,B.zd]
 refine B.zn (fun hc=> ?_) (fun hc=> ?_)
 ·rw [decide_eq_true_eq] at hc
  obtain ⟨t,ht⟩:=zfz (L:=s.zhg) (k:=j) (by omega)
  obtain ⟨a,ea⟩:=(hI.mono o.le).get ht
  have e1:V.idxS 4 x (.int .i64 (j:Int))=some (elp 4 x j 0):=ea.idx
  have e2:A.ldnv hh (elp 4 x j 0) 4=some (.agg [.str t.Code,.int .i64 t.Life,a.1,a.2]):=ea.ldn
  obtain ⟨⟨Rp,hp⟩,⟨Ro,ho⟩,hok⟩:(∃ R,SlX hh 2 a.1 (t.ze5.map Part.cs) R) /\ (∃ R,SlX hh 1 a.2 (t.zen.map tc) R) /\ t.ok:=ea.at_
  have ca1:=hp.zc8
  have ca2:=ho.zc8
  have hf:=zpk (fun t:Itm=>decide (t.Code∈L)) ht
  simp -dsimp [e1,e2,ca1,ca2, - V.zfa]
  refine s1 w L R t.Code hh _ (hw.mono o.le) (by omega) ?_
  refine B.zn (fun hb=> ?_) (fun hb=> ?_)
  ·rw [if_pos hb] at hf
   simp -dsimp [ca1,ca2,cX, - V.zfa]
   have hok':t.ze5.length <= few /\ t.zen.length <= few:=hok
   unfold few at hok'
   refine s2 a.1 t.ze5 Rp hh _ hp (by omega) fun p' h1 o1=> ?_
   have cp':p'.zc8=true:=(o1.slAt 0 rfl).zc8
   simp -dsimp [ca1,ca2,cp',cX, - V.zfa]
   refine s3 a.2 t.zen Ro h1 _ (ho.mono o1.le) (by omega) fun q' h2 o2=> ?_
   have cq':q'.zc8=true:=(o2.slAt 0 rfl).zc8
   have hfl:ze2 [(0,some 4,.agg (ze8.cells t (p',q')))] (repL 1 [.str [],.int .i64 0,.nils,.nils])=some (ze8.cells t (p',q')):=fill_agg ze8 t (p',q')
   have hfl:ze2 [(0,some 4,.agg [.str t.Code,.int .i64 t.Life,p',q'])] (repL 1 [.str [],.int .i64 0,.nils,.nils])=some [.str t.Code,.int .i64 t.Life,p',q']:=hfl
   simp -dsimp [cp',cq',cX,hfl, - V.zfa]
   have o3:=Owns.join o (o1.join o2)
   refine o3.push 0 rfl (cs:=[.str t.Code,.int .i64 t.Life,p',q']) rfl (by decide) (by simp;omega) (by simp [maxLen];omega) fun X' h3 o4 _=> ?_
   have cX':X'.zc8=true:=(o4.slAt 0 rfl).zc8
   simp -dsimp [cX', - V.zfa]
   rw [add1 (show j<4611686018427387904 by omega)]
   simp -dsimp only [B.zd]
   refine hY (s.zhg.length-(j+1)) _ _ (by omega) ⟨j+1,X',P++[(t,(p',q'))],by omega,rfl,by rw [hf, <- eP,List.map_append];rfl,?_⟩
   unfold Df
   rw [DK.zsw,DK.os_one,List.map_append]
   exact o4
  ·rw [if_neg (by rw [hb];exact Bool.false_ne_true),List.append_nil] at hf
   simp -dsimp only [add1 (show j<4611686018427387904 by omega),B.zd]
   exact hY (s.zhg.length-(j+1)) _ _ (by omega) ⟨j+1,X,P,by omega,rfl,by rw [hf];exact eP,o⟩
 ·rw [decide_eq_false_iff_not] at hc
  have:j=s.zhg.length:=by omega
  subst this
  rw [List.take_length] at eP
  simp -dsimp [cy,ly, - zcf.l4, - zcf.k3]
  have o0:Owns h hh ([.sl 4 X (P.map ze8.cs) [],.sl 6 .nils [] []]++ze8.os false P):=(Owns.nils o 6).perm ((List.perm_append_comm (l₁:=ze8.os false P) (l₂:=[Ob.sl 6 .nils [] []])).cons _)
  refine zg.intro (fun n vs hh=> ∃ (j:Nat) (Yv:AVal),j+n=s.Lots.length /\ vs=[.int .i64 (j:Int),.agg [.int .i64 s.Now,.int .i64 s.NextLot,.int .i64 s.zr3,X,Yv,.nils]] /\ Owns h hh ([.sl 4 X (P.map ze8.cs) [],.sl 6 Yv (((s.Lots.take j).filter (fun t=>decide (t.Item∈L))).map Lot.cs) []]++ze8.os false P)) s.Lots.length ?_ ⟨0,.nils,by simp,rfl,by simpa using o0⟩
  rintro Y2 n vs h2 ⟨j,Yv,hj2,rfl,o⟩ hY2
  have cYv:Yv.zc8=true:=(o.slAt 1 rfl).zc8
  have hQl:=zlv (fun t:Lot=>decide (t.Item∈L)) s.Lots j
  simp -dsimp only [zcf.l4,zcf.k3,V.zd4,B.zd]
  refine B.zn (fun hc=> ?_) (fun hc=> ?_)
  ·rw [decide_eq_true_eq] at hc
   obtain ⟨t,ht⟩:=zfz (L:=s.Lots) (k:=j) (by omega)
   have f1:V.idxS 6 y (.int .i64 (j:Int))=some (elp 6 y j 0):=hy.idxN (by rw [List.length_map];omega)
   have f2:A.ldnv h2 (elp 6 y j 0) 6=some (.agg t.cs):=(hy.mono o.le).elem (by rw [List.getElem?_map,ht];rfl)
   have hf:=zpk (fun t:Lot=>decide (t.Item∈L)) ht
   simp -dsimp [f1,f2, - V.zfa]
   refine s1 w L R t.Item h2 _ (hw.mono o.le) (by omega) ?_
   refine B.zn (fun hb=> ?_) (fun hb=> ?_)
   ·rw [if_pos hb] at hf
    simp -dsimp [cX,cYv,repL, - V.zfa]
    refine o.push 1 rfl (cs:=t.cs) rfl (by decide) (by simp;omega) (by simp [maxLen];omega) fun Y' h3 o4 _=> ?_
    have cY':Y'.zc8=true:=(o4.slAt 1 rfl).zc8
    simp -dsimp [cY', - V.zfa]
    rw [add1 (show j<4611686018427387904 by omega)]
    simp -dsimp only [B.zd]
    refine hY2 (s.Lots.length-(j+1)) _ _ (by omega) ⟨j+1,Y',by omega,rfl,?_⟩
    rw [hf,List.map_append]
    exact o4
   ·rw [if_neg (by rw [hb];exact Bool.false_ne_true),List.append_nil] at hf
    simp -dsimp only [add1 (show j<4611686018427387904 by omega),B.zd]
    exact hY2 (s.Lots.length-(j+1)) _ _ (by omega) ⟨j+1,Yv,by omega,rfl,by rw [hf];exact o⟩
  ·rw [decide_eq_false_iff_not] at hc
   have:j=s.Lots.length:=by omega
   subst this
   rw [List.take_length] at o
   simp -dsimp [cz,lz, - zcf.l2, - zcf.k1]
   have o0:Owns h h2 ([.sl 4 X (P.map ze8.cs) [],.sl 6 Yv ((s.Lots.filter (fun t=>decide (t.Item∈L))).map Lot.cs) [],.sl 8 .nils [] []]++ze8.os false P):=by
    have:=Owns.nils o 8
    exact this.perm (((List.perm_append_comm (l₁:=ze8.os false P) (l₂:=[Ob.sl 8 .nils [] []])).cons _).cons _)
   refine zg.intro (fun n vs hh=> ∃ (j:Nat) (Zv:AVal),j+n=s.zlc.length /\ vs=[.int .i64 (j:Int),.agg [.int .i64 s.Now,.int .i64 s.NextLot,.int .i64 s.zr3,X,Yv,Zv]] /\ Owns h hh ([.sl 4 X (P.map ze8.cs) [],.sl 6 Yv ((s.Lots.filter (fun t=>decide (t.Item∈L))).map Lot.cs) [],.sl 8 Zv (((s.zlc.take j).filter (fun t=>decide (t.Item∈L))).map Line.cs) []]++ze8.os false P)) s.zlc.length ?_ ⟨0,.nils,by simp,rfl,by simpa using o0⟩
   rintro Y3 n vs h3 ⟨j,Zv,hj3,rfl,o⟩ hY3
   have cZv:Zv.zc8=true:=(o.slAt 2 rfl).zc8
   have hQl:=zlv (fun t:Line=>decide (t.Item∈L)) s.zlc j
   simp -dsimp only [zcf.l2,zcf.k1,V.zd4,B.zd]
   refine B.zn (fun hc=> ?_) (fun hc=> ?_)
   ·rw [decide_eq_true_eq] at hc
    obtain ⟨t,ht⟩:=zfz (L:=s.zlc) (k:=j) (by omega)
    have f1:V.idxS 8 z (.int .i64 (j:Int))=some (elp 8 z j 0):=hz.idxN (by rw [List.length_map];omega)
    have f2:A.ldnv h3 (elp 8 z j 0) 8=some (.agg t.cs):=(hz.mono o.le).elem (by rw [List.getElem?_map,ht];rfl)
    have hf:=zpk (fun t:Line=>decide (t.Item∈L)) ht
    simp -dsimp [f1,f2, - V.zfa]
    refine s1 w L R t.Item h3 _ (hw.mono o.le) (by omega) ?_
    refine B.zn (fun hb=> ?_) (fun hb=> ?_)
    ·rw [if_pos hb] at hf
     simp -dsimp [cX,cYv,cZv,repL, - V.zfa]
     refine o.push 2 rfl (cs:=t.cs) rfl (by decide) (by simp;omega) (by simp [maxLen];omega) fun Z' h4 o4 _=> ?_
     have cZ':Z'.zc8=true:=(o4.slAt 2 rfl).zc8
     simp -dsimp [cZ', - V.zfa]
     rw [add1 (show j<4611686018427387904 by omega)]
     simp -dsimp only [B.zd]
     refine hY3 (s.zlc.length-(j+1)) _ _ (by omega) ⟨j+1,Z',by omega,rfl,?_⟩
     rw [hf,List.map_append]
     exact o4
    ·rw [if_neg (by rw [hb];exact Bool.false_ne_true),List.append_nil] at hf
     simp -dsimp only [add1 (show j<4611686018427387904 by omega),B.zd]
     exact hY3 (s.zlc.length-(j+1)) _ _ (by omega) ⟨j+1,Zv,by omega,rfl,by rw [hf];exact o⟩
   ·rw [decide_eq_false_iff_not] at hc
    have:j=s.zlc.length:=by omega
    subst this
    rw [List.take_length] at o
    simp -dsimp [cX,cYv,cZv]
    exact zbe (hq X P Yv Zv h3 eP o)
end Go.Ab
namespace Go.Ab
variable {C:CSem} {N:zN}
def zey.Spec (C:CSem) (N:zN):Prop:= ∀ (x y:AVal) (L M Z:List Key) (R S:List (List AVal)) (h:za) (Q:zQ),SlX h 1 x (L.map tc) R->SlX h 1 y (M.map tc) S->L.length+M.length <= 10000000->ziq Z->(∀ k,k∈L++M↔k∈Z) ->
 (∀ x' h',Owns h h' [.sl 1 x' (Z.map tc) []]->Q x' h')->C (N 570) [x,y] h Q
theorem zey.spec (i:zey.Imp C N) (s0:zl.Spec C N) (s1:zbw.Spec C N) (s2:zbl.Spec C N) (s3:zbi.Spec C N):zey.Spec C N:=by
 intro x y L M Z R S h Q hx hy hl hZ hm hq
 have cx:=hx.zc8
 have cy:=hy.zc8
 apply i
 simp -dsimp [cx,cy,repL]
 intro i8 f8
 have o1:Owns h _ [.sl 1 (.sl i8 0 0 2 1 2) [[x],[y]] []]:=(Owns.start h).zrn (id:=i8) (n:=2) (cp:=2) (es:=1) (cs:=[x,y]) (L:=[[x],[y]]) (R:=[]) f8 (by simp) rfl (by simp) rfl
 generalize upd h i8 (zfm [x,y])=h1 at *
 refine s0 (.sl i8 0 0 2 1 2) [x,y] [L,M] [] h1 _ (o1.slAt 0 rfl) rfl (fun j v l hv hl=> ?_) (by simp) (by simp;omega) fun x' h2 R' o2=> ?_
 ·match j,hv,hl with
  | 0,hv,hl=>cases hv;cases hl;exact ⟨R,hx.mono o1.le⟩
  | 1,hv,hl=>cases hv;cases hl;exact ⟨S,hy.mono o1.le⟩
  | j+2,hv,_=>simp at hv
 have e:[L,M].flatten=L++M:=by simp
 rw [e] at o2
 exact zse s1 s2 s3 o2 (by simp;omega) hZ hm fun z h3 o3=>zbe (hq z h3 (o3.back o1.le))
structure AskC (cs:List AVal) (k:UInt8) (item:Key) (lot line:Int):Prop where
 len:cs.length=11
 kind:cs[0]? =some (.int .u8 (k.toNat:Int))
 item:cs[2]? =some (.str item)
 lot:cs[7]? =some (.int .i64 lot)
 line:cs[8]? =some (.int .i64 line)
theorem askLd {h:za} {id:Nat} {cs:List AVal} (hb:h id=some (zfm cs)) {j:Nat} {v:AVal} (hv:cs[j]? =some v):A.ldv h (.ptr id 0 j)=some v:=by rw [zl3 hb];exact hv
def z8.Spec (C:CSem) (N:zN):Prop:= ∀ (x f:AVal) (p:Lot->Bool) (L:List Lot) (R:List (List AVal)) (h:za) (Q:zQ),SlX h 6 x (L.map Lot.cs) R->L.length<4611686018427387904->AskSpec C (fun w:Lot=> .agg w.cs) f p h ->
 Q (.int .i64 (idxI p L)) h->C (N 572) [x,f] h Q
theorem z8.spec (i:z8.Imp C N):z8.Spec C N:=by
 intro x f p L R h Q hx hlen hf hq
 exact i _ _ _ _ (ztp lotS hx hlen hf (zbe hq))
def zei.Spec (C:CSem) (N:zN):Prop:= ∀ (w:Lot) (lot:Int) (id:Nat) (cs:List AVal) (h:za) (Q:zQ),h id=some (zfm cs)->cs[7]? =some (.int .i64 lot)->Q (.bool (decide (w.Id=lot))) h->C (N 571) [.agg w.cs,.ptr id 0 0] h Q
theorem zei.spec (i:zei.Imp C N):zei.Spec C N:=by
 intro w lot id cs h Q hb hv hq
 apply i
 simp -dsimp [askLd hb hv]
 exact zbe hq
def zeh.Spec (C:CSem) (N:zN):Prop:= ∀ (w:Line) (line:Int) (id:Nat) (cs:List AVal) (h:za) (Q:zQ),h id=some (zfm cs)->cs[8]? =some (.int .i64 line)->Q (.bool (decide (w.Id=line))) h->C (N 573) [.agg w.cs,.ptr id 0 0] h Q
theorem zeh.spec (i:zeh.Imp C N):zeh.Spec C N:=by
 intro w line id cs h Q hb hv hq
 apply i
 simp -dsimp [askLd hb hv]
 exact zbe hq
def zej.Spec (C:CSem) (N:zN):Prop:= ∀ (t:Itm) (a:AVal×AVal) (item:Key) (id:Nat) (cs:List AVal) (h:za) (Q:zQ),ze8.at_ h t a->h id=some (zfm cs)->cs[2]? =some (.str item)->Q (.bool (decide (t.Code=item))) h->C (N 574) [.agg (ze8.cells t a),.ptr id 0 0] h Q
theorem zej.spec (i:zej.Imp C N):zej.Spec C N:=by
 intro t a item id cs h Q ha hb hv hq
 obtain ⟨⟨R1,a1⟩,⟨R2,a2⟩,_⟩:(∃ R,SlX h 2 a.1 (t.ze5.map Part.cs) R) /\ (∃ R,SlX h 1 a.2 (t.zen.map tc) R) /\ t.ok:=ha
 have c1:=a1.zc8
 have c2:=a2.zc8
 apply i
 simp -dsimp [ze8,c1,c2,askLd hb hv]
 exact zbe hq
end Go.Ab
namespace Go.Ab
variable {C:CSem} {N:zN}
def z7.Spec (C:CSem) (N:zN):Prop:= ∀ (x:AVal) (c:Key) (id:Nat) (cs:List AVal) (L:List Itm) (h:za) (Q:zQ),Dl ze8 h x L->L.length <= 100000000->h id=some (zfm cs)->cs[2]? =some (.str c) ->
 Q (.bool (decide (c∈zco L))) h->C (N 575) [x,.fn (N 574) [] [.ptr id 0 0]] h Q
theorem z7.spec (i:z7.Imp C N) (i2:zbg.Imp C N) (s1:zej.Spec C N):z7.Spec C N:=by
 intro x c id cs L h Q hx hlen hid hv hq
 apply i
 simp -dsimp only [z7.cps,zke.cps]
 refine i2 _ _ _ _ ?_
 simp -dsimp only [zbg.cps,zce.cps,hx.zbj,B.zd]
 refine zg.intro (fun t vs hh=>hh=h /\ ∃ k:Nat,k+t=L.length /\ vs=[.int .i64 (k:Int)] /\ ∀ i,i<k-> ∀ a,L[i]? =some a->a.Code≠c) L.length ?_ ⟨rfl,0,by omega,rfl,fun i hi=>by omega⟩
 rintro Y t vs h ⟨rfl,k,ht,rfl,hno⟩ hY
 simp -dsimp only [zce.l2,zce.k1,lssN,B.zd]
 refine B.zn (fun hb=> ?_) (fun hb=> ?_)<;>simp only [decide_eq_true_eq,decide_eq_false_iff_not] at hb
 ·obtain ⟨p,o,e1,e2,_,_,_,_,_,_,ha⟩:=itm_get hx (List.getElem?_eq_getElem hb)
  simp -dsimp only [opsF,e1,B.zd,B.zou,e2]
  refine s1 _ _ c id cs _ _ ha hid hv ?_
  refine B.zn (fun hc=> ?_) (fun hc=> ?_)
  ·have hm:c∈zco L:=zi6.2 ⟨L[k],List.getElem_mem hb,by simpa using hc⟩
   rw [decide_eq_true hm] at hq
   have hk:decide ((0:Int) <= (k:Int))=true:=by simp
   refine zbe ?_
   simp -dsimp only [V.zjr,hk,B.zd]
   exact zbe hq
  ·simp -dsimp only [add1 (show k<4611686018427387904 by omega),B.zd]
   refine hY (L.length-(k+1)) _ _ (by omega) ⟨rfl,k+1,by omega,rfl,fun i hi a hia=> ?_⟩
   by_cases e:i=k
   ·subst e;rw [List.getElem?_eq_getElem hb] at hia;cases hia;simpa using hc
   ·exact hno i (by omega) a hia
 ·have hm:c∉zco L:=fun hm=>by
   obtain ⟨t,h1,h2⟩:=zi6.1 hm
   obtain ⟨j,hj,rfl⟩:=List.getElem_of_mem h1
   exact hno j (by omega) _ (List.getElem?_eq_getElem hj) h2
  rw [decide_eq_false hm] at hq
  refine zbe ?_
  simp -dsimp
  exact zbe hq
def zrl:List Key:=[[42]]
def lotT:Key:=[35,108,111,116]
def lineT:Key:=[35,108,105,110,101]
def zig (s:Sta) (k:UInt8) (item:Key) (lot line:Int):List Key:=
 if k=4 \/ k=5 then if item∈zco s.zhg then putT (zfv s.zhg [item]) lotT else zrl
 else if k=9 then if item∈zco s.zhg then putT (zfv s.zhg [item]) lineT else zrl
 else if k=13 \/ k=15 then if item∈zco s.zhg then zfv s.zhg [item] else zrl
 else if k=6 \/ k=7 \/ k=8 then match s.Lots.find? (fun l=>decide (l.Id=lot)) with|some t=>zfv s.zhg [t.Item]|none=>zrl
 else if k=10 \/ k=11 \/ k=14 then match s.zlc.find? (fun l=>decide (l.Id=line)) with|some t=>zfv s.zhg [t.Item]|none=>zrl
 else if k<1 \/ 15<k then [] else zrl
def zo.Spec (C:CSem) (N:zN):Prop:= ∀ (s:Sta) (x y z:AVal) (cs:List AVal) (k:UInt8) (item:Key) (lot line:Int) (h:za) (Q:zQ),StaAt h s x y z->s.zhg.length <= 100000->AskC cs k item lot line ->
 (∀ x' h',Owns h h' [.sl 1 x' ((zig s k item lot line).map tc) []]->Q x' h')->C (N 559) [.agg (staCs s x y z),.agg cs] h Q
theorem find_idx {α:Type} {p:α->Bool} {L:List α}:(L.find? p=none /\ idxI p L= -1) \/ ∃ (k:Nat) (t:α),L.find? p=some t /\ idxI p L=k /\ L[k]? =some t:=by
 unfold idxI
 cases e:L.findIdx? p with
 | none=>
  rw [List.findIdx?_eq_none_iff] at e
  exact .inl ⟨List.find?_eq_none.2 fun x hx=>by simp [e x hx],rfl⟩
 | some k=>
  rw [List.findIdx?_eq_some_iff_getElem] at e
  obtain ⟨h1,h2,h3⟩:=e
  refine .inr ⟨k,L[k],?_,rfl,List.getElem?_eq_getElem h1⟩
  rw [List.find?_eq_some_iff_getElem]
  exact ⟨h2,k,h1,rfl,fun j hj=>by simpa using h3 j hj⟩
theorem znw (I:List Itm):(zco I).length <= I.length:=by
 have:=(zfj (zj5 I)).length_le_of_subset (l₂:=I.map Itm.Code) fun k hk=>by
  obtain ⟨t,h1,h2⟩:=zi6.1 hk
  exact List.mem_map.2 ⟨t,h1,h2⟩
 rwa [List.length_map] at this
theorem withT_len (I:List Itm) (c:Key):(zfv I [c]).length <= I.length+1:=by
 have h:=(zfj (zkq I [c])).length_le_of_subset (l₂:=c::zco I) fun k hk=>by
  obtain ⟨d,h1,h2⟩:=zs2.1 hk
  rw [List.mem_singleton.1 h1] at h2
  rcases h2 with ⟨h2,h3⟩|⟨_,rfl⟩
  ·exact List.mem_cons_of_mem _ (h3.znc h2)
  ·exact List.mem_cons_self ..
 have:=znw I
 rw [List.length_cons] at h
 omega
theorem zo.spec (i:zo.Imp C N) (s1:z7.Spec C N) (s2:zc9.Spec C N) (s3:zey.Spec C N) (s4:z8.Spec C N) (s5:zy.Spec C N) (s6:zei.Spec C N) (s7:zeh.Spec C N):zo.Spec C N:=by
 intro s x y z cs k item lot line h Q hs hn hc hq
 obtain ⟨hI,⟨R2,hy⟩,⟨R3,hz⟩,n1,n2,n3⟩:=hs
 have cx:=hI.zc8
 have cy:=hy.zc8
 have cz:=hz.zc8
 have hcl:=hc.len
 apply i
 simp -dsimp [cx,cy,cz, - zo.k11]
 simp -dsimp only [A.znh,hcl,if_true]
 intro i3 f3
 have o1:=(Owns.start h).zq9 f3 cs
 generalize upd h i3 (zfm cs)=h1 at *
 obtain ⟨_,e,hb⟩:=o1.zqc 0 rfl
 cases e
 have hx1:=hI.mono o1.le
 have lkind: ∀ {h'},h1.le h'->A.ldv h' (.ptr i3 0 0)=some (.int .u8 (k.toNat:Int)):=fun hle=>askLd (hle _ _ hb) hc.kind
 have litem: ∀ {h'},h1.le h'->A.ldv h' (.ptr i3 0 2)=some (.str item):=fun hle=>askLd (hle _ _ hb) hc.item
 have kq: ∀ n:Nat,n<256->(((k.toNat:Nat):Int)=(n:Int)↔k=UInt8.ofNat n):=fun n hn=>by
  constructor
  ·intro e
   have:k.toNat=n:=by omega
   rw [<- this];simp
  ·intro e
   rw [e]
   have:(UInt8.ofNat n).toNat=n:=by simp;omega
   rw [this]
 have star: ∀ h',h1.le h'->zig s k item lot line=(if k<1 \/ 15<k then [] else zrl)->zo.k1 C N (dn Q) (.ptr i3 0 0) h':=by
  intro h' hle hcod
  have hh:h.le h':=za.le_trans o1.le hle
  have l1:(k.toNat:Int)<1↔k<1:=by rw [UInt8.lt_iff_toNat_lt,show (1:UInt8).toNat=1 from rfl];omega
  have l2:(15:Int)<(k.toNat:Int)↔15<k:=by rw [UInt8.lt_iff_toNat_lt,show (15:UInt8).toNat=15 from rfl];omega
  by_cases hk:k<1 \/ 15<k
  ·rw [if_pos hk] at hcod
   rw [hcod] at hq
   have fin:dn Q .nils h':=dn_le hh (hq .nils h ((Owns.start h).nils 1))
   by_cases hk1:k<1
   ·simp -dsimp [lkind hle,l1,hk1]
    exact fin
   ·have hk2:15<k:=hk.resolve_left hk1
    simp -dsimp [lkind hle,l1,l2,hk1,hk2]
    exact fin
  ·rw [if_neg hk] at hcod
   rw [hcod] at hq
   have hk1: ¬ k<1:=fun e=>hk (.inl e)
   have hk2: ¬ 15<k:=fun e=>hk (.inr e)
   simp -dsimp [lkind hle,l1,l2,hk1,hk2,repL]
   intro i95 f95
   have o2:=(Owns.start h').zrn (id:=i95) (n:=1) (cp:=1) (es:=1) (cs:=[.str [42]]) (L:=[[.str [42]]]) (R:=[]) f95 (by simp) rfl (by simp) rfl
   exact zbe (hq _ _ (o2.back hh))
 simp -dsimp only [zo.k11,B.zrj,V.zi7,List.getElem?_cons_zero,List.getElem?_cons_succ,B.zd]
 refine s1 x item i3 cs s.zhg h1 _ hx1 (by omega) hb hc.item ?_
 simp -dsimp only [V.fieldAddr_ptr,Nat.zero_add,B.zg0,lkind (za.le_refl h1),B.zd]
 have wth: ∀ (c:Key) (h':za) (id:Nat) (K:zQ),h1.le h'->h' id=none->(∀ v h2,Owns h1 h2 [.sl 1 v ((zfv s.zhg [c]).map tc) []]->K v h2)->C (N 553) [x,.sl id 0 0 1 1 1] (upd h' id (zfm [.str c])) K:=by
  intro c h' id K hle hid hK
  have o2:=(Owns.start h').zrn (id:=id) (n:=1) (cp:=1) (es:=1) (cs:=[.str c]) (L:=[c].map tc) (R:=[]) hid (by simp [tc]) rfl (by simp) rfl
  have le2:=za.le_trans hle o2.le
  exact s2 x _ s.zhg [c] [] _ K (hx1.mono le2) (by omega) (o2.slAt 0 rfl) (by simp) fun v h2 o3=>hK v h2 (o3.back le2)
 have wl:=withT_len s.zhg item
 have more: ∀ (m:Key) (v:AVal) (h2:za) (id:Nat) (K:zQ),Owns h1 h2 [.sl 1 v ((zfv s.zhg [item]).map tc) []]->h2 id=none->(∀ v' h3,Owns h1 h3 [.sl 1 v' ((putT (zfv s.zhg [item]) m).map tc) []]->K v' h3)->C (N 570) [v,.sl id 0 0 1 1 1] (upd h2 id (zfm [.str m])) K:=by
  intro m v h2 id K o2 hid hK
  have o3:=o2.zrn (id:=id) (n:=1) (cp:=1) (es:=1) (cs:=[.str m]) (L:=[m].map tc) (R:=[]) hid (by simp [tc]) rfl (by simp) rfl
  refine s3 v _ (zfv s.zhg [item]) [m] (putT (zfv s.zhg [item]) m) [] [] _ K (o3.slAt 0 rfl) (o3.slAt 1 rfl) (by simp;omega) (zpq (zkq _ _)) (fun k=> ?_) fun v' h3 o4=>hK v' h3 (o4.back o3.le)
  rw [List.mem_append,List.mem_singleton,zrw]
  exact Or.comm
 by_cases h4:k=4 \/ k=5
 ·have hcod:zig s k item lot line=if item∈zco s.zhg then putT (zfv s.zhg [item]) lotT else zrl:=by unfold zig;rw [if_pos h4]
  have k2:zo.k2 C N (dn Q) (.ptr i3 0 0) (.bool (decide (item∈zco s.zhg))) (.agg (staCs s x y z)) h1:=by
   refine B.zn (fun hm=> ?_) (fun hm=> ?_)
   ·rw [if_pos (of_decide_eq_true hm)] at hcod
    rw [hcod] at hq
    simp -dsimp [litem (za.le_refl h1),repL, - zo.k1]
    intro i22 f22
    refine wth item h1 i22 _ (za.le_refl h1) f22 fun v h2 o2=> ?_
    simp -dsimp [repL]
    intro i24 f24
    exact more lotT v h2 i24 _ o2 f24 fun v' h3 o3=>zbe (hq v' h3 (o3.back o1.le))
   ·rw [if_neg (of_decide_eq_false hm)] at hcod
    refine star h1 (za.le_refl h1) ?_
    rw [hcod,if_neg]
    rcases h4 with rfl|rfl<;>decide
  rcases h4 with rfl|rfl
  ·simp -dsimp [zo.k10, - zo.k2, - zo.k1]
   exact k2
  ·simp -dsimp [zo.k10, - zo.k2, - zo.k1]
   exact k2
 have a4:k≠4:=fun e=>h4 (.inl e)
 have a5:k≠5:=fun e=>h4 (.inr e)
 have q4:decide ((k.toNat:Int)=4)=false:=decide_eq_false fun e=>a4 ((kq 4 (by omega)).1 e)
 have q5:decide ((k.toNat:Int)=5)=false:=decide_eq_false fun e=>a5 ((kq 5 (by omega)).1 e)
 simp -dsimp only [zo.k10,V.zhf,q4,q5,B.zd,B.cond_false]
 by_cases h9:k=9
 ·subst h9
  have hcod:zig s 9 item lot line=if item∈zco s.zhg then putT (zfv s.zhg [item]) lineT else zrl:=by unfold zig;rw [if_neg h4,if_pos rfl]
  have e9:decide ((((9:UInt8).toNat:Nat):Int)=9)=true:=by decide
  simp -dsimp only [e9,B.cond_true]
  refine B.zn (fun hm=> ?_) (fun hm=> ?_)
  ·rw [if_pos (of_decide_eq_true hm)] at hcod
   rw [hcod] at hq
   simp -dsimp [litem (za.le_refl h1),repL, - zo.k1]
   intro i22 f22
   refine wth item h1 i22 _ (za.le_refl h1) f22 fun v h2 o2=> ?_
   simp -dsimp [repL]
   intro i24 f24
   exact more lineT v h2 i24 _ o2 f24 fun v' h3 o3=>zbe (hq v' h3 (o3.back o1.le))
  ·rw [if_neg (of_decide_eq_false hm)] at hcod
   refine star h1 (za.le_refl h1) ?_
   rw [hcod,if_neg (by decide)]
 have q9:decide ((k.toNat:Int)=9)=false:=decide_eq_false fun e=>h9 ((kq 9 (by omega)).1 e)
 simp -dsimp only [q9,B.cond_false,zo.k9,V.zhf,B.zd]
 by_cases h13:k=13 \/ k=15
 ·have hcod:zig s k item lot line=if item∈zco s.zhg then zfv s.zhg [item] else zrl:=by unfold zig;rw [if_neg h4,if_neg h9,if_pos h13]
  have k4:zo.k4 C N (dn Q) (.ptr i3 0 0) (.bool (decide (item∈zco s.zhg))) (.agg (staCs s x y z)) h1:=by
   refine B.zn (fun hm=> ?_) (fun hm=> ?_)
   ·rw [if_pos (of_decide_eq_true hm)] at hcod
    rw [hcod] at hq
    simp -dsimp [litem (za.le_refl h1),repL, - zo.k1]
    intro i22 f22
    exact wth item h1 i22 _ (za.le_refl h1) f22 fun v h2 o2=>zbe (hq v h2 (o2.back o1.le))
   ·rw [if_neg (of_decide_eq_false hm)] at hcod
    refine star h1 (za.le_refl h1) ?_
    rw [hcod,if_neg]
    rcases h13 with rfl|rfl<;>decide
  rcases h13 with rfl|rfl
  ·simp -dsimp [- zo.k4, - zo.k1]
   exact k4
  ·simp -dsimp [- zo.k4, - zo.k1]
   exact k4
 have a13:k≠13:=fun e=>h13 (.inl e)
 have a15:k≠15:=fun e=>h13 (.inr e)
 have q13:decide ((k.toNat:Int)=13)=false:=decide_eq_false fun e=>a13 ((kq 13 (by omega)).1 e)
 have q15:decide ((k.toNat:Int)=15)=false:=decide_eq_false fun e=>a15 ((kq 15 (by omega)).1 e)
 simp -dsimp only [q13,q15,B.cond_false,zo.k8,V.zhf,B.zd]
 by_cases h6:k=6 \/ k=7 \/ k=8
 ·have hcod:zig s k item lot line=match s.Lots.find? (fun l=>decide (l.Id=lot)) with|some t=>zfv s.zhg [t.Item]|none=>zrl:=by unfold zig;rw [if_neg h4,if_neg h9,if_neg h13,if_pos h6]
  have k5:zo.k5 C N (dn Q) (.ptr i3 0 0) (.agg (staCs s x y z)) h1:=by
   simp -dsimp only [zo.k5,B.zrj,V.zi7,List.getElem?_cons_zero,List.getElem?_cons_succ,B.zd]
   refine s4 y _ (fun l=>decide (l.Id=lot)) s.Lots R2 h1 _ (hy.mono o1.le) (by omega) (fun t h' K hle hk=> ?_) ?_
   ·rw [B.zlp]
    exact s6 t lot i3 cs h' K (hle _ _ hb) hc.lot hk
   ·rcases find_idx (p:=fun l:Lot=>decide (l.Id=lot)) (L:=s.Lots) with ⟨e1,e2⟩|⟨j,t,e1,e2,e3⟩
    ·rw [e1] at hcod
     rw [e2]
     simp -dsimp [- zo.k1]
     refine star h1 (za.le_refl h1) ?_
     rw [hcod,if_neg]
     rcases h6 with rfl|rfl|rfl<;>decide
    ·rw [e1] at hcod
     rw [hcod] at hq
     rw [e2]
     have hj:j<s.Lots.length:=(List.getElem?_eq_some_iff.1 e3).1
     have f1:V.idxS 6 y (.int .i64 (j:Int))=some (elp 6 y j 0):=hy.idxN (by rw [List.length_map];exact hj)
     have ge:decide ((0:Int) <= (j:Int))=true:=by simp
     have hj':j<(s.Lots.map Lot.cs).length:=by rw [List.length_map];exact hj
     have f2:V.fieldAddr 1 (elp 6 y j 0)=some (elp 6 y j 1):=hy.fieldA hj' 0 1
     have f3:A.ldv h1 (elp 6 y j 1)=some (.str t.Item):=(hy.mono o1.le).ldv (f:=1) (c:=t.cs) (by rw [List.getElem?_map,e3];rfl) (by omega)
     simp -dsimp [ge,f1,f2,f3,repL, - zo.k1]
     intro i65 f65
     exact wth t.Item h1 i65 _ (za.le_refl h1) f65 fun v h2 o2=>zbe (hq v h2 (o2.back o1.le))
  rcases h6 with rfl|rfl|rfl
  ·simp -dsimp [- zo.k5, - zo.k1]
   exact k5
  ·simp -dsimp [- zo.k5, - zo.k1]
   exact k5
  ·simp -dsimp [- zo.k5, - zo.k1]
   exact k5
 have a6:k≠6:=fun e=>h6 (.inl e)
 have a7:k≠7:=fun e=>h6 (.inr (.inl e))
 have a8:k≠8:=fun e=>h6 (.inr (.inr e))
 have q6:decide ((k.toNat:Int)=6)=false:=decide_eq_false fun e=>a6 ((kq 6 (by omega)).1 e)
 have q7:decide ((k.toNat:Int)=7)=false:=decide_eq_false fun e=>a7 ((kq 7 (by omega)).1 e)
 have q8:decide ((k.toNat:Int)=8)=false:=decide_eq_false fun e=>a8 ((kq 8 (by omega)).1 e)
 simp -dsimp only [q6,q7,q8,B.cond_false,zo.k7,V.zhf,B.zd]
 by_cases h10:k=10 \/ k=11 \/ k=14
 ·have hcod:zig s k item lot line=match s.zlc.find? (fun l=>decide (l.Id=line)) with|some t=>zfv s.zhg [t.Item]|none=>zrl:=by unfold zig;rw [if_neg h4,if_neg h9,if_neg h13,if_neg h6,if_pos h10]
  have k6:zo.k6 C N (dn Q) (.ptr i3 0 0) (.bool true) (.agg (staCs s x y z)) h1:=by
   simp -dsimp only [zo.k6,B.cond_true,B.zrj,V.zi7,List.getElem?_cons_zero,List.getElem?_cons_succ,B.zd]
   refine s5 z _ (fun l=>decide (l.Id=line)) s.zlc R3 h1 _ (hz.mono o1.le) (by omega) (fun t h' K hle hk=> ?_) ?_
   ·rw [B.zlp]
    exact s7 t line i3 cs h' K (hle _ _ hb) hc.line hk
   ·rcases find_idx (p:=fun l:Line=>decide (l.Id=line)) (L:=s.zlc) with ⟨e1,e2⟩|⟨j,t,e1,e2,e3⟩
    ·rw [e1] at hcod
     have e2:idxOf (fun l:Line=>decide (l.Id=line)) s.zlc= -1:=e2
     rw [e2]
     simp -dsimp [- zo.k1]
     refine star h1 (za.le_refl h1) ?_
     rw [hcod,if_neg]
     rcases h10 with rfl|rfl|rfl<;>decide
    ·rw [e1] at hcod
     rw [hcod] at hq
     have e2:idxOf (fun l:Line=>decide (l.Id=line)) s.zlc=j:=e2
     rw [e2]
     have hj:j<s.zlc.length:=(List.getElem?_eq_some_iff.1 e3).1
     have f1:V.idxS 8 z (.int .i64 (j:Int))=some (elp 8 z j 0):=hz.idxN (by rw [List.length_map];exact hj)
     have ge:decide ((0:Int) <= (j:Int))=true:=by simp
     have hj':j<(s.zlc.map Line.cs).length:=by rw [List.length_map];exact hj
     have f2:V.fieldAddr 1 (elp 8 z j 0)=some (elp 8 z j 1):=hz.fieldA hj' 0 1
     have f3:A.ldv h1 (elp 8 z j 1)=some (.str t.Item):=(hz.mono o1.le).ldv (f:=1) (c:=t.cs) (by rw [List.getElem?_map,e3];rfl) (by omega)
     simp -dsimp [ge,f1,f2,f3,repL, - zo.k1]
     intro i65 f65
     exact wth t.Item h1 i65 _ (za.le_refl h1) f65 fun v h2 o2=>zbe (hq v h2 (o2.back o1.le))
  rcases h10 with rfl|rfl|rfl
  ·simp -dsimp [- zo.k6, - zo.k1]
   exact k6
  ·simp -dsimp [- zo.k6, - zo.k1]
   exact k6
  ·simp -dsimp [- zo.k6, - zo.k1]
   exact k6
 have a10:k≠10:=fun e=>h10 (.inl e)
 have a11:k≠11:=fun e=>h10 (.inr (.inl e))
 have a14:k≠14:=fun e=>h10 (.inr (.inr e))
 have q10:decide ((k.toNat:Int)=10)=false:=decide_eq_false fun e=>a10 ((kq 10 (by omega)).1 e)
 have q11:decide ((k.toNat:Int)=11)=false:=decide_eq_false fun e=>a11 ((kq 11 (by omega)).1 e)
 have q14:decide ((k.toNat:Int)=14)=false:=decide_eq_false fun e=>a14 ((kq 14 (by omega)).1 e)
 simp -dsimp only [q10,q11,q14,B.cond_false,V.zhf,B.zd,zo.k6]
 refine star h1 (za.le_refl h1) ?_
 unfold zig
 rw [if_neg h4,if_neg h9,if_neg h13,if_neg h6,if_neg h10]
end Go.Ab
namespace Go.Ab
variable {C:CSem} {N:zN}
abbrev gV:AVal×List Key->AVal:=fun p=>p.1
def gOb (gs:Ents Key (AVal×List Key)):List Ob:=gs.map fun p=> .sl 1 p.2.1.1 (p.2.1.2.map tc) []
def addP (gs:Ents Key (AVal×List Key)) (r c:Key):List Key:=match getP gs r with|some q=>q.2++[c]|none=>[c]
theorem idxP_at {K T:Type} [DecidableEq K] {k:K}: ∀ {ps:Ents K T} {i:Nat} {q:T×Nat},idxP ps k=some (i,q)->ps[i]? =some (k,q.1,q.2)
 | [],i,q,h=>by cases h
 | p::r,i,q,h=>by
  unfold idxP at h
  split at h
  ·rename_i e
   cases h
   rw [<- e];rfl
  ·cases hr:idxP r k with
   | none=>rw [hr] at h;cases h
   | some u=>
    obtain ⟨j,u⟩:=u
    rw [hr] at h
    cases h
    show r[j]? =_
    exact idxP_at (ps:=r) hr
theorem group_add {h0 h:za} {l:List Ob} {w d:Nat} {gs:Ents Key (AVal×List Key)} {r c:Key} {K:za->Prop} (ho:Owns h0 h (.blk w (zgy (encM sV gV gs) d)::(gOb gs++l))) (hl: ∀ q,getP gs r=some q->q.2.length <= 10000000)
  (hK: ∀ x' h',Owns h0 h' (.blk w (zgy (encM sV gV (putP gs r (x',addP gs r c) d)) (clkP gs r d))::(gOb (putP gs r (x',addP gs r c) d)++l))->K h'):
  B.pv (A.lkp h (some .s) (some .nils) false (.mp w) (.str r)) fun v30=>B.newO h (ze2 [(0,none,.str c)] (repL 1 [.str []])) fun i32 h=>B.appW h 1 16 v30 (.sl i32 0 0 1 1 1) fun v33 h=>B.mset h .s (.mp w) (.str r) v33 K:=by
 have e1:A.lkp h (some .s) (some .nils) false (.mp w) (.str r)=some (gV ((getP gs r).getD (.nils,[]))):=ho.lkp (κ:=sV) (v:=gV) 0 rfl keyS (.nils,[]) r
 rw [e1]
 have hf:ze2 [(0,none,.str c)] (repL 1 [.str []])=some [.str c]:=rfl
 rw [hf]
 simp -dsimp only [B.zd]
 cases hg:getP gs r with
 | none=>
  have hi:idxP gs r=none:=by
   have:=znp r gs
   rw [hg] at this
   cases e:idxP gs r with
   | none=>rfl
   | some q=>rw [e] at this;cases this
  have o1:Owns h0 h ((.blk w (zgy (encM sV gV gs) d)::(gOb gs++l))++[.sl 1 .nils [] []]):=ho.nils 1
  refine o1.push _ endGet (cs:=[.str c]) rfl (by omega) (by simp) (by simp [maxLen]) fun x' h2 o2 _=> ?_
  rw [endSet] at o2
  have o2:Owns h0 h2 (.blk w (zgy (encM sV gV gs) d)::((gOb gs++l)++[.sl 1 x' ([c].map tc) []])):=o2
  refine o2.mset (κ:=sV) (v:=gV) 0 rfl keyS r (x',[c]) fun h3 o3 _ _=> ?_
  have e2:addP gs r c=[c]:=by unfold addP;rw [hg]
  refine hK x' h3 ?_
  rw [e2,zjm hi]
  rw [zjm hi] at o3
  refine o3.perm (List.Perm.cons _ ?_)
  unfold gOb
  rw [List.map_append,List.append_assoc,List.append_assoc]
  exact List.Perm.append_left _ List.perm_append_comm
 | some q=>
  obtain ⟨i,n,hi⟩: ∃ i n,idxP gs r=some (i,q,n):=by
   have:=znp r gs
   rw [hg] at this
   cases e:idxP gs r with
   | none=>rw [e] at this;cases this
   | some p=>
    rw [e] at this
    obtain ⟨i,t,n⟩:=p
    cases this
    exact ⟨i,n,rfl⟩
  have hat:gs[i]? =some (r,q,n):=idxP_at hi
  have hi':i<gs.length:=(List.getElem?_eq_some_iff.1 hat).1
  have hk:(Ob.blk w (zgy (encM sV gV gs) d)::(gOb gs++l))[i+1]? =some (.sl 1 q.1 (q.2.map tc) []):=by
   rw [List.getElem?_cons_succ,List.getElem?_append_left (by unfold gOb;rw [List.length_map];exact hi')]
   unfold gOb
   rw [List.getElem?_map,hat];rfl
  have hql:=hl q hg
  refine ho.push (i+1) hk (cs:=[.str c]) rfl (by omega) (by simp;omega) (by simp [maxLen];omega) fun x' h2 o2 _=> ?_
  rw [List.set_cons_succ] at o2
  refine o2.mset (κ:=sV) (v:=gV) 0 rfl keyS r (x',q.2++[c]) fun h3 o3 _ _=> ?_
  have e2:addP gs r c=q.2++[c]:=by unfold addP;rw [hg]
  refine hK x' h3 ?_
  rw [e2]
  have e3:=(zr0 (t:=(x',q.2++[c])) (c:=d) hi).1
  have e4:gOb (putP gs r (x',q.2++[c]) d)++l=(gOb gs++l).set i (.sl 1 x' ((q.2++[c]).map tc) []):=by
   rw [e3,List.set_append_left _ _ (by unfold gOb;rw [List.length_map];exact hi')]
   unfold gOb
   rw [List.map_set]
  rw [e4,List.map_append]
  rw [List.set_cons_zero] at o3
  exact o3
end Go.Ab
namespace Go.Ab
def cmpL:List Key->List Key->Int
 | [],[]=>0
 | [],_::_=> -1
 | _::_,[]=>1
 | a::l,b::m=>if a=b then cmpL l m else cmpB a b
def zmh:List Key->List Key->Bool
 | _,[]=>false
 | [],_::_=>true
 | a::l,b::m=>zgz a b||(decide (a=b)&&zmh l m)
theorem cmpL_neg: ∀ {l m:List Key},cmpL l m<0↔zmh l m=true
 | [],[]=>by simp [cmpL,zmh]
 | [],_::_=>by simp [cmpL,zmh]
 | _::_,[]=>by simp [cmpL,zmh]
 | a::l,b::m=>by
  unfold cmpL zmh
  by_cases e:a=b
  ·subst e
   rw [if_pos rfl,cmpL_neg,zin]
   simp
  ·rw [if_neg e,zqb]
   simp [e]
theorem zt9: ∀ {l m:List Key},zmh l m=true->zmh m l=false
 | [],[],h=>by cases h
 | [],_::_,_=>rfl
 | _::_,[],h=>by cases h
 | a::l,b::m,h=>by
  unfold zmh at h ⊢
  rw [Bool.or_eq_true,Bool.and_eq_true] at h
  rcases h with h|⟨h1,h2⟩
  ·rw [zl1 h]
   have: ¬ b=a:=fun e=>by subst e;rw [zin] at h;cases h
   simp [this]
  ·have e:a=b:=of_decide_eq_true h1
   subst e
   rw [zin,zt9 h2];simp
theorem lessL_tri: ∀ {l m:List Key},zmh l m=false->l=m \/ zmh m l=true
 | [],[],_=> .inl rfl
 | [],_::_,h=>by cases h
 | _::_,[],_=> .inr rfl
 | a::l,b::m,h=>by
  unfold zmh at h ⊢
  rw [Bool.or_eq_false_iff] at h
  obtain ⟨h1,h2⟩:=h
  by_cases e:a=b
  ·subst e
   have h2:zmh l m=false:=by simpa using h2
   rcases lessL_tri h2 with e|h3
   ·exact .inl (by rw [e])
   ·exact .inr (by simp [h3])
  ·exact .inr (by rw [zll h1 e];rfl)
theorem zs6: ∀ {l m n:List Key},zmh l m=true->zmh m n=true->zmh l n=true
 | l,[],n,h,_=>by cases l<;>cases h
 | _,_::_,[],_,h=>by cases h
 | [],_::_,_::_,_,_=>rfl
 | a::l,b::m,c::n,h,k=>by
  unfold zmh at h k ⊢
  rw [Bool.or_eq_true,Bool.and_eq_true] at h k ⊢
  rcases h with h|⟨h1,h2⟩
  ·rcases k with k|⟨k1,k2⟩
   ·exact .inl (zj3 h k)
   ·have e:b=c:=of_decide_eq_true k1
    subst e;exact .inl h
  ·have e:a=b:=of_decide_eq_true h1
   subst e
   rcases k with k|⟨k1,k2⟩
   ·exact .inl k
   ·exact .inr ⟨k1,zs6 h2 k2⟩
theorem weakL:Weak (ze4 cmpL):=by
 constructor<;>simp only [ze4,decide_eq_true_eq,decide_eq_false_iff_not,cmpL_neg]
 ·intro a b h;rw [zt9 h];simp
 ·intro a b c h1 h2 h3
  have h1:zmh a b=false:=by simpa using h1
  have h2:zmh b c=false:=by simpa using h2
  rcases lessL_tri h1 with e|h
  ·subst e;rw [h2] at h3;cases h3
  ·have:=zs6 h h3
   rw [h2] at this;cases this
def ofT (I:List Itm):List (List Key):=((zco I).filter fun c=>decide ((zdm I c).head? =some c)).map (zdm I)
theorem zk5 {I:List Itm} {c:Key} (hc:c∈zco I):c∈zdm I c:=((zep hc).2 c).2 (.refl c)
theorem zl8 {I:List Itm} {c d:Key} (hc:c∈zco I) (hd:d∈zdm I c):zdm I d=zdm I c:=by
 have he:=((zep hc).2 d).1 hd
 have hdc:=he.znc hc
 refine zm7 (zep hdc).1 (zep hc).1 fun y=> ?_
 rw [(zep hdc).2,(zep hc).2]
 exact ⟨fun h=> .trans he h,fun h=> .trans (.symm he) h⟩
theorem mem_ofT {I:List Itm} {g:List Key}:g∈ofT I↔ ∃ c∈zco I,g=zdm I c:=by
 unfold ofT
 rw [List.mem_map]
 constructor
 ·rintro ⟨c,h,rfl⟩
  exact ⟨c,(List.mem_filter.1 h).1,rfl⟩
 ·rintro ⟨c,hc,rfl⟩
  have hs:=zk5 hc
  cases hg:zdm I c with
  | nil=>rw [hg] at hs;cases hs
  | cons a r=>
   have ha:a∈zdm I c:=by rw [hg];exact List.mem_cons_self ..
   have hac:=(((zep hc).2 a).1 ha).znc hc
   have e:=zl8 hc ha
   refine ⟨a,List.mem_filter.2 ⟨hac,?_⟩,by rw [e,hg]⟩
   rw [e,hg]
   simp
def headLt (g k:List Key):Prop:= ∃ a b,g.head? =some a /\ k.head? =some b /\ zgz a b=true
theorem headLt_asym {g k:List Key} (h:headLt g k) (h2:headLt k g):False:=by
 obtain ⟨a,b,e1,e2,h⟩:=h
 obtain ⟨c,d,f1,f2,h2⟩:=h2
 rw [e2] at f1;cases f1
 rw [e1] at f2;cases f2
 rw [zl1 h] at h2;cases h2
theorem ofT_rise (I:List Itm):(ofT I).Pairwise headLt:=by
 unfold ofT
 rw [List.pairwise_map]
 refine List.Pairwise.imp_of_mem (fun {c d} hc hd h=> ?_) ((zj5 I).filter _)
 have h1:=(List.mem_filter.1 hc).2
 have h2:=(List.mem_filter.1 hd).2
 exact ⟨c,d,of_decide_eq_true h1,of_decide_eq_true h2,h⟩
theorem ofT_unique {I:List Itm} {L:List (List Key)} (hm: ∀ g,g∈L↔ ∃ c∈zco I,g=zdm I c) (hn:L.Nodup) (hs:L.Pairwise fun s t=> ¬ cmpL t s<0):L=ofT I:=by
 refine rise_ext (fun a b h k=>headLt_asym h k) ?_ (ofT_rise I) fun g=>by rw [hm,mem_ofT]
 have hp:L.Pairwise fun s t=>s≠t /\ ¬ cmpL t s<0:=List.pairwise_and_iff.2 ⟨hn,hs⟩
 refine hp.imp_of_mem fun {g k} hg hk ⟨hne,hc⟩=> ?_
 obtain ⟨c,hcc,rfl⟩:=(hm g).1 hg
 obtain ⟨d,hdc,rfl⟩:=(hm k).1 hk
 have hs1:=zk5 hcc
 have hs2:=zk5 hdc
 have e1:=fun a=>zl8 (I:=I) (c:=c) (d:=a) hcc
 have e2:=fun a=>zl8 (I:=I) (c:=d) (d:=a) hdc
 generalize zdm I c=g at *
 generalize zdm I d=k at *
 cases g with
 | nil=>cases hs1
 | cons a r=>
  cases k with
  | nil=>cases hs2
  | cons b q=>
   refine ⟨a,b,rfl,rfl,?_⟩
   have hab:a≠b:=fun e=>by
    subst e
    exact hne ((e1 a (List.mem_cons_self ..)).symm.trans (e2 a (List.mem_cons_self ..)))
   unfold cmpL at hc
   rw [if_neg (Ne.symm hab),zqb] at hc
   have hc:zgz b a=false:=by simpa using hc
   exact zll hc (Ne.symm hab)
end Go.Ab
namespace Go.Ab
variable {C:CSem} {N:zN}
def zcx.Spec (C:CSem) (N:zN):Prop:= ∀ (a b:Key) (h:za) (Q:zQ),Q (.int .i64 (cmpB a b)) h->C (N 580) [.str a,.str b] h Q
theorem V.bin_sgtr (a b:List UInt8):V.bin .gtr (.str a) (.str b)=some (.bool (!(zgz a b||a==b))):=rfl
theorem zcx.spec (i:zcx.Imp C N) (s1:zdu.Spec C N):zcx.Spec C N:=by
 intro a b h Q hq
 apply i
 simp -dsimp only [zcx.cps,zcx.k1]
 refine s1 _ _ _ ?_
 refine s1 _ _ _ ?_
 rw [zqa] at hq
 simp -dsimp only [B.cond_false,V.bin_slss,V.bin_sgtr,B.zd]
 refine B.zn (fun h1=> ?_) (fun h1=> ?_)
 ·rw [if_pos h1] at hq;exact zbe hq
 ·rw [if_neg (by rw [h1];exact Bool.false_ne_true)] at hq
  refine B.zn (fun h2=> ?_) (fun h2=> ?_)
  ·have h2:(!(zgz a b||a==b))=true:=h2
   rw [h1] at h2
   have hne: ¬ a=b:=by simpa using h2
   rw [if_pos (zll h1 hne)] at hq;exact zbe hq
  ·have h2:(!(zgz a b||a==b))=false:=h2
   rw [h1] at h2
   have e:a=b:=by simpa using h2
   subst e
   rw [zin] at hq;exact zbe hq
def zbo.Spec (C:CSem) (N:zN):Prop:= ∀ (x y:AVal) (L M:List Key) (R S:List (List AVal)) (h:za) (Q:zQ),SlX h 1 x (L.map tc) R->SlX h 1 y (M.map tc) S->L.length <= 100000000->M.length <= 100000000->Q (.int .i64 (cmpL L M)) h->C (N 578) [x,y] h Q
theorem cmpL_take: ∀ {k:Nat} {L M:List Key},k <= L.length->L.take k=M.take k->cmpL L M=cmpL (L.drop k) (M.drop k)
 | 0,_,_,_,_=>rfl
 | k+1,[],M,h,_=>by simp at h
 | k+1,a::l,[],h,e=>by simp at e
 | k+1,a::l,b::m,h,e=>by
  rw [List.take_succ_cons,List.take_succ_cons] at e
  obtain ⟨e1,e2⟩:=List.cons.inj e
  rw [cmpL,if_pos e1,List.drop_succ_cons,List.drop_succ_cons]
  exact cmpL_take (by simpa using h) e2
theorem zbo.spec (i:zbo.Imp C N) (s1:zcx.Spec C N):zbo.Spec C N:=by
 intro x y L M R S h Q hx hy hL hM hq
 apply i
 have lx:=hx.zbj
 have ly:=hy.zbj
 rw [List.length_map] at lx ly
 simp -dsimp only [zbo.cps,zeo.cps,lx,B.zd]
 refine zg.intro (fun n vs hh=>hh=h /\ ∃ k:Nat,k+n=L.length /\ vs=[.int .i64 (k:Int)] /\ L.take k=M.take k) L.length ?_ ⟨rfl,0,by simp,rfl,rfl⟩
 rintro Y n vs h ⟨rfl,k,hk,rfl,ht⟩ hY
 have hqk:=cmpL_take (by omega) ht
 simp -dsimp only [zeo.l3,zeo.k2,V.zd4,B.zd]
 refine B.zn (fun hc=> ?_) (fun hc=> ?_)
 ·rw [decide_eq_true_eq] at hc
  obtain ⟨a,ha⟩:=zfz (L:=L) (k:=k) (by omega)
  have hdl:L.drop k=a::L.drop (k+1):=by
   obtain ⟨h1,h2⟩:=List.getElem?_eq_some_iff.1 ha
   rw [List.drop_eq_getElem_cons h1,h2]
  have f1:V.idxS 1 x (.int .i64 (k:Int))=some (elp 1 x k 0):=hx.idxN (by rw [List.length_map];omega)
  have f2:A.ldv h (elp 1 x k 0)=some (.str a):=hx.cell (by rw [List.getElem?_map,ha];rfl)
  simp -dsimp only [opsS,f1,f2,B.zg0,B.zd,ly,V.zjr]
  refine B.zn (fun hd=> ?_) (fun hd=> ?_)
  ·rw [decide_eq_true_eq] at hd
   have:M.drop k=[]:=List.drop_eq_nil_of_le (by omega)
   rw [hqk,hdl,this] at hq
   exact zbe hq
  ·rw [decide_eq_false_iff_not] at hd
   obtain ⟨b,hb⟩:=zfz (L:=M) (k:=k) (by omega)
   have hdm:M.drop k=b::M.drop (k+1):=by
    obtain ⟨h1,h2⟩:=List.getElem?_eq_some_iff.1 hb
    rw [List.drop_eq_getElem_cons h1,h2]
   have g1:V.idxS 1 y (.int .i64 (k:Int))=some (elp 1 y k 0):=hy.idxN (by rw [List.length_map];omega)
   have g2:A.ldv h (elp 1 y k 0)=some (.str b):=hy.cell (by rw [List.getElem?_map,hb];rfl)
   simp -dsimp only [opsS,g1,g2,B.zg0,B.zd]
   refine s1 a b h _ ?_
   rw [hqk,hdl,hdm,cmpL] at hq
   by_cases hab:a=b
   ·subst hab
    have z:cmpB a a=0:=cmpB_zero.2 rfl
    rw [z]
    simp -dsimp [- V.zfa]
    rw [add1 (show k<4611686018427387904 by omega)]
    refine hY (L.length-(k+1)) _ _ (by omega) ⟨rfl,k+1,by omega,rfl,?_⟩
    rw [take_succ ha,take_succ hb,ht]
   ·rw [if_neg hab] at hq
    have z: ¬ cmpB a b=0:=fun e=>hab (cmpB_zero.1 e)
    simp -dsimp [z]
    exact zbe hq
 ·rw [decide_eq_false_iff_not] at hc
  have:k=L.length:=by omega
  subst this
  rw [hqk,List.drop_length] at hq
  simp -dsimp only [zeo.k1,lx,ly,V.zd4,B.zd]
  refine B.zn (fun hd=> ?_) (fun hd=> ?_)
  ·rw [decide_eq_true_eq] at hd
   obtain ⟨b,hb⟩:=zfz (L:=M) (k:=L.length) (by omega)
   have hdm:M.drop L.length=b::M.drop (L.length+1):=by
    obtain ⟨h1,h2⟩:=List.getElem?_eq_some_iff.1 hb
    rw [List.drop_eq_getElem_cons h1,h2]
   rw [hdm] at hq
   exact zbe hq
  ·rw [decide_eq_false_iff_not] at hd
   have:M.drop L.length=[]:=List.drop_eq_nil_of_le (by omega)
   rw [this] at hq
   exact zbe hq
end Go.Ab
namespace Go.Ab
variable {C:CSem} {N:zN}
def zfn.Spec (C:CSem) (N:zN):Prop:= ∀ (x y:AVal) (L M:List Key) (R S:List (List AVal)) (h:za) (Q:zQ),SlX h 1 x (L.map tc) R->SlX h 1 y (M.map tc) S->L.length <= 100000000->M.length <= 100000000->Q (.int .i64 (cmpL L M)) h->C (N 565) [x,y] h Q
theorem zfn.spec (i:zfn.Imp C N) (s1:zbo.Spec C N):zfn.Spec C N:=by
 intro x y L M R S h Q hx hy hl hm hq
 apply i
 simp -dsimp only [zfn.cps]
 exact s1 x y L M R S h _ hx hy hl hm (zbe hq)
theorem subs {α:Type} {p:α->Prop}: ∀ {P:List α},(∀ a∈P,p a)-> ∃ G:List { a // p a },G.map (·.1)=P
 | [],_=>⟨[],rfl⟩
 | a::P,h=>by
  obtain ⟨G,e⟩:=subs (P:=P) fun b hb=>h b (List.mem_cons_of_mem _ hb)
  exact ⟨⟨a,h a (by simp)⟩::G,by simp [e]⟩
abbrev zij (p:AVal×List Key):Ob:= .sl 1 p.1 (p.2.map tc) []
abbrev zlb (x:AVal) (P:List (AVal×List Key)):List Ob:=P.map zij++[.sl 1 x (P.map fun p=>[p.1]) []]
def zbu.Spec (C:CSem) (N:zN):Prop:= ∀ (h0 h:za) (x:AVal) (P:List (AVal×List Key)) (Q:zQ),Owns h0 h (zlb x P)->P.length <= 100000000->(∀ p∈P,p.2.length <= 100000000) ->
 (∀ h' P',P'.Perm P->P'.Pairwise (fun s t=> ¬ cmpL t.2 s.2<0)->Owns h0 h' (zlb x P')->Q (.tup []) h')->C (N 566) [x,.fn (N 565) [] []] h Q
theorem zbu.spec (i:zbu.Imp C N) (j1:zca.Imp C N) (j2:zcz.Imp C N) (j3:zdb.Imp C N) (j4:zby.Imp C N)
  (j5:zcn.Imp C N) (j6:zcs.Imp C N) (j7:zck.Imp C N) (j8:zc5.Imp C N) (j9:zci.Imp C N) (k1:zdg.Imp C N)
  (k2:zdi.Imp C N) (k3:zcc.Imp C N) (k4:zc3.Imp C N) (k5:NextI C (N 298)) (k6:PowI C (N 299)) (hl:LenI C (N 287)) (s1:zfn.Spec C N):zbu.Spec C N:=by
 intro h0 h x P Q ho hlen hlens hq
 have oo:=ho.out
 generalize h.zmb [Ob.sl 1 x (P.map fun p=>[p.1]) []]=hb at *
 have hat: ∀ p∈P,SlX hb 1 p.1 (p.2.map tc) [] /\ p.2.length <= 100000000:=fun p hp=>⟨oo.1.is (zij p) (List.mem_map.2 ⟨p,hp,rfl⟩),hlens p hp⟩
 obtain ⟨G,hG⟩:=subs hat
 have hGl:G.length=P.length:=by have:=congrArg List.length hG;rwa [List.length_map] at this
 have hGc:G.map (fun p:{ p:AVal×List Key // SlX hb 1 p.1 (p.2.map tc) [] /\ p.2.length <= 100000000 }=>[p.1.1])=P.map fun p=>[p.1]:=by
  have:=congrArg (List.map fun p:AVal×List Key=>[p.1]) hG
  rw [List.map_map] at this;exact this
 have orw:Rw (opsS 24 .nils 0) (fun p:{ p:AVal×List Key // SlX hb 1 p.1 (p.2.map tc) [] /\ p.2.length <= 100000000 }=>[p.1.1]) hb h x G []:=by
  unfold Rw;rw [hGc];exact oo.2
 have hc:zd0 C (fun p:{ p:AVal×List Key // SlX hb 1 p.1 (p.2.map tc) [] /\ p.2.length <= 100000000 }=>p.1.1) (fun a b:{ p:AVal×List Key // SlX hb 1 p.1 (p.2.map tc) [] /\ p.2.length <= 100000000 }=>cmpL a.1.2 b.1.2) (.fn (N 565) [] []) hb:=⟨fun h' a b K hle hk=>s1 _ _ _ _ _ _ _ _ (a.2.1.mono hle) (b.2.1.mono hle) a.2.2 b.2.2 hk⟩
 have J:PdqI C (opsS 24 .nils 0) (N 581) (N 582) (N 579) (N 583) (N 584) (N 585) (N 586) (N 587) (N 588) (N 592) (N 589) (N 590) (N 591) (N 298) (N 299):=⟨j1,j2,j3,j4,j5,j6,j7,j8,j9,k1,k2,k3,k4,k5,k6⟩
 have S:zdc (opsS 24 .nils 0) (fun p:{ p:AVal×List Key // SlX hb 1 p.1 (p.2.map tc) [] /\ p.2.length <= 100000000 }=>[p.1.1]) (fun p=>p.1.1):=seqS (by omega) fun p=>p.2.1.zc8
 have W:Weak (ze4 fun a b:{ p:AVal×List Key // SlX hb 1 p.1 (p.2.map tc) [] /\ p.2.length <= 100000000 }=>cmpL a.1.2 b.1.2):=⟨fun {a b} h=>weakL.asym (a:=a.1.2) (b:=b.1.2) h,fun {a b c} h k=>weakL.zor (a:=a.1.2) (b:=b.1.2) (c:=c.1.2) h k⟩
 refine i _ _ _ _ (SortFunc_spec J hl S W hc (by rw [hGl];exact hlen) orw fun h' G' hp hs o'=>zbe ?_)
 have hP':(G'.map (·.1)).Perm P:=by have:=hp.map (·.1);rwa [hG] at this
 refine hq h' (G'.map (·.1)) hP' ?_ ?_
 ·rw [List.pairwise_map];exact hs
 ·have e:G'.map (fun p:{ p:AVal×List Key // SlX hb 1 p.1 (p.2.map tc) [] /\ p.2.length <= 100000000 }=>[p.1.1])=(G'.map (·.1)).map fun p=>[p.1]:=by rw [List.map_map];rfl
  unfold Rw at o'
  rw [e] at o'
  exact (oo.1.join o').perm (List.Perm.append_right _ (hP'.symm.map _))
end Go.Ab
namespace Go.Ab
variable {C:CSem} {N:zN}
structure GsOk (g:Key->Option Key) (D:List Key) (gs:Ents Key (AVal×List Key)) (d:Nat):Prop where
 zmw:zkn gs d
 nodup:(zf0 gs).Nodup
 mem: ∀ r q,getP gs r=some q->q.2≠[] /\ q.2.Nodup /\ ∀ c,c∈q.2↔c∈D /\ ∃ n,zih g n c r
 none: ∀ r,getP gs r=none-> ∀ c∈D,¬ ∃ n,zih g n c r
theorem GsOk.add {g:Key->Option Key} {D:List Key} {gs:Ents Key (AVal×List Key)} {d n:Nat} {r c:Key} {x:AVal} (k:GsOk g D gs d) (hc:c∉D) (hr:zih g n c r):GsOk g (D++[c]) (putP gs r (x,addP gs r c) d) (clkP gs r d):=by
 refine ⟨k.zmw.put r _,zsz k.nodup r _ d,fun s q h=> ?_,fun s h b hb=> ?_⟩
 ·rw [znr] at h
  by_cases hs:s=r
  ·subst hs
   rw [if_pos rfl] at h
   cases h
   unfold addP
   cases hg:getP gs s with
   | none=>
    have h0:=k.none s hg
    refine ⟨by simp,by simp,fun b=> ?_⟩
    simp only [List.mem_singleton,List.mem_append]
    constructor
    ·rintro rfl
     exact ⟨.inr rfl,n,hr⟩
    ·rintro ⟨h1|h1,h2⟩
     ·exact absurd h2 (h0 b h1)
     ·exact h1
   | some q=>
    obtain ⟨h1,h2,h3⟩:=k.mem s q hg
    have hcq:c∉q.2:=fun e=>hc ((h3 c).1 e).1
    refine ⟨by simp,?_,fun b=> ?_⟩
    ·show (q.2++[c]).Nodup
     rw [List.nodup_append]
     exact ⟨h2,by simp,fun a ha b hb e=>hcq (by rw [List.mem_singleton] at hb;rw [<- hb, <- e];exact ha)⟩
    ·show b∈q.2++[c]↔_
     rw [List.mem_append,List.mem_singleton,List.mem_append,List.mem_singleton,h3]
     constructor
     ·rintro (⟨h4,h5⟩|rfl)
      ·exact ⟨.inl h4,h5⟩
      ·exact ⟨.inr rfl,n,hr⟩
     ·rintro ⟨h4|h4,h5⟩
      ·exact .inl ⟨h4,h5⟩
      ·exact .inr h4
  ·rw [if_neg hs] at h
   obtain ⟨h1,h2,h3⟩:=k.mem s q h
   refine ⟨h1,h2,fun b=> ?_⟩
   rw [h3,List.mem_append,List.mem_singleton]
   constructor
   ·rintro ⟨h4,h5⟩
    exact ⟨.inl h4,h5⟩
   ·rintro ⟨h4|rfl,h5⟩
    ·exact ⟨h4,h5⟩
    ·obtain ⟨m,h5⟩:=h5
     exact absurd (h5.det hr).2 hs
 ·rw [znr] at h
  by_cases hs:s=r
  ·subst hs;rw [if_pos rfl] at h;cases h
  ·rw [if_neg hs] at h
   rcases List.mem_append.1 hb with hb|hb
   ·exact k.none s h b hb
   ·rw [List.mem_singleton.1 hb]
    rintro ⟨m,h5⟩
    exact hs (h5.det hr).2
theorem key_inj {K T:Type}: ∀ {ps:Ents K T},(zf0 ps).Nodup-> ∀ {p q:K×T×Nat},p∈ps->q∈ps->p.1=q.1->p=q
 | [],_,_,_,h,_,_=>by cases h
 | a::r,hn,p,q,hp,hq,e=>by
  rw [zl5] at hn
  obtain ⟨h1,h2⟩:=List.nodup_cons.1 hn
  rcases List.mem_cons.1 hp with h3|h3
  ·rcases List.mem_cons.1 hq with h4|h4
   ·rw [h3,h4]
   ·exact absurd (by rw [<- h3,e];exact List.mem_map.2 ⟨q,h4,rfl⟩) h1
  ·rcases List.mem_cons.1 hq with h4|h4
   ·exact absurd (by rw [<- h4, <- e];exact List.mem_map.2 ⟨p,h3,rfl⟩) h1
   ·exact key_inj h2 h3 h4 e
theorem Of_first {h1 h2:za} {pid m w c:Nat} {ps:Ents Key Key} {ks:Key->Prop} {E:Key->Key->Prop} {Q:zQ} (s1:zct.Spec C N) (ua:UpAt h1 (.ptr pid 0 0) m ps c) (hu:UpIs ps c ks E) (hps:ps.length <= 1000000) (ho:Owns h1 h2 [.blk w (zgy (encM sV gV []) 0)])
  (hq: ∀ gs d h3,Owns h1 h3 (.blk w (zgy (encM sV gV gs) d)::gOb gs)->GsOk (getP ps) (zf0 ps) gs d->B.rangeMap h3 (.mp w) fun v35 h=>zg (zd5.l2 C N Q v35) [.nils] h):
  B.rangeMap h2 (.mp m) fun v17 h=>zg (zd5.l4 C N Q (.fn (N 577) [] [.ptr pid 0 0]) (.mp w) v17) [] h:=by
 refine Owns.zql (κ:=sV) (v:=sV) (ps:=ps) (c:=c) (J:=fun D l vs=>vs=[] /\ ∃ gs d,l= .blk w (zgy (encM sV gV gs) d)::(gOb gs++[]) /\ GsOk (getP ps) (zf0 D) gs d)
  (REST:=fun it vs v h Y=>match vs with
   | []=>B.pv (V.ext 0 v) fun v19=>B.cond v19
    (B.pv (A.zif h it) fun v20=>B.pv (V.ext 0 v20) fun v21=>B.zhi h C (.fn (N 577) [] [.ptr pid 0 0]) [v21] fun v25 h=>B.zhi h C (.fn (N 577) [] [.ptr pid 0 0]) [v21] fun v29 h=>
     B.pv (A.lkp h (some .s) (some (.nils)) false (.mp w) v29) fun v30=>B.newO h (ze2 [(0,none,v21)] (repL 1 [.str []])) fun i32 h=>B.appW h 1 16 v30 (.sl i32 0 0 1 1 1) fun v33 h=>B.mset h .s (.mp w) v25 v33 fun h=>Y [] h)
    (B.rangeMap h (.mp w) fun v35 h=>zg (zd5.l2 C N Q v35) [.nils] h)
   | _=>False) (l:=[.blk w (zgy (encM sV gV []) 0)]) ho ua.map hu.zmw ⟨rfl,[],0,rfl,zkn.nil 0,.nil,fun r q h=>(by cases h),fun r _ c hc=>(by cases hc)⟩ ?_ ?_ ?_
 ·rintro it vs h3 Y3 D l ⟨rfl,_⟩ hn
  exact hn
 ·rintro it h3 D l b Y3 vs ⟨rfl,gs,d,rfl,hk⟩ hp o
  simp -dsimp only [V.zg8,List.getElem?_cons_zero,B.zd,B.cond_false]
  refine hq gs d h3 (o.sub ?_) ?_
  ·rw [List.append_nil];exact List.sublist_append_left _ _
  ·have hm: ∀ c,c∈zf0 D↔c∈zf0 ps:=fun c=>(hp.map (·.1)).mem_iff
   exact ⟨hk.zmw,hk.nodup,fun r q h=>by
    obtain ⟨h1,h2,h3⟩:=hk.mem r q h
    exact ⟨h1,h2,fun c=>by rw [h3,hm]⟩,fun r h c hc=>hk.none r h c ((hm c).2 hc)⟩
 ·rintro it h3 D l b Y3 vs p hpm ⟨rfl,gs,d,rfl,hk⟩ hsub hpD hDl o he hY3
  have hpk:ks p.1:=(hu.uf.dom p.1).1 ⟨p.2.1,mem_getP hu.nodup hpm⟩
  obtain ⟨t,r,hr⟩:=hu.uf.root p.1 hpk
  have uh:=ua.mono o.le
  simp -dsimp only [V.zg8,List.getElem?_cons_zero,List.getElem?_cons_succ,B.zd,B.cond_true,he]
  rw [B.zlp]
  refine s1 h3 _ m ps c t p.1 r _ uh hr ?_
  rw [B.zlp]
  refine s1 h3 _ m ps c t p.1 r _ uh hr ?_
  have hcD:p.1∉zf0 D:=fun hm=>by
   obtain ⟨q,hq,e⟩:=List.mem_map.1 hm
   have:=key_inj hu.nodup (hsub q hq) hpm e
   subst this
   exact hpD hq
  refine group_add (l:=[.blk it b]) (by rw [List.append_nil] at o;exact o) (fun q hq=> ?_) fun x' h4 o4=> ?_
  ·obtain ⟨_,h2,h3⟩:=hk.mem r q hq
   have:=h2.length_le_of_subset (l₂:=zf0 D) fun c hc=>((h3 c).1 hc).1
   have e:(zf0 D).length=D.length:=by simp [zf0]
   omega
  ·refine hY3 h4 _ _ ⟨rfl,_,_,rfl,?_⟩ (by rw [List.append_nil];exact o4)
   unfold zf0
   rw [List.map_append]
   exact hk.add hcD hr
end Go.Ab
namespace Go.Ab
variable {C:CSem} {N:zN}
theorem GsOk.group {I:List Itm} {g:Key->Option Key} {D:List Key} {gs:Ents Key (AVal×List Key)} {d:Nat} (u:UF g (fun c=>c∈zco I) (zol I)) (hD: ∀ c,c∈D↔c∈zco I) (k:GsOk g D gs d) {p:Key×(AVal×List Key)×Nat} (hp:p∈gs):
  p.1∈zco I /\ (∀ y,y∈p.2.1.2↔y∈zdm I p.1) /\ p.2.1.2.Nodup /\ zih g 0 p.1 p.1:=by
 obtain ⟨h1,h2,h3⟩:=k.mem p.1 p.2.1 (mem_getP k.nodup hp)
 obtain ⟨c,hc⟩:=List.exists_mem_of_ne_nil _ h1
 obtain ⟨_,n,hr⟩:=(h3 c).1 hc
 have r0:zih g 0 p.1 p.1:=⟨hr.top,rfl⟩
 have hk:=r0.isKey u
 refine ⟨hk,fun y=> ?_,h2,r0⟩
 rw [h3,(zep hk).2,hD]
 constructor
 ·rintro ⟨h4,m,h5⟩
  exact (u.same.1 (⟨p.1,0,m,r0,h5⟩:zqd g p.1 y)).2.2
 ·intro h4
  have hy:=h4.znc hk
  obtain ⟨q,i,j,h5,h6⟩:=u.same.2 ⟨hk,hy,h4⟩
  obtain ⟨_,rfl⟩:=h5.det r0
  exact ⟨hy,j,h6⟩
def srtO (I:List Itm) (gs D:Ents Key (AVal×List Key)):List Ob:=gs.map fun p=>zij (p.2.1.1,if p.1∈zf0 D then zdm I p.1 else p.2.1.2)
theorem permEnd {α:Type} {X A B:List α} {a z:α}:(X++(A++a::B)++[z]).Perm ((X++(A++B)++[z])++[a]):=by
 have h:(A++a::B).Perm ((A++B)++[a]):=by
  refine List.perm_middle.trans ?_
  exact (List.perm_append_comm (l₁:=[a]))
 refine (List.Perm.append_right [z] (List.Perm.append_left X h)).trans ?_
 simp only [List.append_assoc]
 refine List.Perm.append_left X (List.Perm.append_left A (List.Perm.append_left B ?_))
 exact List.Perm.swap ..
theorem sorted_rise {L:List Key} (h:SortedB L) (hn:L.Nodup):ziq L:=by
 have hp:L.Pairwise fun s t=>zgz t s=false /\ s≠t:=List.pairwise_and_iff.2 ⟨h,hn⟩
 exact hp.imp fun {a b} ⟨h1,h2⟩=>zll h1 (Ne.symm h2)
theorem setMid {α:Type} {X R:List α} {a b:α}:(X++[a]++R).set X.length b=X++[b]++R:=by
 rw [List.append_assoc,List.set_append_right _ _ (Nat.le_refl _),Nat.sub_self,List.append_assoc];rfl
theorem permT {α:Type} {X SA SB:List α} {O it ob cl:α}:(X++[O]++((SA++SB)++[it]++[ob]++[cl])).Perm ((X++[cl])++[O]++(SA++ob::SB)++[it]):=by
 classical
 exact List.perm_iff_count.2 fun a=>by
  simp only [List.count_append,List.count_cons,List.count_nil]
  omega
def zd5.Spec (C:CSem) (N:zN):Prop:= ∀ (x:AVal) (I:List Itm) (h:za) (Q:zQ),Dl ze8 h x I->I.length <= 1000000 ->
 (∀ x' P h',P.map (·.2)=ofT I->Owns h h' (zlb x' P)->Q x' h')->C (N 554) [x] h Q
theorem zd5.spec (i:zd5.Imp C N) (s0:zt.Spec C N) (s1:zct.Spec C N) (s2:zbw.Spec C N) (s3:zbi.Spec C N) (s4:zbu.Spec C N):zd5.Spec C N:=by
 intro x I h Q hx hI hq
 apply i
 simp -dsimp only [zd5.cps,zd5.k5]
 refine s0 x I h _ hx (by omega) fun m p ps c h1 o1 hu=> ?_
 obtain ⟨pid,e,bp⟩:=o1.zqc 1 rfl
 subst e
 have ua:UpAt h1 (.ptr pid 0 0) m ps c:=⟨by rw [zl3 bp];rfl,o1.at 0 rfl⟩
 simp -dsimp only [V.zg8,List.getElem?_cons_zero,List.getElem?_cons_succ,B.zd]
 refine (Owns.start h1).zos sV gV fun w h2 hw o2 _=> ?_
 have hkeys: ∀ k,k∈zf0 ps↔k∈zco I:=fun k=>by
  rw [<- hu.uf.dom k]
  cases e:getP ps k with
  | none=>exact ⟨fun hk=>absurd hk (zp5.1 e),fun ⟨d,hd⟩=>by cases hd⟩
  | some v=>exact ⟨fun _=>⟨v,rfl⟩,fun _=>Classical.byContradiction fun hn=>by rw [zp5.2 hn] at e;cases e⟩
 have hps:ps.length <= 1000000:=by
  have e1:ps.length=(zf0 ps).length:=by simp [zf0]
  have e2:=hu.nodup.length_le_of_subset (l₂:=zco I) fun k hk=>(hkeys k).1 hk
  have:=znw I
  omega
 refine Of_first s1 ua hu hps o2 fun gs d h3 o3 hk=> ?_
 have grp:=fun {p} (hp:p∈gs)=>hk.group hu.uf hkeys hp
 have hgs:gs.length <= 1000000:=by
  have e1:gs.length=(zf0 gs).length:=by simp [zf0]
  have e2:=hk.nodup.length_le_of_subset (l₂:=zco I) fun k hkk=>by
   obtain ⟨p,hp,rfl⟩:=List.mem_map.1 hkk
   exact (grp hp).1
  have:=znw I
  omega
 have glen: ∀ {c},c∈zco I->(zdm I c).length <= 1000000:=fun {c} hc=>by
  have:=(zfj (zep hc).1).length_le_of_subset (l₂:=zco I) fun y hy=>(((zep hc).2 y).1 hy).znc hc
  have:=znw I
  omega
 obtain ⟨hb,b1,b2,o4,a4⟩:=(o3.perm (List.perm_append_comm (l₁:=[_]))).lay
 have hbw:hb w=some (zgy (encM sV gV gs) d):=a4 (.blk w (zgy (encM sV gV gs) d)) (by simp)
 have o5:Owns hb h3 (zlb .nils []++srtO I gs []):=by
  have e:srtO I gs []=gOb gs:=by
   unfold srtO gOb
   refine List.map_congr_left fun p _=> ?_
   simp [zf0]
  rw [e]
  exact (o4.nils 1).perm List.perm_append_comm
 refine Owns.zql (κ:=sV) (v:=gV) (ps:=gs) (c:=d) (J:=fun D l vs=> ∃ out P,vs=[out] /\ P.map (·.2)=D.map (fun p=>zdm I p.1) /\ l=zlb out P++srtO I gs D)
  (REST:=fun it vs v h Y=>match vs with
   | [v7]=>B.pv (V.ext 0 v) fun v37=>B.cond v37
    (B.pv (A.zif h it) fun v38=>B.pv (V.ext 1 v38) fun v39=>B.call C (N 364) [v39] h fun v41 h=>B.call C (N 567) [v39] h fun v44 h=>
     B.newO h (ze2 [(0,none,v44)] (repL 1 [.nils])) fun i45 h=>B.appW h 1 24 v7 (.sl i45 0 0 1 1 1) fun v46 h=>Y [v46] h)
    (B.call C (N 566) [v7,(.fn (N 565) [] [])] h fun v48 h=>dn Q v7 h)
   | _=>False) o5 hbw hk.zmw ⟨.nils,[],rfl,rfl,rfl⟩ ?_ ?_ ?_
 ·rintro it vs h4 Y3 D l ⟨out,P,rfl,_⟩ hn
  exact hn
 ·rintro it h4 D l b Y3 vs ⟨out,P,rfl,eP,rfl⟩ hp o
  simp -dsimp only [V.zg8,List.getElem?_cons_zero,B.zd,B.cond_false]
  have hPl:P.length=gs.length:=by
   have:=congrArg List.length eP
   rw [List.length_map,List.length_map] at this
   rw [this,hp.length_eq]
  have hDm: ∀ g,g∈D.map (fun p=>zdm I p.1)↔ ∃ c∈zco I,g=zdm I c:=fun g=>by
   rw [List.mem_map]
   constructor
   ·rintro ⟨p,h1,rfl⟩
    exact ⟨p.1,(grp (hp.mem_iff.1 h1)).1,rfl⟩
   ·rintro ⟨c,hc,rfl⟩
    obtain ⟨n,r,hr⟩:=hu.uf.root c hc
    cases e:getP gs r with
    | none=>exact absurd ⟨n,hr⟩ (hk.none r e c ((hkeys c).2 hc))
    | some q=>
     obtain ⟨j,hj⟩:=getP_mem e
     refine ⟨(r,q,j),hp.mem_iff.2 hj,?_⟩
     have hrc:r∈zdm I c:=((zep hc).2 r).2 (hr.eqv hu.uf)
     exact zl8 hc hrc
  refine s4 hb h4 out P _ (o.sub (by rw [List.append_assoc];exact List.sublist_append_left _ _)) (by omega) (fun p hp'=> ?_) fun h5 P' pp srt o6=> ?_
  ·have:p.2∈D.map (fun p=>zdm I p.1):=by rw [<- eP];exact List.mem_map.2 ⟨p,hp',rfl⟩
   obtain ⟨c,hc,e⟩:=(hDm _).1 this
   rw [e]
   have:=glen hc
   omega
  ·have hnd:(D.map fun p=>zdm I p.1).Nodup:=by
    have hD:D.Pairwise fun p q=>p.1≠q.1:=by
     have:(zf0 D).Nodup:=(hp.map (fun p:Key×(AVal×List Key)×Nat=>p.1)).nodup_iff.2 hk.nodup
     exact List.pairwise_map.1 this
    refine List.pairwise_map.2 (hD.imp_of_mem fun {p q} h1 h2 hne e=>hne ?_)
    have g1:=grp (hp.mem_iff.1 h1)
    have g2:=grp (hp.mem_iff.1 h2)
    have hm:q.1∈zdm I p.1:=by rw [e];exact zk5 g2.1
    obtain ⟨r,i,j,h5,h6⟩:=hu.uf.same.2 ⟨g1.1,g2.1,((zep g1.1).2 _).1 hm⟩
    rw [<- (h5.det g1.2.2.2).2, <- (h6.det g2.2.2.2).2]
   have e:P'.map (·.2)=ofT I:=by
    have pm:(P'.map (·.2)).Perm (D.map fun p=>zdm I p.1):=by rw [<- eP];exact pp.map _
    refine ofT_unique (fun g=>by rw [pm.mem_iff,hDm]) (pm.nodup_iff.2 hnd) ?_
    rw [List.pairwise_map]
    exact srt
   exact zbe (hq out P' h5 e ((o6.back b1).back o1.le))
 ·rintro it h4 D l b Y3 vs p hpm ⟨out,P,rfl,eP,rfl⟩ hsub hpD hDl o he hY3
  obtain ⟨pk,hmem,hnd,hr0⟩:=grp hpm
  have hkD:p.1∉zf0 D:=fun hm=>by
   obtain ⟨q,hq',e⟩:=List.mem_map.1 hm
   have:=key_inj hk.nodup (hsub q hq') hpm e
   subst this
   exact hpD hq'
  have hPl:P.length=D.length:=by
   have:=congrArg List.length eP
   rwa [List.length_map,List.length_map] at this
  obtain ⟨GA,GB,hAB⟩:=List.append_of_mem hpm
  have hkn:p.1∉zf0 GA /\ p.1∉zf0 GB:=by
   have:=hk.nodup
   rw [hAB] at this
   unfold zf0 at this ⊢
   rw [List.map_append,List.map_cons,List.nodup_append] at this
   obtain ⟨_,h5,h6⟩:=this
   exact ⟨fun hm=>h6 _ hm _ (List.mem_cons_self ..) rfl,(List.nodup_cons.1 h5).1⟩
  have hsame: ∀ (X:Ents Key (AVal×List Key)),p.1∉zf0 X->(X.map fun q=>zij (q.2.1.1,if q.1∈zf0 (D++[p]) then zdm I q.1 else q.2.1.2))=X.map fun q=>zij (q.2.1.1,if q.1∈zf0 D then zdm I q.1 else q.2.1.2):=fun X hX=>by
   refine List.map_congr_left fun q hq'=> ?_
   have hne:q.1≠p.1:=fun e=>hX (by rw [<- e];exact List.mem_map.2 ⟨q,hq',rfl⟩)
   have:q.1∈zf0 (D++[p])↔q.1∈zf0 D:=by
    unfold zf0
    rw [List.map_append,List.mem_append]
    simp [hne]
   by_cases hq2:q.1∈zf0 D
   ·rw [if_pos hq2,if_pos (this.2 hq2)]
   ·rw [if_neg hq2,if_neg fun e=>hq2 (this.1 e)]
  have eD:srtO I gs D=(GA.map fun q=>zij (q.2.1.1,if q.1∈zf0 D then zdm I q.1 else q.2.1.2))++zij (p.2.1.1,p.2.1.2)::(GB.map fun q=>zij (q.2.1.1,if q.1∈zf0 D then zdm I q.1 else q.2.1.2)):=by
   unfold srtO
   rw [hAB,List.map_append,List.map_cons,if_neg hkD]
  have eD':srtO I gs (D++[p])=(GA.map fun q=>zij (q.2.1.1,if q.1∈zf0 D then zdm I q.1 else q.2.1.2))++zij (p.2.1.1,zdm I p.1)::(GB.map fun q=>zij (q.2.1.1,if q.1∈zf0 D then zdm I q.1 else q.2.1.2)):=by
   unfold srtO
   have:p.1∈zf0 (D++[p]):=by unfold zf0;simp
   rw [hAB,List.map_append,List.map_cons,if_pos this,hsame GA hkn.1,hsame GB hkn.2]
  rw [eD] at o
  rw [eD'] at hY3
  generalize (GA.map fun q=>zij (q.2.1.1,if q.1∈zf0 D then zdm I q.1 else q.2.1.2))=SA at *
  generalize (GB.map fun q=>zij (q.2.1.1,if q.1∈zf0 D then zdm I q.1 else q.2.1.2))=SB at *
  simp -dsimp only [V.zg8,List.getElem?_cons_zero,List.getElem?_cons_succ,B.zd,B.cond_true,he]
  obtain ⟨q1,q2⟩:=(o.perm permEnd).out
  have hpl:p.2.1.2.length <= 1000000:=by
   have:=hnd.length_le_of_subset (l₂:=zdm I p.1) fun y hy=>(hmem y).1 hy
   have:=glen pk
   omega
  refine s2 _ h4 p.2.1.1 p.2.1.2 [] _ q2 (by omega) fun h5 L' lp ls o5=> ?_
  have eL:L'=zdm I p.1:=zm7 (sorted_rise ls (lp.nodup_iff.2 hnd)) (zep pk).1 fun y=>by rw [lp.mem_iff,hmem]
  subst eL
  refine s3 p.2.1.1 _ [] h5 _ (o5.slAt 0 rfl) (by have:=glen pk;omega) fun z h6 o6=> ?_
  have cz:z.zc8=true:=(o6.slAt 0 rfl).zc8
  have hf:ze2 [(0,none,z)] (repL 1 [.nils])=some [z]:=by simp -dsimp [cz,repL]
  rw [hf]
  have o7:=(q1.join o5).join o6
  have hidx:((((((P.map zij++[Ob.sl 1 out (P.map fun p=>[p.1]) []])++(SA++SB))++[Ob.blk it b])++[Ob.sl 1 p.2.1.1 ((zdm I p.1).map tc) []])++[Ob.sl 1 z ((zdm I p.1).map tc) []]):List Ob)[P.length]? =some (.sl 1 out (P.map fun p=>[p.1]) []):=by
   simp
  refine o7.push P.length hidx (cs:=[z]) rfl (by omega) (by simp;omega) (by simp [maxLen];omega) fun out' h8 o8 _=> ?_
  refine hY3 h8 _ _ ⟨out',P++[(z,zdm I p.1)],rfl,by rw [List.map_append,eP,List.map_append];rfl,rfl⟩ (o8.perm ?_)
  have e1:((((((P.map zij++[Ob.sl 1 out (P.map fun p=>[p.1]) []])++(SA++SB))++[Ob.blk it b])++[Ob.sl 1 p.2.1.1 ((zdm I p.1).map tc) []])++[Ob.sl 1 z ((zdm I p.1).map tc) []]):List Ob)=(P.map zij)++[Ob.sl 1 out (P.map fun p=>[p.1]) []]++((SA++SB)++[Ob.blk it b]++[Ob.sl 1 p.2.1.1 ((zdm I p.1).map tc) []]++[Ob.sl 1 z ((zdm I p.1).map tc) []]):=by
   simp only [List.append_assoc]
  have e2:P.length=(P.map zij).length:=by simp
  show List.Perm (List.set ((((((P.map zij++[Ob.sl 1 out (P.map fun p=>[p.1]) []])++(SA++SB))++[Ob.blk it b])++[Ob.sl 1 p.2.1.1 ((zdm I p.1).map tc) []])++[Ob.sl 1 z ((zdm I p.1).map tc) []]):List Ob) P.length _) _
  rw [e1,e2,setMid]
  unfold zlb
  rw [List.map_append,List.map_append]
  exact permT
end Go.Ab
namespace Go.Ab
variable {C:CSem} {N:zN}
def zb3.Spec (C:CSem) (N:zN):Prop:= ∀ (x:AVal) (L:List Itm) (h:za) (Q:zQ),Dl zto h x L->L.length<4611686018427387904->(∀ t∈L,t.inLen) ->
 (∀ n:Nat,n<1000000000000000000->(n <= 2000-> ∀ t∈L,t.ze5.length+t.zen.length <= n)->Q (.int .i64 n) h)->C (N 564) [x] h Q
theorem zb3.spec (i:zb3.Imp C N):zb3.Spec C N:=by
 intro x L h Q hx hlen hin hq
 apply i
 refine zg.intro (fun t vs hh=>hh=h /\ ∃ k n:Nat,k+t=L.length /\ vs=[.int .i64 (n:Int),.int .i64 (k:Int)] /\ n<1000000000000000000 /\ (n <= 2000-> ∀ t∈L.take k,t.ze5.length+t.zen.length <= n)) L.length ?_ ⟨rfl,0,0,by omega,rfl,by omega,fun _ t h=>(by simp at h)⟩
 rintro Y t vs h ⟨rfl,k,n,ht,rfl,hn,hall⟩ hY
 have hend:(2000<n \/ k=L.length)->dn Q (.int .i64 (n:Int)) h:=fun hor=>by
  refine zbe (hq n hn fun hle=> ?_)
  have hk:k=L.length:=hor.resolve_left (by omega)
  subst hk
  rw [List.take_length] at hall
  exact hall hle
 simp -dsimp only [zb3.l7,zb3.k6,hx.zbj,lssN,B.zd]
 by_cases hk:k<L.length
 rotate_left
 ·have:=hend (.inr (by omega))
  simp -dsimp [hk]
  exact this
 by_cases h4:n <= 2000
 rotate_left
 ·have h4': ¬ (n:Int) <= 2000:=by omega
  have:=hend (.inl (by omega))
  simp -dsimp [hk,h4']
  exact this
 have h4':(n:Int) <= 2000:=by omega
 obtain ⟨r,hr⟩:=zfz hk
 have hrm:=List.mem_of_getElem? hr
 obtain ⟨n1,n2,n3,hpl,hol⟩:=hin r hrm
 obtain ⟨p,o,e1,e3,e4,e5,e6,e7,e8,⟨R1,a1⟩,el1,⟨R2,a2⟩,el2⟩:=itm_getW hx hr
 have hk1:=add1 (show k<4611686018427387904 by omega)
 have b1:V.bin .add (.int .i64 (n:Int)) (.int .i64 1)=some (.int .i64 ((n+1:Nat):Int)):=add1 (by omega)
 have b2:=zj6 (a:=n+1) (b:=r.Code.length / 20) (by omega)
 have b3:=zj6 (a:=n+1+r.Code.length / 20) (b:=r.ze5.length) (by omega)
 have b4:=zj6 (a:=n+1+r.Code.length / 20+r.ze5.length) (b:=r.zen.length) (by omega)
 have lc:V.zl2 (.str r.Code)=some (.int .i64 (r.Code.length:Int)):=rfl
 simp -dsimp [hk,h4', - zb3.k5]
 simp -dsimp only [zb3.k5,B.zg0,B.zd,e1,e3,e4,e5,e6,e7,e8,el1,el2,lc,quo20 n1,b1,b2,b3,b4]
 refine zg.intro (fun t vs h2=>h2=h /\ ∃ q m:Nat,q+t=r.ze5.length /\ vs=[.int .i64 (m:Int),.int .i64 (q:Int)] /\ m<1000000000000000000 /\ n+1+r.Code.length / 20+r.ze5.length+r.zen.length <= m) r.ze5.length ?_ ⟨rfl,0,_,by omega,rfl,by omega,Nat.le_refl _⟩
 rintro Z t2 vs h2 ⟨rfl,q,m,ht2,rfl,hm,hle⟩ hZ
 simp -dsimp only [zb3.l4,zb3.k3,e1,e4,B.zg0,e7,el1,lssN,B.zd]
 have hnext:zg (zb3.l2 C N (dn Q) Y x (.int .i64 (k:Int))) [.int .i64 (m:Int),.int .i64 0] h2:=by
  refine zg.intro (fun t vs h3=>h3=h2 /\ ∃ q m2:Nat,q+t=r.zen.length /\ vs=[.int .i64 (m2:Int),.int .i64 (q:Int)] /\ m2<1000000000000000000 /\ m <= m2) r.zen.length ?_ ⟨rfl,0,m,by omega,rfl,hm,Nat.le_refl _⟩
  rintro W t3 vs h3 ⟨rfl,q,m2,ht3,rfl,hm2,hle2⟩ hW
  simp -dsimp only [zb3.l2,zb3.k1,e1,e5,B.zg0,e8,el2,lssN,B.zd]
  have hout:Y [.int .i64 (m2:Int),.int .i64 ((k+1:Nat):Int)] h3:=hY (t-1) _ _ (by omega) ⟨rfl,k+1,m2,by omega,rfl,hm2,fun h4k y hy=>by
   rw [List.take_add_one,hr,List.mem_append] at hy
   rcases hy with hy|hy
   ·have:=hall h4 y hy;omega
   ·have:y=r:=by simpa using hy
    rw [this];omega⟩
  by_cases hq1:q<r.zen.length
  rotate_left
  ·simp -dsimp [hq1,hk1, - V.zfa]
   exact hout
  by_cases hq2:m2 <= 2000
  rotate_left
  ·have: ¬ (m2:Int) <= 2000:=by omega
   simp -dsimp [hq1,this,hk1, - V.zfa]
   exact hout
  have hq2':(m2:Int) <= 2000:=by omega
  have hg:(r.zen.map tc)[q]? =some (tc r.zen[q]):=by rw [List.getElem?_map,List.getElem?_eq_getElem hq1];rfl
  have hidx:V.idxS 1 o (.int .i64 (q:Int))=some (elp 1 o q 0):=a2.idxN (by simpa using hq1)
  have hcell:A.ldv h3 (elp 1 o q 0)=some (.str r.zen[q]):=a2.cell hg
  have n4:=n3 _ (List.getElem_mem hq1)
  have lo:V.zl2 (.str r.zen[q])=some (.int .i64 (r.zen[q].length:Int)):=rfl
  have b5:=zj6 (a:=m2) (b:=r.zen[q].length / 20) (by omega)
  simp -dsimp [hq1,hq2', - V.zfa, - V.zmr]
  simp -dsimp only [e1,e5,e8,hidx,hcell,lo,quo20 n4,b5,add1 (show q<4611686018427387904 by omega),B.zg0,B.zd]
  exact hW (t3-1) _ _ (by omega) ⟨rfl,q+1,_,by omega,rfl,by omega,by omega⟩
 by_cases hq1:q<r.ze5.length
 rotate_left
 ·simp -dsimp [hq1, - zb3.l2]
  exact hnext
 by_cases hq2:m <= 2000
 rotate_left
 ·have: ¬ (m:Int) <= 2000:=by omega
  simp -dsimp [hq1,this, - zb3.l2]
  exact hnext
 have hq2':(m:Int) <= 2000:=by omega
 have hg:(r.ze5.map Part.cs)[q]? =some r.ze5[q].cs:=by rw [List.getElem?_map,List.getElem?_eq_getElem hq1];rfl
 have hl:q<(r.ze5.map Part.cs).length:=by simpa using hq1
 have g1:V.idxS 2 p (.int .i64 (q:Int))=some (elp 2 p q 0):=a1.idxN hl
 have g2:V.fieldAddr 0 (elp 2 p q 0)=some (elp 2 p q 0):=a1.fieldA hl 0 0
 have g3:A.ldv h2 (elp 2 p q 0)=some (.str r.ze5[q].Item):=a1.ldv hg (by decide)
 have n4:=n2 _ (List.getElem_mem hq1)
 have lo:V.zl2 (.str r.ze5[q].Item)=some (.int .i64 (r.ze5[q].Item.length:Int)):=rfl
 have b5:=zj6 (a:=m) (b:=r.ze5[q].Item.length / 20) (by omega)
 simp -dsimp [hq1,hq2', - V.zfa, - V.zmr]
 simp -dsimp only [e1,e4,e7,g1,g2,g3,lo,quo20 n4,b5,add1 (show q<4611686018427387904 by omega),B.zg0,B.zd]
 exact hZ (t2-1) _ _ (by omega) ⟨rfl,q+1,_,by omega,rfl,by omega,by omega⟩
structure ItmB (L:List Itm):Prop where
 n:L.length <= 70
 ok: ∀ t∈L,t.ze5.length+t.zen.length <= 300
theorem ItmB.at {h:za} {x:AVal} {L:List Itm} (b:ItmB L) (hx:Dl zto h x L):Dl ze8 h x L:=itemW_K hx fun t ht=>by have:=b.ok t ht;unfold Itm.ok few;omega
def zdk.Spec (C:CSem) (N:zN):Prop:= ∀ (x y:AVal) (L:List Itm) (M:List Key) (R:List (List AVal)) (h:za) (Q:zQ),Dl zto h x L->L.length<4611686018427387904->(∀ t∈L,t.inLen) ->
 SlX h 1 y (M.map tc) R->M.length<4611686018427387904->(∀ c∈M,c.length<4611686018427387904)->(∀ b:Bool,(b=false->ItmB L /\ M.length <= 200)->Q (.bool b) h)->C (N 555) [x,y] h Q
theorem zdk.spec (i:zdk.Imp C N) (s1:zb3.Spec C N):zdk.Spec C N:=by
 intro x y L M R h Q hx hlen hin hy hM hc hq
 have ly:=hy.zbj
 rw [List.length_map] at ly
 have lx:=hx.zbj
 apply i
 refine zg.intro (fun t vs hh=>hh=h /\ ∃ k n:Nat,k+t=M.length /\ vs=[.int .i64 (n:Int),.int .i64 (k:Int)] /\ n<1000000000000000000 /\ k <= n) M.length ?_ ⟨rfl,0,0,by omega,rfl,by omega,by omega⟩
 rintro Y t vs h ⟨rfl,k,n,ht,rfl,hn,hkn⟩ hY
 have hend:(200<n \/ k=M.length)->zdk.k1 C N (dn Q) x (.int .i64 (n:Int)) h:=fun hor=>by
  simp -dsimp only [zdk.k1]
  refine s1 x L h _ hx hlen hin fun m hm hall=> ?_
  by_cases h3:300<m
  ·have h3':(300:Int)<m:=by omega
   simp -dsimp [h3']
   exact zbe (hq true fun e=>by cases e)
  ·have h3': ¬ (300:Int)<m:=by omega
   by_cases h7:70<L.length
   ·have h7':(70:Int)<L.length:=by omega
    simp -dsimp [h3',lx,h7',h7]
    exact zbe (hq true fun e=>by cases e)
   ·have h7': ¬ (70:Int)<L.length:=by omega
    by_cases h2:200<n
    ·have h2':(200:Int)<n:=by omega
     simp -dsimp [h3',lx,h7',h7,h2']
     exact zbe (hq true fun e=>by cases e)
    ·have h2': ¬ (200:Int)<n:=by omega
     have hk:=hor.resolve_left h2
     simp -dsimp [h3',lx,h7',h7,h2']
     exact zbe (hq false fun _=>⟨⟨by omega,fun t ht=>by have:=hall (by omega) t ht;omega⟩,by omega⟩)
 simp -dsimp only [zdk.l3,zdk.k2,ly,lssN,B.zd]
 by_cases hk:k<M.length
 rotate_left
 ·have:=hend (.inr (by omega))
  simp -dsimp [hk, - zdk.k1]
  exact this
 by_cases h4:n <= 200
 rotate_left
 ·have h4': ¬ (n:Int) <= 200:=by omega
  have:=hend (.inl (by omega))
  simp -dsimp [hk,h4', - zdk.k1]
  exact this
 have h4':(n:Int) <= 200:=by omega
 have hg:(M.map tc)[k]? =some (tc M[k]):=by rw [List.getElem?_map,List.getElem?_eq_getElem hk];rfl
 have hidx:V.idxS 1 y (.int .i64 (k:Int))=some (elp 1 y k 0):=hy.idxN (by simpa using hk)
 have hcell:A.ldv h (elp 1 y k 0)=some (.str M[k]):=hy.cell hg
 have n4:=hc _ (List.getElem_mem hk)
 have lo:V.zl2 (.str M[k])=some (.int .i64 (M[k].length:Int)):=rfl
 have b1:V.bin .add (.int .i64 (n:Int)) (.int .i64 1)=some (.int .i64 ((n+1:Nat):Int)):=add1 (by omega)
 have b5:=zj6 (a:=n+1) (b:=M[k].length / 20) (by omega)
 simp -dsimp [hk,h4', - V.zfa, - V.zmr]
 simp -dsimp only [b1,hidx,hcell,lo,quo20 n4,b5,add1 (show k<4611686018427387904 by omega),B.zg0,B.zd]
 exact hY (t-1) _ _ (by omega) ⟨rfl,k+1,_,by omega,rfl,by omega,by omega⟩
structure TxAt (h:za) (x:AVal) (G:List (List Key)):Prop where
 ls: ∃ (xs:List AVal) (R:List (List AVal)),xs.length=G.length /\ SlX h 1 x (xs.map fun v=>[v]) R /\ ∀ (j:Nat) (v:AVal) (l:List Key),xs[j]? =some v->G[j]? =some l-> ∃ R',SlX h 1 v (l.map tc) R'
theorem TxAt.mono {h h':za} {x:AVal} {G:List (List Key)} (a:TxAt h x G) (hle:h.le h'):TxAt h' x G:=by
 obtain ⟨xs,R,h1,h2,h3⟩:=a.ls
 exact ⟨xs,R,h1,h2.mono hle,fun j v l hv hl=>(h3 j v l hv hl).imp fun _ r=>r.mono hle⟩
theorem TxAt.zbj {h:za} {x:AVal} {G:List (List Key)} (a:TxAt h x G):V.zbj x=some (.int .i64 (G.length:Int)):=by
 obtain ⟨xs,R,h1,h2,_⟩:=a.ls
 have:=h2.zbj
 rw [List.length_map,h1] at this
 exact this
theorem TxAt.get {h:za} {x:AVal} {G:List (List Key)} (a:TxAt h x G) {j:Nat} {l:List Key} (hl:G[j]? =some l): ∃ v R',V.idxS 1 x (.int .i64 (j:Int))=some (elp 1 x j 0) /\ A.ldv h (elp 1 x j 0)=some v /\ SlX h 1 v (l.map tc) R':=by
 obtain ⟨xs,R,h1,h2,h3⟩:=a.ls
 have hj:j<xs.length:=by rw [h1];exact (List.getElem?_eq_some_iff.1 hl).1
 obtain ⟨v,hv⟩:=zfz hj
 obtain ⟨R',r⟩:=h3 j v l hv hl
 exact ⟨v,R',h2.idxN (by rw [List.length_map];exact hj),h2.cell (by rw [List.getElem?_map,hv];rfl),r⟩
theorem TxAt.of {T:Type} {h:za} {x:AVal} {P:List T} {f:T->AVal} {g:T->List Key} {r:T->List (List AVal)} {R:List (List AVal)} (h1:SlX h 1 x (P.map fun p=>[f p]) R) (h2: ∀ p∈P,SlX h 1 (f p) ((g p).map tc) (r p)):TxAt h x (P.map g):=by
 refine ⟨P.map f,R,by simp,by rw [List.map_map];exact h1,fun j v l hv hl=> ?_⟩
 rw [List.getElem?_map] at hv hl
 cases hp:P[j]? with
 | none=>rw [hp] at hv;cases hv
 | some p=>
  rw [hp] at hv hl
  cases hv;cases hl
  exact ⟨_,h2 p (List.mem_of_getElem? hp)⟩
def zd1.Spec (C:CSem) (N:zN):Prop:= ∀ (x y:AVal) (G H:List (List Key)) (h:za) (Q:zQ),TxAt h x G->TxAt h y H->G.length<4611686018427387904->(∀ l∈G,l.length<4611686018427387904)->Q (.bool (decide (G=H))) h->C (N 563) [x,y] h Q
theorem zd1.spec (i:zd1.Imp C N) (s1:zdw.Spec C N):zd1.Spec C N:=by
 intro x y G H h Q hx hy hG hl hq
 have lx:=hx.zbj
 have ly:=hy.zbj
 apply i
 by_cases hne:G.length=H.length
 rotate_left
 ·have e1: ¬ ((G.length:Int)=(H.length:Int)):=by omega
  have e2:decide (G=H)=false:=decide_eq_false fun e=>hne (by rw [e])
  rw [e2] at hq
  simp -dsimp [lx,ly,e1,hne]
  exact zbe hq
 have e1:((G.length:Int)=(H.length:Int)):=by omega
 simp -dsimp [lx,ly,e1,hne, - zd1.l2]
 refine zg.intro (fun n vs hh=>hh=h /\ ∃ k:Nat,k+n=G.length /\ vs=[.int .i64 (k:Int)] /\ G.take k=H.take k) G.length ?_ ⟨rfl,0,by simp,rfl,by simp⟩
 rintro Y n vs h ⟨rfl,k,hk,rfl,he⟩ hY
 simp -dsimp only [zd1.l2,zd1.k1,lx,lssN,B.zd]
 refine B.zn (fun hc=> ?_) (fun hc=> ?_)
 ·rw [decide_eq_true_eq] at hc
  obtain ⟨a,ha⟩:=zfz hc
  obtain ⟨b,hb⟩:=zfz (L:=H) (k:=k) (by omega)
  obtain ⟨v,Rv,f1,f2,f3⟩:=hx.get ha
  obtain ⟨w,Rw,g1,g2,g3⟩:=hy.get hb
  simp -dsimp only [f1,f2,g1,g2,B.zg0,B.zd]
  refine s1 v w a b Rv Rw h _ f3 g3 (hl a (List.mem_of_getElem? ha)) ?_
  by_cases hab:a=b
  ·subst hab
   simp -dsimp only [decide_true,V.zia,Bool.not_true,B.zd,B.cond_false,add1 (show k<4611686018427387904 by omega)]
   exact hY (n-1) _ _ (by omega) ⟨rfl,k+1,by omega,rfl,by rw [take_succ ha,take_succ hb,he]⟩
  ·have e2:decide (G=H)=false:=decide_eq_false fun e=>hab (by rw [e,hb] at ha;cases ha;rfl)
   rw [e2] at hq
   simp -dsimp only [decide_eq_false hab,V.zia,Bool.not_false,B.zd,B.cond_true]
   exact zbe hq
 ·rw [decide_eq_false_iff_not] at hc
  have hkk:k=G.length:=by omega
  subst hkk
  rw [List.take_length,hne,List.take_length] at he
  rw [decide_eq_true he] at hq
  exact zbe hq
end Go.Ab
set_option maxRecDepth 100000
namespace Go.Ab
variable {C:CSem} {N:zN}
def fiveP (o p:AVal):List (Itm×AVal×AVal):=[(⟨[65],1,[],[]⟩,.nils,.nils),(⟨[66],1,[],[[67]]⟩,.nils,o),(⟨[67],1,[],[]⟩,.nils,.nils),(⟨[68],1,[],[]⟩,.nils,.nils),(⟨[75],0,[⟨[65],2⟩],[]⟩,p,.nils)]
def fiveI:List Itm:=[⟨[65],1,[],[]⟩,⟨[66],1,[],[[67]]⟩,⟨[67],1,[],[]⟩,⟨[68],1,[],[]⟩,⟨[75],0,[⟨[65],2⟩],[]⟩]
theorem fiveP_at {h:za} {o p:AVal} (ho:SlX h 1 o [tc [67]] []) (hp:SlX h 2 p [Part.cs ⟨[65],2⟩] []): ∀ q∈fiveP o p,ze8.at_ h q.1 q.2:=by
 intro q hq
 have hz: ∀ t:Itm,t.ze5=[]->t.zen=[]->ze8.at_ h t (.nils,.nils):=fun t e1 e2=>
  ⟨⟨[],by rw [e1];exact SlX.nils h 2⟩,⟨[],by rw [e2];exact SlX.nils h 1⟩,by rw [e1];simp [few],by rw [e2];simp [few]⟩
 simp only [fiveP,List.mem_cons,List.not_mem_nil,or_false] at hq
 rcases hq with rfl|rfl|rfl|rfl|rfl
 ·exact hz _ rfl rfl
 ·exact ⟨⟨[],SlX.nils h 2⟩,⟨[],ho⟩,by simp [few],by simp [few]⟩
 ·exact hz _ rfl rfl
 ·exact hz _ rfl rfl
 ·exact ⟨⟨[],hp⟩,⟨[],SlX.nils h 1⟩,by simp [few],by simp [few]⟩
def zfc.Spec (C:CSem) (N:zN):Prop:= ∀ (h:za) (Q:zQ),
 (∀ i o p h1 h',h.le h1->Owns h1 h' [.sl 4 (.sl i 0 0 5 4 5) ((fiveP o p).map ze8.cs) []]->SlX h1 1 o [tc [67]] []->SlX h1 2 p [Part.cs ⟨[65],2⟩] []->Q (.sl i 0 0 5 4 5) h')->C (N 562) [] h Q
theorem zfc.spec (i:zfc.Imp C N):zfc.Spec C N:=by
 intro h Q hq
 apply i
 simp -dsimp [repL]
 refine litT (n:=1) [[67]] rfl rfl fun i1 h1 o1=> ?_
 simp -dsimp [repL]
 refine litO (n:=1) (es:=2) ([(⟨[65],2⟩:Part)].map Part.cs) rfl (by simp) rfl fun i2 h2 o2=> ?_
 simp -dsimp [repL]
 refine litO (n:=5) (es:=4) ((fiveP (.sl i1 0 0 1 1 1) (.sl i2 0 0 1 2 1)).map ze8.cs) rfl (fun p hp=>by obtain ⟨q,_,rfl⟩:=List.mem_map.1 hp;rfl) rfl fun i3 h3 o3=> ?_
 exact zbe (hq i3 _ _ h2 h3 (za.le_trans o1.le o2.le) o3 ((o1.slAt 0 rfl).mono o2.le) (o2.slAt 0 rfl))
theorem five_dl {h:za} {x o p:AVal} {R:List (List AVal)} (hx:SlX h 4 x ((fiveP o p).map ze8.cs) R) (ho:SlX h 1 o [tc [67]] []) (hp:SlX h 2 p [Part.cs ⟨[65],2⟩] []):Dl ze8 h x fiveI:=⟨fiveP o p,R,rfl,hx,fiveP_at ho hp⟩
theorem zfc.Spec.rd (s:zfc.Spec C N) (h:za) (Q:zQ) (hq: ∀ x h',h.le h'->Dl ze8 h' x fiveI->Q x h'):C (N 562) [] h Q:=s h Q fun i o p h1 h' l1 ow ho hp=>hq _ h' (za.le_trans l1 ow.le) (five_dl (ow.slAt 0 rfl) (ho.mono ow.le) (hp.mono ow.le))
def awkS:Sta:=⟨0,0,0,fiveI,[⟨3,[68],0,0,0,false⟩],[]⟩
theorem five_of:ofT fiveI=[[[65],[75]],[[66],[67]],[[68]]]:=by decide +kernel
theorem five_with:zfv fiveI [[75],[90]]=[[65],[75],[90]]:=by decide +kernel
theorem awk_c1:zig awkS 4 [67] 0 0=[[35,108,111,116],[66],[67]]:=by decide +kernel
theorem awk_c2:zig awkS 11 [] 0 3=[[42]]:=by decide +kernel
theorem awk_c3:zig awkS 12 [] 0 0=[[42]]:=by decide +kernel
theorem awk_part:(partT awkS [[68]]).Lots.length=1:=by decide +kernel
theorem rowsT_at {h0 h:za} {x:AVal} {P:List (AVal×List Key)} {l:List Ob} (o:Owns h0 h l) (hl: ∀ b∈zlb x P,b∈l):TxAt h x (P.map (·.2)):=by
 have h1:SlX h 1 x (P.map fun p=>[p.1]) []:=o.is (Ob.sl 1 x (List.map (fun p:AVal×List Key=>[p.1]) P) []) (hl _ (by simp))
 exact TxAt.of (f:=fun p:AVal×List Key=>p.1) (g:=fun p=>p.2) (r:=fun _=>[]) h1 fun p hp=>o.is (zij p) (hl _ (List.mem_append_left _ (List.mem_map_of_mem hp)))
def zez.Spec (C:CSem) (N:zN):Prop:= ∀ (h:za) (Q:zQ),Q (.bool true) h->C (N 556) [] h Q
theorem zez.spec (i:zez.Imp C N) (s1:zfc.Spec C N) (s2:zd5.Spec C N) (s3:zd1.Spec C N) (s4:zc9.Spec C N) (s5:zdw.Spec C N) (s6:zo.Spec C N) (s7:zcf.Spec C N):zez.Spec C N:=by
 intro h Q hq
 apply i
 simp -dsimp only [zez.cps,zez.k1]
 refine s1.rd _ _ fun x h1 l1 hx=> ?_
 have cx:=hx.zc8
 simp -dsimp [cx,repL]
 refine litO (n:=1) (es:=6) (awkS.Lots.map Lot.cs) rfl (by simp [awkS]) rfl fun i2 h2 o2=> ?_
 simp -dsimp [cx]
 have hS:StaAt h2 awkS x (.sl i2 0 0 1 6 1) .nils:=⟨hx.mono o2.le,⟨[],o2.slAt 0 rfl⟩,⟨[],SlX.nils h2 8⟩,by decide,by decide,by decide⟩
 refine s1.rd _ _ fun x2 h3 l3 hx2=> ?_
 refine s2 x2 fiveI h3 _ hx2 (by decide) fun v7 P h4 eP o4=> ?_
 rw [five_of] at eP
 have r4:=rowsT_at o4 fun b hb=>hb
 rw [eP] at r4
 simp -dsimp [repL]
 refine litT (n:=2) [[65],[75]] rfl rfl fun j1 h5 o5=> ?_
 simp -dsimp [repL]
 refine litT (n:=2) [[66],[67]] rfl rfl fun j2 h6 o6=> ?_
 simp -dsimp [repL]
 refine litT (n:=1) [[68]] rfl rfl fun j3 h7 o7=> ?_
 simp -dsimp [repL]
 refine litO (n:=3) (es:=1) [[.sl j1 0 0 2 1 2],[.sl j2 0 0 2 1 2],[.sl j3 0 0 1 1 1]] rfl (by simp) rfl fun j4 h8 o8=> ?_
 have t8:TxAt h8 (.sl j4 0 0 3 1 3) [[[65],[75]],[[66],[67]],[[68]]]:=⟨⟨[.sl j1 0 0 2 1 2,.sl j2 0 0 2 1 2,.sl j3 0 0 1 1 1],[],rfl,o8.slAt 0 rfl,fun j v l hv hl=>by
  match j,hv,hl with
  | 0,hv,hl=>cases hv;cases hl;exact ⟨[],(o5.slAt 0 rfl).mono (za.le_trans o6.le (za.le_trans o7.le o8.le))⟩
  | 1,hv,hl=>cases hv;cases hl;exact ⟨[],(o6.slAt 0 rfl).mono (za.le_trans o7.le o8.le)⟩
  | 2,hv,hl=>cases hv;cases hl;exact ⟨[],(o7.slAt 0 rfl).mono o8.le⟩
  | j+3,hv,_=>simp at hv⟩⟩
 have l48:=za.le_trans o5.le (za.le_trans o6.le (za.le_trans o7.le o8.le))
 refine s3 _ _ _ _ h8 _ (r4.mono l48) t8 (by decide) (fun l hl=>by
  simp only [List.mem_cons,List.not_mem_nil,or_false] at hl
  rcases hl with rfl|rfl|rfl<;>decide) ?_
 have l28:=za.le_trans l3 (za.le_trans o4.le l48)
 simp -dsimp only [decide_true,B.gd_t,B.zde,zjn]
 refine s1.rd _ _ fun x3 h9 l9 hx3=> ?_
 simp -dsimp [repL]
 refine litT (n:=2) [[75],[90]] rfl rfl fun j5 h10 o10=> ?_
 simp -dsimp
 refine s4 _ _ fiveI [[75],[90]] [] h10 _ (hx3.mono o10.le) (by decide) (o10.slAt 0 rfl) (by decide) fun w h11 o11=> ?_
 rw [five_with] at o11
 simp -dsimp [repL]
 refine litT (n:=3) [[65],[75],[90]] rfl rfl fun j6 h12 o12=> ?_
 simp -dsimp
 refine s5 _ _ _ _ _ _ h12 _ ((o11.slAt 0 rfl).mono o12.le) (o12.slAt 0 rfl) (by decide) ?_
 have l2c:=za.le_trans l28 (za.le_trans l9 (za.le_trans o10.le (za.le_trans o11.le o12.le)))
 simp -dsimp [repL]
 refine s6 awkS _ _ _ _ 4 [67] 0 0 h12 _ (hS.mono l2c) (by decide) ⟨rfl,rfl,rfl,rfl,rfl⟩ fun w2 h13 o13=> ?_
 rw [awk_c1] at o13
 simp -dsimp [repL]
 refine litT (n:=3) [[35,108,111,116],[66],[67]] rfl rfl fun j7 h14 o14=> ?_
 simp -dsimp
 refine s5 _ _ _ _ _ _ h14 _ ((o13.slAt 0 rfl).mono o14.le) (o14.slAt 0 rfl) (by decide) ?_
 have l2e:=za.le_trans l2c (za.le_trans o13.le o14.le)
 simp -dsimp [repL]
 refine s6 awkS _ _ _ _ 11 [] 0 3 h14 _ (hS.mono l2e) (by decide) ⟨rfl,rfl,rfl,rfl,rfl⟩ fun w3 h15 o15=> ?_
 rw [awk_c2] at o15
 simp -dsimp [repL]
 refine litT (n:=1) [[42]] rfl rfl fun j8 h16 o16=> ?_
 simp -dsimp
 refine s5 _ _ _ _ _ _ h16 _ ((o15.slAt 0 rfl).mono o16.le) (o16.slAt 0 rfl) (by decide) ?_
 have l2g:=za.le_trans l2e (za.le_trans o15.le o16.le)
 simp -dsimp [repL]
 refine s6 awkS _ _ _ _ 12 [] 0 0 h16 _ (hS.mono l2g) (by decide) ⟨rfl,rfl,rfl,rfl,rfl⟩ fun w4 h17 o17=> ?_
 rw [awk_c3] at o17
 simp -dsimp [repL]
 refine litT (n:=1) [[42]] rfl rfl fun j9 h18 o18=> ?_
 simp -dsimp
 refine s5 _ _ _ _ _ _ h18 _ ((o17.slAt 0 rfl).mono o18.le) (o18.slAt 0 rfl) (by decide) ?_
 have l2i:=za.le_trans l2g (za.le_trans o17.le o18.le)
 simp -dsimp [repL]
 refine litT (n:=1) [[68]] rfl rfl fun k1 h19 o19=> ?_
 simp -dsimp
 refine s7 awkS _ _ _ _ [[68]] [] h19 _ (hS.mono (za.le_trans l2i o19.le)) (o19.slAt 0 rfl) (by decide) (by decide) fun a P2 b c h20 e20 o20=> ?_
 have hb:V.zbj b=some (.int .i64 1):=by
  have:=(o20.slAt 1 rfl).zbj
  rw [List.length_map,awk_part] at this
  exact this
 simp -dsimp [hb]
 exact dn_le (za.le_trans l1 (za.le_trans o2.le (za.le_trans l2i (za.le_trans o19.le o20.le)))) hq
end Go.Ab
namespace Go.Ab
variable {C:CSem} {N:zN}
def ze0.Spec (C:CSem) (N:zN):Prop:= ∀ (x:AVal) (L:List Key) (R:List (List AVal)) (s:Key) (h:za) (Q:zQ),SlX h 1 x (L.map tc) R->L.length <= 100000000->Q (.bool (decide (s∈L))) h->C (N 600) [x,.str s] h Q
theorem ze0.spec (i:ze0.Imp C N):ze0.Spec C N:=by
 intro x L R s h Q hx hl hq
 apply i
 have lx:=hx.zbj
 rw [List.length_map] at lx
 refine zg.intro (fun n vs hh=>hh=h /\ ∃ k:Nat,k+n=L.length /\ vs=[.int .i64 (k:Int)] /\ s∉L.take k) L.length ?_ ⟨rfl,0,by simp,rfl,by simp⟩
 rintro Y n vs h ⟨rfl,k,hk,rfl,hn⟩ hY
 simp -dsimp only [ze0.l2,ze0.k1,lx,V.zd4,B.zd]
 refine B.zn (fun hc=> ?_) (fun hc=> ?_)
 ·rw [decide_eq_true_eq] at hc
  obtain ⟨a,ha⟩:=zfz (L:=L) (k:=k) (by omega)
  have f1:V.idxS 1 x (.int .i64 (k:Int))=some (elp 1 x k 0):=hx.idxN (by rw [List.length_map];omega)
  have f2:A.ldv h (elp 1 x k 0)=some (.str a):=hx.cell (by rw [List.getElem?_map,ha];rfl)
  simp -dsimp only [f1,f2,B.zg0,B.zd,V.znx]
  refine B.zn (fun hd=> ?_) (fun hd=> ?_)
  ·have e:a=s:=of_decide_eq_true hd
   have:s∈L:=by rw [<- e];exact List.mem_of_getElem? ha
   rw [decide_eq_true this] at hq
   exact zbe hq
  ·have e:a≠s:=of_decide_eq_false hd
   simp -dsimp only [add1 (show k<4611686018427387904 by omega),B.zd]
   refine hY (L.length-(k+1)) _ _ (by omega) ⟨rfl,k+1,by omega,rfl,?_⟩
   rw [take_succ ha,List.mem_append,List.mem_singleton]
   rintro (h1|h1)
   ·exact hn h1
   ·exact e h1.symm
 ·rw [decide_eq_false_iff_not] at hc
  have:k=L.length:=by omega
  subst this
  rw [List.take_length] at hn
  rw [decide_eq_false hn] at hq
  exact zbe hq
theorem putT_at {s:Key}: ∀ {L:List Key} {k:Nat},(∀ x∈L.take k,zgz x s=true)->k <= L.length->(∀ x,L[k]? =some x->zgz x s=false)->putT L s=if L[k]? =some s then L else L.take k++s::L.drop k
 | [],0,_,_,_=>rfl
 | [],k+1,_,h,_=>by simp at h
 | x::l,0,_,_,h=>by
  have:=h x rfl
  unfold putT
  rw [if_neg (by rw [this];exact Bool.false_ne_true)]
  by_cases e:x=s
  ·rw [if_pos e,if_pos (by rw [e];rfl)]
  ·have h0: ¬ (x::l)[0]? =some s:=fun h=>e (Option.some.inj h)
   rw [if_neg e,if_neg h0];rfl
 | x::l,k+1,h1,h2,h3=>by
  have hx:=h1 x (by simp)
  unfold putT
  rw [if_pos hx,putT_at (k:=k) (fun y hy=>h1 y (by simp [hy])) (by simpa using h2) (fun y hy=>h3 y hy)]
  by_cases e:l[k]? =some s
  ·rw [if_pos e,if_pos (by exact e)]
  ·rw [if_neg e,if_neg (by exact e)];rfl
def zdz.Spec (C:CSem) (N:zN):Prop:= ∀ (x:AVal) (L:List Key) (R:List (List AVal)) (s:Key) (h:za) (Q:zQ),SlX h 1 x (L.map tc) R->L.length <= 10000000->(∀ x' h',(x'=x /\ h'=h /\ putT L s=L \/ Owns h h' [.sl 1 x' ((putT L s).map tc) []])->Q x' h')->C (N 603) [x,.str s] h Q
def zdz.Rd (C:CSem) (N:zN):Prop:= ∀ (x:AVal) (L:List Key) (R:List (List AVal)) (s:Key) (h:za) (Q:zQ),SlX h 1 x (L.map tc) R->L.length <= 10000000->(∀ x' h' R',h.le h'->SlX h' 1 x' ((putT L s).map tc) R'->Q x' h')->C (N 603) [x,.str s] h Q
theorem zdz.Spec.rd (s:zdz.Spec C N):zdz.Rd C N:=fun x L R k h Q hx hl hq=>s x L R k h Q hx hl fun x' h' hh=>by
 rcases hh with ⟨rfl,rfl,e⟩|o
 ·exact hq _ _ R (za.le_refl _) (by rw [e];exact hx)
 ·exact hq _ _ [] o.le (o.slAt 0 rfl)
theorem zdz.spec (i:zdz.Imp C N):zdz.Spec C N:=by
 intro x L R s h Q hx hl hq
 apply i
 have lx:=hx.zbj
 rw [List.length_map] at lx
 refine zg.intro (fun n vs hh=>hh=h /\ ∃ k:Nat,k+n=L.length /\ vs=[.int .i64 (k:Int)] /\ ∀ y∈L.take k,zgz y s=true) L.length ?_ ⟨rfl,0,by simp,rfl,by simp⟩
 rintro Y n vs h ⟨rfl,k,hk,rfl,hn⟩ hY
 have fin:(∀ y,L[k]? =some y->zgz y s=false)->zdz.k1 C N (dn Q) x (.str s) (.int .i64 (k:Int)) h:=fun hle=>by
  have hput:=putT_at hn (by omega) hle
  have new:L[k]? ≠some s->(B.pv (V.zgp 1 x none (some (.int .i64 (k:Int)))) fun v37=>B.appW h 1 16 .sz v37 fun v38 h=>B.newO h (ze2 [(0,none,.str s)] (repL 1 [.str []])) fun i41 h=>B.appW h 1 16 v38 (.sl i41 0 0 1 1 1) fun v42 h=>
    B.pv (V.zgp 1 x (some (.int .i64 (k:Int))) none) fun v46=>B.appW h 1 16 v42 v46 fun v47 h=>dn Q v47 h):=fun hne=>by
   rw [if_neg hne] at hput
   obtain ⟨y1,R1,e1,e2,_⟩:=hx.sliceIn (by omega) (lo:=0) (hi:=k) (a:=none) (b:=some (.int .i64 (k:Int))) (.inl ⟨rfl,rfl⟩) (.inr ⟨_,rfl⟩) (by omega) (by omega)
   rw [List.drop_zero] at e2
   obtain ⟨y2,R2,g1,g2,_⟩:=hx.sliceIn (by omega) (lo:=k) (hi:=L.length) (a:=some (.int .i64 (k:Int))) (b:=none) (.inr ⟨_,rfl⟩) (.inl ⟨rfl,rfl⟩) (by omega) (by omega)
   rw [List.take_length] at g2
   simp -dsimp only [e1,B.zd]
   have tl:(L.take k).length <= 10000000:=by rw [List.length_take];omega
   have dl:(L.drop k).length <= 10000000:=by rw [List.length_drop];omega
   refine ((Owns.start h).sz 1).appW 0 rfl e2 (by omega) (by simp;omega) (by simp [maxLen];omega) fun x1 h1 o1 _=> ?_
   have hf:ze2 [(0,none,.str s)] (repL 1 [.str []])=some [.str s]:=rfl
   rw [hf]
   refine o1.push 0 rfl (cs:=[.str s]) rfl (by omega) (by simp;omega) (by simp [maxLen];omega) fun x2 h2 o2 _=> ?_
   simp -dsimp only [g1,B.zd]
   refine o2.appW 0 rfl (g2.mono o2.le) (by omega) (by simp;omega) (by simp [maxLen];omega) fun x3 h3 o3 _=> ?_
   refine zbe (hq x3 h3 (.inr ?_))
   rw [hput]
   have this:Owns h h3 [.sl 1 x3 ((([]++(L.take k).map tc)++[[.str s]])++(L.drop k).map tc) []]:=o3
   rw [List.nil_append,List.append_assoc] at this
   rw [List.map_append,List.map_cons]
   exact this
  by_cases hkl:k<L.length
  ·obtain ⟨a,ha⟩:=zfz hkl
   have f1:V.idxS 1 x (.int .i64 (k:Int))=some (elp 1 x k 0):=hx.idxN (by rw [List.length_map];omega)
   have f2:A.ldv h (elp 1 x k 0)=some (.str a):=hx.cell (by rw [List.getElem?_map,ha];rfl)
   have c1:decide ((k:Int)<(L.length:Int))=true:=by simp;omega
   simp -dsimp only [zdz.k1,lx,V.zd4,c1,B.gd_t,B.zde,zjn,B.zd,f1,f2,B.zg0,V.znx,B.zgg]
   refine B.zn (fun hd=> ?_) (fun hd=> ?_)
   ·have e:a=s:=of_decide_eq_true hd
    rw [if_pos (by rw [ha,e])] at hput
    exact zbe (hq x h (.inl ⟨rfl,rfl,hput⟩))
   ·have e:a≠s:=of_decide_eq_false hd
    exact new (by rw [ha];exact fun h=>e (Option.some.inj h))
  ·have c1:decide ((k:Int)<(L.length:Int))=false:=by simp;omega
   simp -dsimp [lx,hkl]
   exact new (by rw [List.getElem?_eq_none (by omega)];exact fun h=>by cases h)
 simp -dsimp only [zdz.l3,zdz.k2,lx,V.zd4,B.zd]
 by_cases hkl:k<L.length
 ·obtain ⟨a,ha⟩:=zfz hkl
  have f1:V.idxS 1 x (.int .i64 (k:Int))=some (elp 1 x k 0):=hx.idxN (by rw [List.length_map];omega)
  have f2:A.ldv h (elp 1 x k 0)=some (.str a):=hx.cell (by rw [List.getElem?_map,ha];rfl)
  have c1:decide ((k:Int)<(L.length:Int))=true:=by simp;omega
  simp -dsimp only [c1,B.gd_t,B.zde,zjn,B.zd,f1,f2,B.zg0,V.bin_slss,B.zgg]
  refine B.zn (fun hd=> ?_) (fun hd=> ?_)
  ·simp -dsimp only [add1 (show k<4611686018427387904 by omega),B.zd]
   refine hY (L.length-(k+1)) _ _ (by omega) ⟨rfl,k+1,by omega,rfl,fun y hy=> ?_⟩
   rw [take_succ ha,List.mem_append,List.mem_singleton] at hy
   rcases hy with hy|hy
   ·exact hn y hy
   ·rw [hy];exact hd
  ·exact fin fun y hy=>by rw [ha] at hy;cases hy;exact hd
 ·simp -dsimp [hkl, - zdz.k1]
  exact fin fun y hy=>by rw [List.getElem?_eq_none (by omega)] at hy;cases hy
end Go.Ab
namespace Go.Ab
variable {C:CSem} {N:zN}
theorem zpp: ∀ {m l:List Key},ziq l->(zib l m).length <= l.length+m.length
 | [],l,_=>Nat.le_refl _
 | s::m,l,h=>by
  have h1:=zpp (m:=m) (zpq (s:=s) h)
  have h2:=putT_len (s:=s) h
  have:(putT l s).length <= l.length+1:=by rw [h2];split<;>omega
  show (zib (putT l s) m).length <= _
  rw [List.length_cons]
  omega
theorem zqm (l m:List Key) (s:Key):zib l (m++[s])=putT (zib l m) s:=by simp [zib]
def zdv.Spec (C:CSem) (N:zN):Prop:= ∀ (x:AVal) (I:List Itm) (h:za) (Q:zQ),Dl ze8 h x I->I.length <= 1000000->(∀ x' h' R',h.le h'->SlX h' 1 x' ((zco I).map tc) R'->Q x' h')->C (N 602) [x] h Q
theorem zdv.spec (i:zdv.Imp C N) (s1:zdz.Spec C N):zdv.Spec C N:=by
 intro x I h Q hx hl hq
 apply i
 refine zg.intro (fun n vs hh=> ∃ (k:Nat) (y:AVal) (R:List (List AVal)),k+n=I.length /\ vs=[y,.int .i64 (k:Int)] /\ h.le hh /\ SlX hh 1 y ((zib [] ((I.take k).map Itm.Code)).map tc) R) I.length ?_ ⟨0,.nils,[],by simp,rfl,za.le_refl h,SlX.nils h 1⟩
 rintro Y n vs hh ⟨k,y,R,hk,rfl,hle,hy⟩ hY
 have hxx:=hx.mono hle
 have lx:=hxx.zbj
 simp -dsimp only [zdv.l2,zdv.k1,lx,V.zd4,B.zd]
 refine B.zn (fun hc=> ?_) (fun hc=> ?_)
 ·rw [decide_eq_true_eq] at hc
  obtain ⟨t,ht⟩:=zfz (L:=I) (k:=k) (by omega)
  obtain ⟨a,ea⟩:=hxx.get ht
  have e1:V.idxS 4 x (.int .i64 (k:Int))=some (elp 4 x k 0):=ea.idx
  have e2:V.fieldAddr 0 (elp 4 x k 0)=some (elp 4 x k 0):=ea.fld 0 0
  have e3:A.ldv hh (elp 4 x k 0)=some (.str t.Code):=ea.ld 0 (by decide)
  simp -dsimp only [e1,e2,e3,B.zg0,B.zd]
  have hlen:=zpp (l:=[]) (m:=(I.take k).map Itm.Code) .nil
  simp only [List.length_nil,List.length_map,List.length_take] at hlen
  refine s1.rd y _ R t.Code hh _ hy (by omega) fun y' h' R' hle' hy'=> ?_
  simp -dsimp only [add1 (show k<4611686018427387904 by omega),B.zd]
  refine hY (I.length-(k+1)) _ _ (by omega) ⟨k+1,y',R',by omega,rfl,za.le_trans hle hle',?_⟩
  rw [take_succ ht,List.map_append,List.map_cons,List.map_nil,zqm]
  exact hy'
 ·rw [decide_eq_false_iff_not] at hc
  have:k=I.length:=by omega
  subst this
  rw [List.take_length] at hy
  exact zbe (hq y hh R hle hy)
def zbp.Spec (C:CSem) (N:zN):Prop:= ∀ (t:Itm) (a:AVal×AVal) (x y:AVal) (all inn:List Key) (R S:List (List AVal)) (h:za) (Q:zQ),ze8.at_ h t a->SlX h 1 x (all.map tc) R->SlX h 1 y (inn.map tc) S->all.length <= 10000000->inn.length <= 10000000 ->
 (∀ z h' R',h.le h'->SlX h' 1 z ((zgk all t).map tc) R'->Q (.tup [.bool (hitT all inn t),z]) h')->C (N 604) [.agg (ze8.cells t a),x,y] h Q
theorem zbp.spec (i:zbp.Imp C N) (s1:ze0.Spec C N):zbp.Spec C N:=by
 intro t a x y all inn R S h Q ha hx hy hl1 hl2 hq
 obtain ⟨⟨Rp,hp⟩,⟨Ro,ho⟩,hok⟩:(∃ R,SlX h 2 a.1 (t.ze5.map Part.cs) R) /\ (∃ R,SlX h 1 a.2 (t.zen.map tc) R) /\ t.ok:=ha
 obtain ⟨ok1,ok2⟩:t.ze5.length <= few /\ t.zen.length <= few:=hok
 unfold few at ok1 ok2
 have c1:=hp.zc8
 have c2:=ho.zc8
 have lp:=hp.zbj
 rw [List.length_map] at lp
 apply i
 simp -dsimp [ze8,c1,c2,repL, - zbp.l5, - zbp.k4]
 intro i15 f15
 have o1:=(Owns.start h).zrn (id:=i15) (n:=1) (cp:=1) (es:=1) (cs:=[.str t.Code]) (L:=[t.Code].map tc) (R:=[]) f15 (by simp [tc]) rfl (by simp) rfl
 generalize upd h i15 (zfm [.str t.Code])=h1 at *
 refine zg.intro (fun n vs hh=> ∃ (k:Nat) (v:AVal),k+n=t.ze5.length /\ vs=[v,.int .i64 (k:Int)] /\ Owns h hh [.sl 1 v ((t.Code::(t.ze5.take k).map Part.Item).map tc) []]) t.ze5.length ?_ ⟨0,_,by simp,rfl,o1⟩
 rintro Y n vs hh ⟨k,v,hk,rfl,o⟩ hY
 simp -dsimp only [zbp.l5,zbp.k4,B.zrj,V.zi7,List.getElem?_cons_zero,List.getElem?_cons_succ,lp,V.zd4,B.zd]
 refine B.zn (fun hc=> ?_) (fun hc=> ?_)
 ·rw [decide_eq_true_eq] at hc
  obtain ⟨w,hw⟩:=zfz (L:=t.ze5) (k:=k) (by omega)
  have hk':k<(t.ze5.map Part.cs).length:=by rw [List.length_map];omega
  have f1:V.idxS 2 a.1 (.int .i64 (k:Int))=some (elp 2 a.1 k 0):=hp.idxN hk'
  have f2:V.fieldAddr 0 (elp 2 a.1 k 0)=some (elp 2 a.1 k 0):=hp.fieldA hk' 0 0
  have f3:A.ldv hh (elp 2 a.1 k 0)=some (.str w.Item):=(hp.mono o.le).ldv (f:=0) (c:=w.cs) (by rw [List.getElem?_map,hw];rfl) (by omega)
  have hf:ze2 [(0,none,.str w.Item)] (repL 1 [.str []])=some [.str w.Item]:=rfl
  simp -dsimp only [B.zrj,V.zi7,List.getElem?_cons_zero,List.getElem?_cons_succ,f1,f2,f3,B.zg0,B.zd,hf]
  have tl:(t.ze5.take k).length <= 100000000:=by rw [List.length_take];omega
  refine o.push 0 rfl (cs:=[.str w.Item]) rfl (by omega) (by simp;omega) (by simp [maxLen];omega) fun v' h2 o2 _=> ?_
  simp -dsimp only [add1 (show k<4611686018427387904 by omega),B.zd]
  refine hY (t.ze5.length-(k+1)) _ _ (by omega) ⟨k+1,v',by omega,rfl,?_⟩
  rw [take_succ hw,List.map_append]
  have e:(t.Code::((t.ze5.take k).map Part.Item++[w].map Part.Item)).map tc=(t.Code::(t.ze5.take k).map Part.Item).map tc++[[.str w.Item]]:=by
   rw [<- List.cons_append,List.map_append];rfl
  rw [e]
  exact o2
 ·rw [decide_eq_false_iff_not] at hc
  have:k=t.ze5.length:=by omega
  subst this
  rw [List.take_length] at o
  simp -dsimp only [zbp.k3,B.zrj,V.zi7,List.getElem?_cons_zero,List.getElem?_cons_succ,B.zd]
  refine o.appW 0 rfl (ho.mono o.le) (by omega) (by simp;omega) (by simp [maxLen];omega) fun v' h2 o2 _=> ?_
  have o2:Owns h h2 [.sl 1 v' ((zhd t).map tc) []]:=by
   have e:(zhd t).map tc=(t.Code::t.ze5.map Part.Item).map tc++t.zen.map tc:=by
    unfold zhd
    rw [<- List.cons_append,List.map_append]
   rw [e];exact o2
  have hnl:(zhd t).length <= 300000000:=by unfold zhd;simp;omega
  have lv:=(o2.slAt 0 rfl:SlX h2 1 v' ((zhd t).map tc) []).zbj
  rw [List.length_map] at lv
  refine zg.intro (fun n vs hh=> ∃ (k:Nat) (z:AVal),k+n=(zhd t).length /\ vs=[z,.bool ((((zhd t).take k).filter fun n=>decide (n∈all)).any fun n=>decide (n∈inn)),.int .i64 (k:Int)] /\ Owns h2 hh [.sl 1 z ((((zhd t).take k).filter fun n=>decide (n∈all)).map tc) []]) (zhd t).length ?_ ⟨0,.nils,by simp,rfl,(Owns.start h2).nils 1⟩
  rintro Y2 n vs h3 ⟨k,z,hk2,rfl,o⟩ hY2
  simp -dsimp only [zbp.l2,zbp.k1,lv,V.zd4,B.zd]
  refine B.zn (fun hc=> ?_) (fun hc=> ?_)
  ·rw [decide_eq_true_eq] at hc
   obtain ⟨w,hw⟩:=zfz (L:=zhd t) (k:=k) (by omega)
   have hv:SlX h3 1 v' ((zhd t).map tc) []:=(o2.slAt 0 rfl).mono o.le
   have f1:V.idxS 1 v' (.int .i64 (k:Int))=some (elp 1 v' k 0):=hv.idxN (by rw [List.length_map];omega)
   have f2:A.ldv h3 (elp 1 v' k 0)=some (.str w):=hv.cell (by rw [List.getElem?_map,hw];rfl)
   have le3:=za.le_trans o2.le o.le
   simp -dsimp only [f1,f2,B.zg0,B.zd]
   refine s1 x all R w h3 _ (hx.mono le3) (by omega) ?_
   have hfl:((zhd t).take (k+1)).filter (fun n=>decide (n∈all))=((zhd t).take k).filter (fun n=>decide (n∈all))++if decide (w∈all)=true then [w] else []:=by
    rw [take_succ hw,List.filter_append]
    congr 1
    by_cases e:w∈all<;>simp [e]
   refine B.zn (fun hd=> ?_) (fun hd=> ?_)
   ·rw [if_pos hd] at hfl
    have hf:ze2 [(0,none,.str w)] (repL 1 [.str []])=some [.str w]:=rfl
    simp -dsimp only [f1,f2,B.zg0,B.zd,hf]
    have tl:(((zhd t).take k).filter fun n=>decide (n∈all)).length <= 300000000:=by
     have h1:=List.length_filter_le (fun n=>decide (n∈all)) ((zhd t).take k)
     rw [List.length_take] at h1
     omega
    refine o.push 0 rfl (cs:=[.str w]) rfl (by omega) (by simp only [List.length_map];omega) (by simp only [List.length_map,maxLen];omega) fun z' h4 o4 _=> ?_
    have le4:=za.le_trans o2.le o4.le
    have f2':A.ldv h4 (elp 1 v' k 0)=some (.str w):=((o2.slAt 0 rfl:SlX h2 1 v' ((zhd t).map tc) []).mono o4.le).cell (by rw [List.getElem?_map,hw];rfl)
    generalize hH:(((zhd t).take k).filter fun n=>decide (n∈all)).any (fun n=>decide (n∈inn))=H
    have hh2:(((zhd t).take (k+1)).filter fun n=>decide (n∈all)).any (fun n=>decide (n∈inn))=(H||decide (w∈inn)):=by
     rw [hfl,List.any_append,hH];simp
    have nxt:Y2 [z',.bool (H||decide (w∈inn)),.int .i64 ((k+1:Nat):Int)] h4:=by
     refine hY2 ((zhd t).length-(k+1)) _ _ (by omega) ⟨k+1,z',by omega,by rw [hh2],?_⟩
     rw [hfl,List.map_append]
     exact o4
    cases H with
    | true=>
     simp -dsimp only [B.gd_f,B.zde,B.ze1,zjn,gv_false,B.zgg]
     simp -dsimp [- V.zfa]
     rw [add1 (show k<4611686018427387904 by omega)]
     exact nxt
    | false=>
     simp -dsimp [f1,f2', - V.zfa]
     refine s1 y inn S w h4 _ (hy.mono le4) (by omega) ?_
     simp -dsimp [- V.zfa]
     rw [add1 (show k<4611686018427387904 by omega)]
     exact nxt
   ·rw [if_neg (by rw [hd];exact Bool.false_ne_true),List.append_nil] at hfl
    simp -dsimp only [add1 (show k<4611686018427387904 by omega),B.zd]
    exact hY2 ((zhd t).length-(k+1)) _ _ (by omega) ⟨k+1,z,by omega,by rw [hfl],by rw [hfl];exact o⟩
  ·rw [decide_eq_false_iff_not] at hc
   have:k=(zhd t).length:=by omega
   subst this
   rw [List.take_length] at o ⊢
   exact zbe (hq z h3 [] (za.le_trans o2.le o.le) (o.slAt 0 rfl))
end Go.Ab
namespace Go.Ab
variable {C:CSem} {N:zN}
theorem zma (I:List Itm):(zco I).length <= I.length:=by
 have:=zpp (l:=[]) (m:=I.map Itm.Code) .nil
 simpa [zco] using this
theorem roundT_snoc {all:List Key} {I:List Itm} {k:Nat} {t:Itm} (ht:I[k]? =some t) (a:List Key):zgq all (I.take (k+1)) a=if hitT all (zgq all (I.take k) a) t=true then zib (zgq all (I.take k) a) (zgk all t) else zgq all (I.take k) a:=by
 unfold zgq
 rw [take_succ ht,List.foldl_append]
 rfl
def zbz.Spec (C:CSem) (N:zN):Prop:= ∀ (x:AVal) (I:List Itm) (c:Key) (h:za) (Q:zQ),Dl ze8 h x I->I.length <= 1000000->c∈zco I->(∀ x' h' R',Owns h h' [.sl 1 x' ((zdm I c).map tc) R']->Q x' h')->C (N 601) [x,.str c] h Q
theorem zbz.spec (i:zbz.Imp C N) (s1:zdv.Spec C N) (s2:zbp.Spec C N) (s3:zdz.Spec C N):zbz.Spec C N:=by
 intro x I c h Q hx hI hc hq
 apply i
 simp -dsimp only [zbz.cps,zbz.k7]
 refine s1 x I h _ hx hI fun z h1 Rz le1 hz=> ?_
 have hf:ze2 [(0,none,.str c)] (repL 1 [.str []])=some [.str c]:=rfl
 rw [hf]
 intro i15 f15
 have o1:=(Owns.start h1).zrn (id:=i15) (n:=1) (cp:=1) (es:=1) (cs:=[.str c]) (L:=[c].map tc) (R:=[]) f15 (by simp [tc]) rfl (by simp) rfl
 generalize upd h1 i15 (zfm [.str c])=h2 at *
 have cl:=zma I
 have allR:=zj5 I
 generalize hA:zco I=all at *
 refine zg.intro (fun j vs hh=> ∃ (y:AVal) (n:Nat) (a:List Key) (R:List (List AVal)),vs=[y,.int .i64 (n:Int)] /\ Owns h1 hh [.sl 1 y (a.map tc) R] /\ ziq a /\ (∀ k∈a,k∈all) /\ ((n=a.length /\ a=zdm I c) \/ (n≠a.length /\ zjx all I j a=zdm I c /\ all.length<a.length+j))) (all.length+1) ?_
  ⟨_,0,[c],[],rfl,o1,List.pairwise_singleton _ _,fun k hk=>by rw [List.mem_singleton.1 hk];exact hc,.inr ⟨by simp,by unfold zdm;rw [hA],by simp;omega⟩⟩
 rintro Y j vs hh ⟨y,n,a,R,rfl,oy,ra,ha,hinv⟩ hY
 have hy:SlX hh 1 y (a.map tc) R:=oy.slAt 0 rfl
 have le2:=oy.le
 have ly:=hy.zbj
 rw [List.length_map] at ly
 have hal:a.length <= all.length:=(zfj ra).length_le_of_subset ha
 simp -dsimp only [zbz.l6,zbz.k5,ly,V.bin_neq,B.zd]
 refine B.zn (fun hd=> ?_) (fun hd=> ?_)
 ·have hne:n≠a.length:=fun e=>by rw [e] at hd;simp at hd
  obtain ⟨_,hr,hfuel⟩:=hinv.resolve_left fun e=>hne e.1
  obtain ⟨j,rfl⟩: ∃ u,j=u+1:=⟨j-1,by omega⟩
  simp -dsimp only [ly,B.zd]
  refine zg.intro (fun n vs hh=> ∃ (k:Nat) (y:AVal) (R:List (List AVal)),k+n=I.length /\ vs=[y,.int .i64 (k:Int)] /\ Owns h1 hh [.sl 1 y ((zgq all (I.take k) a).map tc) R]) I.length ?_ ⟨0,y,R,by simp,rfl,oy⟩
  rintro Y2 n2 vs h3 ⟨k,y2,R2,hk,rfl,oy2⟩ hY2
  have hy2:SlX h3 1 y2 ((zgq all (I.take k) a).map tc) R2:=oy2.slAt 0 rfl
  have le3:=oy2.le
  have hxx:=hx.mono (za.le_trans le1 le3)
  have lx:=hxx.zbj
  have rk:=zks (all:=all) (J:=I.take k) ra
  have hka:=zsj (J:=I.take k) ha
  have hkl:(zgq all (I.take k) a).length <= all.length:=(zfj rk).length_le_of_subset hka
  simp -dsimp only [zbz.l4,lx,V.zd4,B.zd]
  refine B.zn (fun hc2=> ?_) (fun hc2=> ?_)
  ·rw [decide_eq_true_eq] at hc2
   obtain ⟨t,ht⟩:=zfz (L:=I) (k:=k) (by omega)
   obtain ⟨b,eb⟩:=hxx.get ht
   have e1:V.idxS 4 x (.int .i64 (k:Int))=some (elp 4 x k 0):=eb.idx
   have e2:A.ldnv h3 (elp 4 x k 0) 4=some (.agg (ze8.cells t b)):=eb.ldn
   have hsn:=roundT_snoc (all:=all) ht a
   generalize zgq all (I.take k) a=ak at *
   simp -dsimp only [zbz.k3,e1,e2,B.zd,B.zou]
   refine s2 t b z y2 all ak Rz R2 h3 _ eb.at_ (hz.mono le3) hy2 (by omega) (by omega) fun w h4 Rw le4 hw=> ?_
   simp -dsimp only [V.zg8,List.getElem?_cons_zero,List.getElem?_cons_succ,B.zd]
   have lw:=hw.zbj
   rw [List.length_map] at lw
   have hkn: ∀ q∈zgk all t,q∈all:=fun q hq=>by simpa using (List.mem_filter.1 hq).2
   have next: ∀ (y':AVal) (h':za) (R':List (List AVal)),Owns h1 h' [.sl 1 y' ((zgq all (I.take (k+1)) a).map tc) R']->B.pv (V.bin .add (.int .i64 (k:Int)) (.int .i64 1)) fun v27=>Y2 [y',v27] h':=fun y' h' R' hy'=>by
    simp -dsimp only [add1 (show k<4611686018427387904 by omega),B.zd]
    exact hY2 (I.length-(k+1)) _ _ (by omega) ⟨k+1,y',R',by omega,rfl,hy'⟩
   cases hh:hitT all ak t with
   | false=>
    rw [hh] at hsn
    simp only [Bool.false_eq_true,if_false] at hsn
    refine zg.intro (fun n vs hh=>vs=[y2,.int .i64 0] /\ hh=h4) 0 ?_ ⟨rfl,rfl⟩
    rintro Y3 n3 vs h5 ⟨rfl,rfl⟩ hY3
    simp -dsimp [- V.zfa]
    have:=next y2 h5 R2 (by rw [hsn];exact oy2.grow le4)
    rw [add1 (show k<4611686018427387904 by omega)] at this ⊢
    exact this
   | true=>
    rw [hh] at hsn
    simp only [if_true] at hsn
    refine zg.intro (fun n vs hh=> ∃ (m:Nat) (y':AVal) (R':List (List AVal)),m+n=(zgk all t).length /\ vs=[y',.int .i64 (m:Int)] /\ h4.le hh /\ Owns h1 hh [.sl 1 y' ((zib ak ((zgk all t).take m)).map tc) R']) (zgk all t).length ?_ ⟨0,y2,R2,by simp,rfl,za.le_refl _,oy2.grow le4⟩
    rintro Y3 n3 vs h5 ⟨m,y',R',hm,rfl,le5,oy'⟩ hY3
    have hy':SlX h5 1 y' ((zib ak ((zgk all t).take m)).map tc) R':=oy'.slAt 0 rfl
    have hpl:(zib ak ((zgk all t).take m)).length <= all.length:=(zfj (zjz rk)).length_le_of_subset fun q hq=>by
     rcases zhm.1 hq with h|h
     ·exact hka q h
     ·exact hkn q (List.mem_of_mem_take h)
    by_cases hml:m<(zgk all t).length
    ·obtain ⟨q,hq'⟩:=zfz hml
     have f1:V.idxS 1 w (.int .i64 (m:Int))=some (elp 1 w m 0):=hw.idxN (by rw [List.length_map];omega)
     have f2:A.ldv h5 (elp 1 w m 0)=some (.str q):=(hw.mono le5).cell (by rw [List.getElem?_map,hq'];rfl)
     have c1:decide ((m:Int)<((zgk all t).length:Int))=true:=by simp;omega
     simp -dsimp only [zbz.l2,zbz.k1,B.gd_t,B.zde,zjn,lw,B.zd,V.zd4,c1,B.zgg,B.cond_true,f1,f2,B.zg0]
     refine s3 y' _ R' q h5 _ hy' (by omega) fun y3 h6 hd3=> ?_
     obtain ⟨R3,le6,oy3⟩: ∃ R3,h5.le h6 /\ Owns h1 h6 [.sl 1 y3 ((putT (zib ak ((zgk all t).take m)) q).map tc) R3]:=by
      rcases hd3 with ⟨rfl,rfl,e⟩|o
      ·exact ⟨R',za.le_refl _,by rw [e];exact oy'⟩
      ·exact ⟨[],o.le,o.back oy'.le⟩
     have hmb:m<4611686018427387904:=by
      have:(zgk all t).length <= (zhd t).length:=List.length_filter_le _ _
      obtain ⟨ok1,ok2⟩:t.ze5.length <= few /\ t.zen.length <= few:=eb.at_.2.2
      unfold few at ok1 ok2
      unfold zhd at this
      simp only [List.length_cons,List.length_append,List.length_map] at this
      omega
     simp -dsimp only [add1 hmb,B.zd]
     refine hY3 ((zgk all t).length-(m+1)) _ _ (by omega) ⟨m+1,y3,R3,by omega,rfl,za.le_trans le5 le6,?_⟩
     rw [take_succ hq',zqm]
     exact oy3
    ·have c1:decide ((m:Int)<((zgk all t).length:Int))=false:=by simp;omega
     have hme:m=(zgk all t).length:=by omega
     subst hme
     rw [List.take_length, <- hsn] at oy'
     simp -dsimp only [zbz.l2,zbz.k1,B.gd_t,B.zde,zjn,lw,B.zd,V.zd4,c1,B.zgg,B.cond_false]
     exact next y' h5 R' oy'
  ·rw [decide_eq_false_iff_not] at hc2
   have:k=I.length:=by omega
   subst this
   rw [List.take_length] at oy2 rk hka
   refine hY j _ _ (by omega) ⟨y2,a.length,zgq all I a,R2,rfl,oy2,rk,hka,?_⟩
   rw [zjx] at hr
   by_cases e:(zgq all I a).length=a.length
   ·rw [if_pos e] at hr
    exact .inl ⟨e.symm,hr⟩
   ·rw [if_neg e] at hr
    have:=round_len (all:=all) (J:=I) ra
    exact .inr ⟨fun h=>e h.symm,hr,by omega⟩
 ·have e:n=a.length:=by
   have:(n:Int)=(a.length:Int):=by simpa using hd
   omega
  obtain ⟨_,rfl⟩:=hinv.resolve_right fun h=>h.1 e
  exact zbe (hq y hh R (oy.back le1))
end Go.Ab
namespace Go.Ab
variable {C:CSem} {N:zN}
theorem withT_snoc (I:List Itm) (l:List Key) (c:Key):zfv I (l++[c])=zib (zfv I l) (if c∈zco I then zdm I c else [c]):=by
 unfold zfv
 rw [List.foldl_append];rfl
theorem withT_le (I:List Itm) (l:List Key):(zfv I l).length <= I.length+l.length:=by
 have h:=(zfj (zkq I l)).length_le_of_subset (l₂:=zco I++l) fun k hk=>by
  obtain ⟨d,h1,h2⟩:=zs2.1 hk
  rcases h2 with ⟨h2,h3⟩|⟨_,rfl⟩
  ·exact List.mem_append_left _ (h3.znc h2)
  ·exact List.mem_append_right _ h1
 have:=zma I
 rw [List.length_append] at h
 omega
def zc0.Spec (C:CSem) (N:zN):Prop:= ∀ (x y:AVal) (I:List Itm) (L:List Key) (R:List (List AVal)) (h:za) (Q:zQ),Dl ze8 h x I->I.length <= 1000000->SlX h 1 y (L.map tc) R->L.length <= 1000000 ->
 (∀ x' h' R',h.le h'->SlX h' 1 x' ((zfv I L).map tc) R'->Q x' h')->C (N 594) [x,y] h Q
theorem zc0.spec (i:zc0.Imp C N) (s1:zdv.Spec C N) (s2:ze0.Spec C N) (s3:zbz.Spec C N) (s4:zdz.Spec C N):zc0.Spec C N:=by
 intro x y I L R h Q hx hI hy hL hq
 apply i
 simp -dsimp only [zc0.cps]
 refine s1 x I h _ hx hI fun z h1 Rz le1 hz=> ?_
 have cl:=zma I
 have ly0:=hy.zbj
 rw [List.length_map] at ly0
 refine zg.intro (fun n vs hh=> ∃ (k:Nat) (o:AVal) (R':List (List AVal)),k+n=L.length /\ vs=[o,.int .i64 (k:Int)] /\ h1.le hh /\ SlX hh 1 o ((zfv I (L.take k)).map tc) R') L.length ?_ ⟨0,.nils,[],by simp,rfl,za.le_refl _,SlX.nils h1 1⟩
 rintro Y n vs hh ⟨k,o,Ro,hk,rfl,le2,ho⟩ hY
 simp -dsimp only [zc0.l5,ly0,V.zd4,B.zd]
 have wl:=withT_le I (L.take k)
 rw [List.length_take] at wl
 refine B.zn (fun hc=> ?_) (fun hc=> ?_)
 ·rw [decide_eq_true_eq] at hc
  obtain ⟨c,hcc⟩:=zfz (L:=L) (k:=k) (by omega)
  have f1:V.idxS 1 y (.int .i64 (k:Int))=some (elp 1 y k 0):=hy.idxN (by rw [List.length_map];omega)
  have f2: ∀ {h'},h1.le h'->A.ldv h' (elp 1 y k 0)=some (.str c):=fun hle=>(hy.mono (za.le_trans le1 hle)).cell (by rw [List.getElem?_map,hcc];rfl)
  have hsn:zfv I (L.take (k+1))=zib (zfv I (L.take k)) (if c∈zco I then zdm I c else [c]):=by rw [take_succ hcc,withT_snoc]
  have wl1:=withT_le I (L.take (k+1))
  rw [List.length_take] at wl1
  have inner: ∀ (g:List Key) (v:AVal) (Rv:List (List AVal)) (v6:AVal) (h3:za),hh.le h3->SlX h3 1 v (g.map tc) Rv->g.length <= 10000000->(g=if c∈zco I then zdm I c else [c])->zg (zc0.l2 C N (dn Q) Y x y v6 (.int .i64 (k:Int)) v) [o,.int .i64 0] h3:=by
   intro g v Rv v6 h3 le3 hv hg eg
   rw [<- eg] at hsn
   have lv:=hv.zbj
   rw [List.length_map] at lv
   refine zg.intro (fun n vs hh=> ∃ (m:Nat) (o':AVal) (R':List (List AVal)),m+n=g.length /\ vs=[o',.int .i64 (m:Int)] /\ h3.le hh /\ SlX hh 1 o' ((zib (zfv I (L.take k)) (g.take m)).map tc) R') g.length ?_ ⟨0,o,Ro,by simp,rfl,za.le_refl _,ho.mono le3⟩
   rintro Y2 n2 vs h4 ⟨m,o',R',hm,rfl,le4,ho'⟩ hY2
   have pl:=zpp (l:=zfv I (L.take k)) (m:=g.take m) (zkq _ _)
   rw [List.length_take] at pl
   simp -dsimp only [zc0.l2,zc0.k1,lv,V.zd4,B.zd]
   refine B.zn (fun hd=> ?_) (fun hd=> ?_)
   ·rw [decide_eq_true_eq] at hd
    obtain ⟨q,hq'⟩:=zfz (L:=g) (k:=m) (by omega)
    have g1:V.idxS 1 v (.int .i64 (m:Int))=some (elp 1 v m 0):=hv.idxN (by rw [List.length_map];omega)
    have g2:A.ldv h4 (elp 1 v m 0)=some (.str q):=(hv.mono le4).cell (by rw [List.getElem?_map,hq'];rfl)
    have pl2:(zib (zfv I (L.take k)) (g.take m)).length <= 10000000:=by
     have hsub:=(zfj (zjz (m:=g.take m) (zkq I (L.take k)))).length_le_of_subset (l₂:=zfv I (L.take (k+1))) fun y hy=>by
      rw [hsn]
      rcases zhm.1 hy with h|h
      ·exact zhm.2 (.inl h)
      ·exact zhm.2 (.inr (List.mem_of_mem_take h))
     omega
    simp -dsimp only [g1,g2,B.zg0,B.zd]
    refine s4.rd o' _ R' q h4 _ ho' pl2 fun o2 h5 R2 le5 ho2=> ?_
    simp -dsimp only [add1 (show m<4611686018427387904 by omega),B.zd]
    refine hY2 (g.length-(m+1)) _ _ (by omega) ⟨m+1,o2,R2,by omega,rfl,za.le_trans le4 le5,?_⟩
    rw [take_succ hq',zqm]
    exact ho2
   ·rw [decide_eq_false_iff_not] at hd
    have:m=g.length:=by omega
    subst this
    rw [List.take_length, <- hsn] at ho'
    simp -dsimp only [add1 (show k<4611686018427387904 by omega),B.zd]
    exact hY (L.length-(k+1)) _ _ (by omega) ⟨k+1,o',R',by omega,rfl,za.le_trans le2 (za.le_trans le3 le4),ho'⟩
  have hf:ze2 [(0,none,.str c)] (repL 1 [.str []])=some [.str c]:=rfl
  simp -dsimp only [zc0.k4,f1,f2 le2,B.zg0,B.zd,hf]
  intro i22 f22
  have o1:=(Owns.start hh).zrn (id:=i22) (n:=1) (cp:=1) (es:=1) (cs:=[.str c]) (L:=[c].map tc) (R:=[]) f22 (by simp [tc]) rfl (by simp) rfl
  generalize upd hh i22 (zfm [.str c])=h3 at *
  have le3:=za.le_trans le2 o1.le
  simp -dsimp only [zc0.k3,f1,f2 le3,B.zg0,B.zd]
  refine s2 z (zco I) Rz c h3 _ (hz.mono le3) (by omega) ?_
  refine B.zn (fun hd=> ?_) (fun hd=> ?_)
  ·have hcI:c∈zco I:=of_decide_eq_true hd
   simp -dsimp only [f1,f2 le3,B.zg0,B.zd]
   refine s3 x I c h3 _ (hx.mono (za.le_trans le1 le3)) hI hcI fun v h4 Rv ov=> ?_
   have le4:=ov.le
   have hv:SlX h4 1 v ((zdm I c).map tc) Rv:=ov.slAt 0 rfl
   have hgl:(zdm I c).length <= (zco I).length:=(zfj (zep hcI).1).length_le_of_subset fun y hy=>(((zep hcI).2 y).1 hy).znc hcI
   exact inner (zdm I c) v Rv _ h4 (za.le_trans o1.le le4) hv (by omega) (by rw [if_pos hcI])
  ·have hcI:c∉zco I:=of_decide_eq_false hd
   exact inner [c] _ [] _ h3 o1.le (o1.slAt 0 rfl) (by simp) (by rw [if_neg hcI])
 ·rw [decide_eq_false_iff_not] at hc
  have:k=L.length:=by omega
  subst this
  rw [List.take_length] at ho
  exact zbe (hq o hh Ro (za.le_trans le1 le2) ho)
end Go.Ab
namespace Go.Ab
variable {C:CSem} {N:zN}
def ofK (I:List Itm) (k:Nat):List (List Key):=(((zco I).take k).filter fun c=>decide ((zdm I c).head? =some c)).map (zdm I)
theorem ofK_step {I:List Itm} {k:Nat} {c:Key} (hc:(zco I)[k]? =some c):ofK I (k+1)=ofK I k++if c∈(ofK I k).flatten then [] else [zdm I c]:=by
 have hcI:c∈zco I:=List.mem_of_getElem? hc
 have key:c∈(ofK I k).flatten↔ ¬ (zdm I c).head? =some c:=by
  constructor
  ·intro hm he
   obtain ⟨g,hg,hcg⟩:=List.mem_flatten.1 hm
   obtain ⟨b,hb,rfl⟩:=List.mem_map.1 hg
   obtain ⟨hbt,hbh⟩:=List.mem_filter.1 hb
   have hbI:b∈zco I:=List.mem_of_mem_take hbt
   have e:=zl8 hbI hcg
   rw [<- e,he] at hbh
   have hbc:c=b:=by simpa using hbh
   subst hbc
   obtain ⟨j,hj,hje⟩:=List.getElem_of_mem hbt
   rw [List.length_take] at hj
   obtain ⟨hk1,hk2⟩:=List.getElem?_eq_some_iff.1 hc
   rw [List.getElem_take] at hje
   have:=(List.pairwise_iff_getElem.1 (zj5 I)) j k (by omega) hk1 (by omega)
   rw [hje,hk2,zin] at this
   cases this
  ·intro hne
   have hself:=zk5 hcI
   have hrise:=(zep hcI).1
   cases hg:zdm I c with
   | nil=>rw [hg] at hself;cases hself
   | cons a r=>
    have hag:a∈zdm I c:=by rw [hg];exact List.mem_cons_self ..
    have haI:=(((zep hcI).2 a).1 hag).znc hcI
    have ea:=zl8 hcI hag
    have hac:a≠c:=fun e=>hne (by rw [hg,e];rfl)
    have hlt:zgz a c=true:=by
     rw [hg] at hself hrise
     rcases List.mem_cons.1 hself with e|hm
     ·exact absurd e.symm hac
     ·exact (List.pairwise_cons.1 hrise).1 c hm
    have hat:a∈(zco I).take k:=by
     obtain ⟨j,hj,hje⟩:=List.getElem_of_mem haI
     obtain ⟨hk1,hk2⟩:=List.getElem?_eq_some_iff.1 hc
     have hjk:j<k:=by
      rcases Nat.lt_trichotomy j k with h|h|h
      ·exact h
      ·subst h
       rw [hk2] at hje
       exact absurd hje.symm hac
      ·have:=(List.pairwise_iff_getElem.1 (zj5 I)) k j hk1 hj h
       rw [hje,hk2,zl1 hlt] at this
       cases this
     have:((zco I).take k)[j]? =some a:=by
      rw [List.getElem?_take,if_pos hjk,List.getElem?_eq_getElem hj,hje]
     exact List.mem_of_getElem? this
    refine List.mem_flatten.2 ⟨zdm I a,List.mem_map.2 ⟨a,List.mem_filter.2 ⟨hat,by rw [ea,hg];simp⟩,rfl⟩,?_⟩
    rw [ea];exact hself
 unfold ofK at key ⊢
 rw [take_succ hc,List.filter_append,List.map_append]
 congr 1
 by_cases hh:(zdm I c).head? =some c
 ·rw [if_neg (fun h=>key.1 h hh)]
  simp [hh]
 ·rw [if_pos (key.2 hh)]
  simp [hh]
theorem flat_le {L:List (List Key)} {m:Nat} (h: ∀ g∈L,g.length <= m):L.flatten.length <= L.length*m:=by
 induction L with
 | nil=>simp
 | cons g L ih=>
  have h1:=ih fun k hk=>h k (List.mem_cons_of_mem _ hk)
  have h2:=h g (List.mem_cons_self ..)
  rw [List.flatten_cons,List.length_append,List.length_cons,Nat.add_mul]
  omega
abbrev grO (p:AVal×List Key×List (List AVal)):Ob:= .sl 1 p.1 (p.2.1.map tc) p.2.2
def zfb.Spec (C:CSem) (N:zN):Prop:= ∀ (x:AVal) (I:List Itm) (h:za) (Q:zQ),Dl ze8 h x I->I.length <= 5000 ->
 (∀ x' (P:List (AVal×List Key×List (List AVal))) h',P.map (·.2.1)=ofT I->Owns h h' (.sl 1 x' (P.map fun p=>[p.1]) []::P.map grO)->Q x' h')->C (N 593) [x] h Q
theorem zfb.spec (i:zfb.Imp C N) (s1:zdv.Spec C N) (s2:ze0.Spec C N) (s3:zbz.Spec C N):zfb.Spec C N:=by
 intro x I h Q hx hI hq
 apply i
 simp -dsimp only [zfb.cps]
 refine s1 x I h _ hx (by omega) fun z h1 Rz le1 hz=> ?_
 have cl:=zma I
 have lz:=hz.zbj
 rw [List.length_map] at lz
 refine zg.intro (fun n vs hh=> ∃ (k:Nat) (o e:AVal) (P:List (AVal×List Key×List (List AVal))),k+n=(zco I).length /\ vs=[o,e,.int .i64 (k:Int)] /\ P.map (·.2.1)=ofK I k /\ Owns h1 hh (.sl 1 o (P.map fun p=>[p.1]) []:: .sl 1 e ((ofK I k).flatten.map tc) []::P.map grO)) (zco I).length ?_ ⟨0,.nils,.nils,[],by simp,rfl,rfl,((Owns.start h1).nils 1).nils 1⟩
 rintro Y n vs hh ⟨k,o,e,P,hk,rfl,eP,ow⟩ hY
 have hPl:P.length <= k:=by
  have:=congrArg List.length eP
  rw [List.length_map] at this
  rw [this]
  unfold ofK
  rw [List.length_map]
  have h1:=List.length_filter_le (fun c=>decide ((zdm I c).head? =some c)) ((zco I).take k)
  rw [List.length_take] at h1
  omega
 have glen: ∀ {c},c∈zco I->(zdm I c).length <= 5000:=fun {c} hc=>by
  have:=(zfj (zep hc).1).length_le_of_subset (l₂:=zco I) fun y hy=>(((zep hc).2 y).1 hy).znc hc
  omega
 have hfl:(ofK I k).flatten.length <= 25000000:=by
  have h1:=flat_le (L:=ofK I k) (m:=5000) fun g hg=>by
   obtain ⟨b,hb,rfl⟩:=List.mem_map.1 hg
   exact glen (List.mem_of_mem_take (List.mem_filter.1 hb).1)
  have h2:(ofK I k).length=P.length:=by rw [<- eP,List.length_map]
  rw [h2] at h1
  have:=Nat.mul_le_mul_right 5000 (show P.length <= 5000 by omega)
  omega
 simp -dsimp only [zfb.l2,zfb.k1,lz,V.zd4,B.zd]
 refine B.zn (fun hc=> ?_) (fun hc=> ?_)
 ·rw [decide_eq_true_eq] at hc
  obtain ⟨c,hcc⟩:=zfz (L:=zco I) (k:=k) (by omega)
  have hcI:c∈zco I:=List.mem_of_getElem? hcc
  have f1:V.idxS 1 z (.int .i64 (k:Int))=some (elp 1 z k 0):=hz.idxN (by rw [List.length_map];omega)
  have f2:A.ldv hh (elp 1 z k 0)=some (.str c):=(hz.mono ow.le).cell (by rw [List.getElem?_map,hcc];rfl)
  have hst:=ofK_step hcc
  simp -dsimp only [f1,f2,B.zg0,B.zd]
  refine s2 e _ [] c hh _ (ow.slAt 1 rfl) (by omega) ?_
  refine B.zn (fun hd=> ?_) (fun hd=> ?_)
  ·rw [if_pos (of_decide_eq_true hd),List.append_nil] at hst
   simp -dsimp only [add1 (show k<4611686018427387904 by omega),B.zd]
   exact hY ((zco I).length-(k+1)) _ _ (by omega) ⟨k+1,o,e,P,by omega,rfl,by rw [hst];exact eP,by rw [hst];exact ow⟩
  ·rw [if_neg (of_decide_eq_false hd)] at hst
   simp -dsimp only [f1,f2,B.zg0,B.zd]
   refine s3 x I c hh _ (hx.mono (za.le_trans le1 ow.le)) (by omega) hcI fun v h4 Rv ov=> ?_
   have cv:v.zc8=true:=(ov.slAt 0 rfl).zc8
   have hf:ze2 [(0,none,v)] (repL 1 [.nils])=some [v]:=by simp -dsimp [cv,repL]
   rw [hf]
   have oj:=ow.join ov
   refine oj.push 0 rfl (cs:=[v]) rfl (by omega) (by simp;omega) (by simp [maxLen];omega) fun o' h5 o5 _=> ?_
   have o5:Owns h1 h5 (.sl 1 o' ((P.map fun p=>[p.1])++[[v]]) []:: .sl 1 e ((ofK I k).flatten.map tc) []::(P.map grO++[.sl 1 v ((zdm I c).map tc) Rv])):=o5
   have hv5:SlX h5 1 v ((zdm I c).map tc) Rv:=o5.is (.sl 1 v ((zdm I c).map tc) Rv) (by simp)
   have gl:=glen hcI
   refine o5.appW 1 rfl hv5 (by omega) (by simp only [List.length_map];omega) (by simp only [List.length_map,maxLen];omega) fun e' h6 o6 _=> ?_
   simp -dsimp only [add1 (show k<4611686018427387904 by omega),B.zd]
   refine hY ((zco I).length-(k+1)) _ _ (by omega) ⟨k+1,o',e',P++[(v,zdm I c,Rv)],by omega,rfl,by rw [hst,List.map_append,eP];rfl,?_⟩
   rw [hst,List.flatten_append,List.map_append,List.map_append,List.map_append]
   have e7:[zdm I c].flatten=zdm I c:=by simp
   rw [e7]
   exact o6
 ·rw [decide_eq_false_iff_not] at hc
  have:k=(zco I).length:=by omega
  subst this
  have eT:ofK I (zco I).length=ofT I:=by unfold ofK ofT;rw [List.take_length]
  refine zbe (hq o P hh (by rw [<- eT];exact eP) ((ow.back le1).sub ?_))
  exact List.Sublist.cons_cons _ (List.sublist_cons_self _ _)
end Go.Ab
set_option maxRecDepth 100000
namespace Go.Ab
variable {C:CSem} {N:zN}
theorem ofT_len (I:List Itm):(ofT I).length <= I.length:=by
 unfold ofT
 rw [List.length_map]
 have h1:=List.length_filter_le (fun c=>decide ((zdm I c).head? =some c)) (zco I)
 have:=zma I
 omega
theorem ofT_mem {I:List Itm} {g:List Key} (hg:g∈ofT I): ∃ c∈zco I,(zdm I c).head? =some c /\ g=zdm I c:=by
 unfold ofT at hg
 obtain ⟨c,hc,rfl⟩:=List.mem_map.1 hg
 obtain ⟨h1,h2⟩:=List.mem_filter.1 hc
 exact ⟨c,h1,by simpa using h2,rfl⟩
theorem groupT_len {I:List Itm} {c:Key} (hc:c∈zco I):(zdm I c).length <= I.length:=by
 have h1:=(zfj (zep hc).1).length_le_of_subset (l₂:=zco I) fun y hy=>(((zep hc).2 y).1 hy).znc hc
 have:=zma I
 omega
theorem ofT_len1 {I:List Itm} {g:List Key} (hg:g∈ofT I):g.length <= I.length:=by
 obtain ⟨c,hc,_,rfl⟩:=ofT_mem hg
 exact groupT_len hc
theorem texts_apart {g:Nat} (s:zms C 1 g) {Lk:LK} {z:AVal} {h0 h:za} {l:List Ob} {Q:zQ} (ho:Owns h0 h (l++Lk.map (obK 1))) (hz: ∀ h',(∀ o∈l,Ob.at h' o)->SlX h' 1 z (Lk.map fun q=>[q.1]) []) (hn:Lk.length <= 100000000) (hl: ∀ q∈Lk,q.2.length <= 100000000)
  (hq: ∀ h',h0.le h'->Q (.bool true) h'):C g [z] h Q:=by
 obtain ⟨q1,q2⟩:=ho.out
 refine s (Lk.ll z) (h.zmb (Lk.map (obK 1))) h Q ⟨?_,hn,fun j hj=> ?_⟩ (by rw [LK.obs];exact q2) fun h' hle=>hq h' (za.le_trans q1.le hle)
 ·have:=hz _ fun o hm=>q1.is o hm
  rw [<- LK.zh5] at this
  exact this
 ·show (Lk.getD j (.nils,[])).2.length <= _
  have hj:j<Lk.length:=hj
  rw [List.getD_eq_getElem?_getD,List.getElem?_eq_getElem hj]
  exact hl _ (List.getElem_mem hj)
def lkT (P:List (AVal×List Key)):LK:=P.map fun p=>(p.1,p.2.map tc)
theorem lkT_ob (P:List (AVal×List Key)):(lkT P).map (obK 1)=P.map zij:=by
 unfold lkT
 rw [List.map_map];rfl
theorem lkT_fst (P:List (AVal×List Key)):(lkT P).map (fun q=>[q.1])=P.map fun p=>[p.1]:=by
 unfold lkT
 rw [List.map_map];rfl
theorem refOf_at {h0 h:za} {x:AVal} {P:List (AVal×List Key×List (List AVal))} (o:Owns h0 h (.sl 1 x (P.map fun p=>[p.1]) []::P.map grO)):TxAt h x (P.map (·.2.1)):=by
 have h1:SlX h 1 x (P.map fun p=>[p.1]) []:=o.slAt 0 rfl
 exact TxAt.of (f:=fun p:AVal×List Key×List (List AVal)=>p.1) (g:=fun p=>p.2.1) (r:=fun p=>p.2.2) h1 fun p hp=>o.is (grO p) (List.mem_cons_of_mem _ (List.mem_map_of_mem hp))
def zd6.Spec (C:CSem) (N:zN):Prop:= ∀ (x y:AVal) (L:List Itm) (M:List Key) (R:List (List AVal)) (h:za) (Q:zQ),Dl zto h x L->L.length<4611686018427387904->(∀ t∈L,t.inLen) ->
 SlX h 1 y (M.map tc) R->M.length<4611686018427387904->(∀ c∈M,c.length<4611686018427387904)->Q (.bool true) h->C (N 595) [x,y] h Q
theorem zd6.spec (i:zd6.Imp C N) (s0:zez.Spec C N) (s1:zdk.Spec C N) (s2:zcq.Spec C N) (s3:zd3.Spec C N) (s4:zd5.Spec C N) (s5:zc9.Spec C N) (s6:zc6.Spec C N) (s7:zdt.Spec C N)
  (s8:zcu.Spec C N) (s9:zd8.Spec C N) (s10:zfb.Spec C N) (s11:zd1.Spec C N) (s12:zc0.Spec C N) (s13:zdw.Spec C N) (s14:zms C 1 (N 396)):zd6.Spec C N:=by
 intro x y L M R h Q hx hL hin hy hM hMl hq
 apply i
 simp -dsimp only [zd6.cps,zd6.k1]
 refine s1 x y L M R h _ hx hL hin hy hM hMl fun b hb=> ?_
 cases b with
 | true=>simp -dsimp;exact s0 _ _ (zbe hq)
 | false=>
 obtain ⟨hB,hM2⟩:=hb rfl
 have hx:=hB.at hx
 have hn:=hB.n
 simp -dsimp
 refine s2 x L h _ hx (by omega) fun x1 P PM h1 e1 e2 o1=> ?_
 have hok1: ∀ p∈P,ze8.ok p.1:=fun p hp=>hx.ok _ (by rw [<- e1];exact List.mem_map_of_mem hp)
 have z1:zth ze8 zlk h1 x1 L:=zth.of zs4 hx.ok e1 e2 o1
 have d1:Dl ze8 h1 x1 L:=z1.dl
 refine s3 y M R h1 _ (hy.mono o1.le) (by omega) fun y1 h2 o2=> ?_
 have d2:=d1.mono o2.le
 have t2:SlX h2 1 y1 (M.map tc) zhn:=o2.slAt 0 rfl
 refine s4 x1 L h2 _ d2 (by omega) fun a PA h3 eA o3=> ?_
 refine s4 x1 L h3 _ (d2.mono o3.le) (by omega) fun c PB h4 eB o4=> ?_
 have o34:=o3.join o4
 refine s5 x1 y1 L M zhn h4 _ (d2.mono o34.le) (by omega) (t2.mono o34.le) (by omega) fun w h5 o5=> ?_
 have o35:=o34.join o5
 refine s5 x1 y1 L M zhn h5 _ (d2.mono o35.le) (by omega) (t2.mono o35.le) (by omega) fun v h6 o6=> ?_
 have o36:=o35.join o6
 have l26:=o36.le
 have l16:=za.le_trans o2.le l26
 have l06:=za.le_trans o1.le l16
 refine s6 x1 x L L h6 _ (z1.mono l16) (hx.mono l06) (by omega) ?_
 simp -dsimp
 refine s7 y1 y M M R h6 _ (t2.mono l26) (hy.mono l06) (by omega) ?_
 simp -dsimp
 have oo:=o1.join (o2.join o36)
 obtain ⟨q1,q2⟩:=(oo.perm List.perm_append_comm).out
 refine s8 _ _ _ _ h6 _ q2 hok1 (by have:=congrArg List.length e2;rw [List.length_map] at this;exact this) (by have:=congrArg List.length e1;simp at this;omega) fun h7 le7=> ?_
 have p7:=q1.grow le7
 obtain ⟨q3,q4⟩:=(p7.perm (List.perm_append_comm (l₁:=[Ob.sl 1 y1 (M.map tc) zhn]))).out
 refine s9 _ h7 y1 _ _ _ q4 rfl (by simp;omega) fun h8 le8=> ?_
 have p8:=q3.grow le8
 refine s10 x L h8 _ (hx.mono p8.le) (by omega) fun zr Pz h9 ez o9=> ?_
 have p9:=p8.grow o9.le
 have t9:=refOf_at o9
 rw [ez] at t9
 have ta:TxAt h9 a (ofT L):=by
  have:=rowsT_at (P:=PA) (x:=a) p9 fun b hb=>List.mem_append_left _ (List.mem_append_left _ (List.mem_append_left _ hb))
  rw [eA] at this
  exact this
 have ol:=ofT_len L
 refine s11 a zr _ _ h9 _ ta t9 (by omega) (fun l hl=>by have:=ofT_len1 hl;omega) ?_
 simp -dsimp
 refine s12 x y L M R h9 _ (hx.mono p9.le) (by omega) (hy.mono p9.le) (by omega) fun wr h10 Rw le10 sw=> ?_
 have p10:=p9.grow le10
 have wl:=withT_le L M
 have tw:SlX h10 1 w ((zfv L M).map tc) []:=p10.is (.sl 1 w ((zfv L M).map tc) []) (by simp)
 simp -dsimp
 refine s13 w wr _ _ [] Rw h10 _ tw sw (by omega) ?_
 simp -dsimp
 have lA:PA.length=(ofT L).length:=by rw [<- eA,List.length_map]
 have lB:PB.length=(ofT L).length:=by rw [<- eB,List.length_map]
 have p11:=p10.sz 1
 have hsa:SlX h10 1 a (PA.map fun p:AVal×List Key=>[p.1]) []:=p10.is (.sl 1 a (PA.map fun p:AVal×List Key=>[p.1]) []) (by simp [zlb])
 have hsc:SlX h10 1 c (PB.map fun p:AVal×List Key=>[p.1]) []:=p10.is (.sl 1 c (PB.map fun p:AVal×List Key=>[p.1]) []) (by simp [zlb])
 have step: ∀ {h0 h':za} {z:AVal} {Z M':List (List AVal)} {y:AVal} {R':List (List AVal)} {K:zQ},Owns h0 h' (zlb a PA++zlb c PB++[Ob.sl 1 w ((zfv L M).map tc) []]++[Ob.sl 1 v ((zfv L M).map tc) []]++[Ob.sl 1 z Z []])->SlX h' 1 y M' R'->Z.length+M'.length <= 100000 ->
   (∀ z' h'',Owns h0 h'' (zlb a PA++zlb c PB++[Ob.sl 1 w ((zfv L M).map tc) []]++[Ob.sl 1 v ((zfv L M).map tc) []]++[Ob.sl 1 z' (Z++M') []])->K z' h'')->A.appW h' 1 24 z y K:=by
  intro h0 h' z Z M' y R' K ho hy' hle hK
  refine ho.appW (PA.length+PB.length+4) (by
   rw [List.getElem?_append_right (by simp [zlb];omega)]
   have:PA.length+PB.length+4-(zlb a PA++zlb c PB++[Ob.sl 1 w ((zfv L M).map tc) []]++[Ob.sl 1 v ((zfv L M).map tc) []]).length=0:=by simp [zlb];omega
   rw [this];rfl) hy' (by omega) (by omega) (by simp [maxLen];omega) fun z' h'' o' _=>hK z' h'' ?_
  have e: ∀ (l:List Ob) (u u':Ob) (n:Nat),n=l.length->(l++[u]).set n u'=l++[u']:=fun l u u' n hn=>by subst hn;simp
  rw [e _ _ _ _ (by simp [zlb];omega)] at o'
  exact o'
 refine step p11 hsa (by simp;omega) fun z2 h11 p12=> ?_
 have hsc':SlX h11 1 c (PB.map fun p:AVal×List Key=>[p.1]) []:=p12.is (.sl 1 c (PB.map fun p:AVal×List Key=>[p.1]) []) (by simp [zlb])
 simp -dsimp
 refine step p12 hsc' (by simp;omega) fun z3 h12 p13=> ?_
 have cw:w.zc8=true:=(p13.is (.sl 1 w ((zfv L M).map tc) []) (by simp)).zc8
 have cv:v.zc8=true:=(p13.is (.sl 1 v ((zfv L M).map tc) []) (by simp)).zc8
 simp -dsimp [cw,cv,repL]
 intro id hid
 have p14:=p13.grow (zjh (zfm [w,v]) hid)
 have hwv:SlX (upd h12 id (zfm [w,v])) 1 (.sl id 0 0 2 1 2) [[w],[v]] []:=SlX.lit (zb7 ..) (by simp) rfl (by simp) rfl
 simp -dsimp
 refine step p14 hwv (by simp;omega) fun z5 h13 p15=> ?_
 have hperm:(zlb a PA++zlb c PB++[Ob.sl 1 w ((zfv L M).map tc) []]++[Ob.sl 1 v ((zfv L M).map tc) []]++[Ob.sl 1 z5 (([]++PA.map fun p:AVal×List Key=>[p.1])++(PB.map fun p:AVal×List Key=>[p.1])++[[w],[v]]) []]).Perm
   ([Ob.sl 1 z5 ((lkT (PA++PB++[(w,zfv L M),(v,zfv L M)])).map fun q=>[q.1]) []]++[Ob.sl 1 a (PA.map fun p:AVal×List Key=>[p.1]) [],Ob.sl 1 c (PB.map fun p:AVal×List Key=>[p.1]) []]++(lkT (PA++PB++[(w,zfv L M),(v,zfv L M)])).map (obK 1)):=by
  rw [lkT_ob,lkT_fst]
  simp only [zlb,List.map_append,List.map_cons,List.map_nil,List.nil_append,List.append_assoc,List.cons_append]
  refine List.perm_middle.trans ?_
  refine List.Perm.trans (l₂:=Ob.sl 1 a (PA.map fun p:AVal×List Key=>[p.1]) []::(PA.map zij++(Ob.sl 1 c (PB.map fun p:AVal×List Key=>[p.1]) []::(PB.map zij++[zij (w,zfv L M),zij (v,zfv L M),Ob.sl 1 z5 ((PA.map fun p:AVal×List Key=>[p.1])++((PB.map fun p:AVal×List Key=>[p.1])++[[w],[v]])) []])))) ?_ ?_
  ·refine List.Perm.cons _ (List.Perm.append_left _ ?_)
   exact List.perm_middle
  ·refine List.Perm.trans (l₂:=Ob.sl 1 a (PA.map fun p:AVal×List Key=>[p.1]) []::(Ob.sl 1 c (PB.map fun p:AVal×List Key=>[p.1]) []::(PA.map zij++(PB.map zij++[zij (w,zfv L M),zij (v,zfv L M),Ob.sl 1 z5 ((PA.map fun p:AVal×List Key=>[p.1])++((PB.map fun p:AVal×List Key=>[p.1])++[[w],[v]])) []])))) (List.Perm.cons _ List.perm_middle) ?_
   have: ∀ (l:List Ob) (u:Ob),(l++[u]).Perm (u::l):=fun l u=>List.perm_append_comm
   have:=this (Ob.sl 1 a (PA.map fun p:AVal×List Key=>[p.1]) []::Ob.sl 1 c (PB.map fun p:AVal×List Key=>[p.1]) []::(PA.map zij++(PB.map zij++[zij (w,zfv L M),zij (v,zfv L M)]))) (Ob.sl 1 z5 ((PA.map fun p:AVal×List Key=>[p.1])++((PB.map fun p:AVal×List Key=>[p.1])++[[w],[v]])) [])
   simpa only [List.cons_append,List.append_assoc,List.nil_append] using this
 have p16:=p15.perm hperm
 simp -dsimp
 refine texts_apart s14 p16 (fun h' hat=>hat (Ob.sl 1 z5 ((lkT (PA++PB++[(w,zfv L M),(v,zfv L M)])).map fun q:AVal×List (List AVal)=>[q.1]) []) (by simp)) (by simp [lkT];omega) (fun q hq=> ?_) fun h14 le14=> ?_
 ·unfold lkT at hq
  obtain ⟨p,hp,rfl⟩:=List.mem_map.1 hq
  show (p.2.map tc).length <= _
  rw [List.length_map]
  simp only [List.mem_append,List.mem_cons,List.not_mem_nil,or_false] at hp
  rcases hp with (hp|hp)|hp|hp
  ·have:=ofT_len1 (I:=L) (g:=p.2) (by rw [<- eA];exact List.mem_map_of_mem hp)
   omega
  ·have:=ofT_len1 (I:=L) (g:=p.2) (by rw [<- eB];exact List.mem_map_of_mem hp)
   omega
  ·rw [hp];show (zfv L M).length <= _;omega
  ·rw [hp];show (zfv L M).length <= _;omega
 ·simp -dsimp
  refine s0 _ _ ?_
  simp -dsimp
  exact dn_le le14 hq
end Go.Ab
namespace Go.Ab
variable {C:CSem} {N:zN}
instance:Inhabited Ob:=⟨.box .nils []⟩
end Go.Ab
set_option maxRecDepth 100000
namespace Go.Ab
variable {C:CSem} {N:zN}
abbrev LKs:=Nat->LK
namespace LKs
end LKs
section
variable {T Ad:Type}
variable {K:DK T Ad} {inn:T->Ad->LKs}
end
end Go.Ab
