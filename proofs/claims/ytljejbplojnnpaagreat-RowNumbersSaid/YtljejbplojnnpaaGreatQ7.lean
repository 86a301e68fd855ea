/- What is proved: a part of the way to the statement: L16z. No conditions. -/
import Derived.Test.YtljejbplojnnpaaGreatRows
import Derived.Test.YtljejbplojnnpaaGreatQ3
import Derived.Test.YtljejbplojnnpaaGreatQ6
import Derived.Lib.Bytealg
import Derived.Test.YtljejbplojnnpaaGreatQ2
import Derived.KernelRfl
set_option linter.unusedVariables false
set_option linter.unusedSimpArgs false
set_option maxRecDepth 100000
namespace Go.Ab.B4
open List
open Go.Ab Go.Proofs Tryz
noncomputable abbrev P:Program:=Tryz.prog
def Il:List (Nat×List Nat)->Nat->List Nat|[],_=>[]|(a,b)::r,k=>bif Nat.beq a k then b else Il r k
def pz(e:List (Nat×List Nat)):Nat->List (Nat×List Nat)|0=>[]|n+1=>pz e n++[(n,Il e n)]
@[reducible] def sW(P:Program)(I:Bx)(f:Func)(F:aC->(zQ)->bB->a9->Prop):Prop:=∀{C:aC}(a:gD C)(Q:zQ)(s:bB)(h:a9),F C Q s h->dM P C I (f.body.getD .skip) (pb P I f.results.toList Q) s h
theorem eT{P:Program}{C:aC}{I:Bx}(b:gD C){c:Code}{Q:Ex->bB->a9->Prop}{s:bB}{h:a9}(X:bB->a9->Prop){p:Prop}(a:p)(hb:∀s h,X s h->dM P C I (cB c) Q s h)(e:dM P C I (cA c) (Ex.then X Q) s h=p:=by kernel_rfl)(hk:lA c=true:=by kernel_rfl):dM P C I c Q s h:=eS b X (e1 a e) hb hk
@[reducible] def Ik(F:zG):List a7->zG|[],u,v,w=>F  u v w|_,_,_,_=>False
@[reducible] def ga(F:a7->zG):List a7->zG|[a],u,v,w=>F a u v w|_,_,_,_=>False
@[reducible] def cV(F:a7->a7->zG):List a7->zG|[a,b],u,v,w=>F a b u v w|_,_,_,_=>False
@[reducible] def gq(F:a7->a7->a7->zG):List a7->zG|[a,b,c],u,v,w=>F a b c u v w|_,_,_,_=>False
@[reducible] def nq(F:a7->a7->a7->a7->zG):List a7->zG|[a,b,c,d],u,v,w=>F a b c d u v w|_,_,_,_=>False
@[reducible] def B8(F:a7->a7->a7->a7->a7->zG):List a7->zG|[a,b,c,d,e],u,v,w=>F a b c d e u v w|_,_,_,_=>False
@[reducible] def Qs(F:a7->a7->a7->a7->a7->a7->zG):List a7->zG|[a,b,c,d,e,f],u,v,w=>F a b c d e f u v w|_,_,_,_=>False
@[reducible] def Ij(F:a7->a7->a7->a7->a7->a7->a7->a7->a7->zG):List a7->zG|[a,b,c,d,e,f,g,i,j],u,v,w=>F a b c d e f g i j u v w|_,_,_,_=>False
def N(k:Nat):Nat:=[0,0,0,0,0,169,0,0,0,0,0,0,0,0,0,0,0,0,180,0,167,0,0,0,0,0,0,24,83,149,28,29,90,158,33,36,0,139,87,143,144,91,32,35,0,41,0,0,44,82,150,50,103,106,52,88,55,89,159,114,112,177,64,95,140,152,153,155,154,157,156,145,160,146,79,92,94,100,148,107,116,117,118,119,120,121,122,123,124,125,126,127,128,129,130,131,132,133,134,135,136,137,138,198,199,161,179,181,182,99,109,101,183,184,185,186,22,66,62,187,188,189,190,191,192,193,194,195,196,197,201,203,173,174,78,80,210,211,212,0,0,0,0,0,0,0,0,0,0,0,0,0,0,0,0,0,0,0,0,0,0,0,0,0,0,0,0,0,0,0,0,0,0,0,0,0,0,0,0,104,113,0,0,0,0,0,45,0,0,53,56,0,0,0,0,0,0,0,0,0,0,0,0,0,0,0,0,202,0,0,0,0,0,0,0,0,0,0,0,0,0,0,0,0,0,0,0,0,0,163,0,0,0,0,0,0,0,0,0,0,0,0,0,0,0,0,0,0,0,0,0,0,0,0,17,0,0,0,19,0,0,0,0,14,0,0,0,0,0,0,0,65,0,73,67,0,0,0,0,0,75,0,0,0,0,0,0,0,0,0,0,0,0,0,0,0,0,0,0,0,0,0,0,141,0,0,40,15,0,0,0,97,63,0,0,115,0,0,0,165,0,0,0,0,171,0,0,0,0,0,0,0,0,0,0,0,0,0,0,0,0,0,0,0,0,0,0,0,0,0,0,0,0,0,162,0,0,0,0,0,0,204,0,0,0,0,0,0,214,215,0,0,0,0,0,0,0,0,0,0,0,0,0,0,0,0,0,0,0,0,0,43,51,54,0,0,0,0,0,98,108,110,0,0,0,218,166,172,175,176,0,0,10,18,26,25,7,16,8,0,96,0,39,49,48,47,46,27,85,84,72,74,68,69,70,71,86,164,102,105,142,168,205,151,170,216,9,11,12,13,3,20,21,23,4,30,31,34,5,42,38,37,6,61,60,59,58,57,76,77,81,93,111,147,178,200,206,207,208,209,213,217].getD k 0
theorem mixed:P.follows .mixedOrders=true:=by kernel_rfl
abbrev Bw(C:aC)(I:Bx)(c:Code)(Q:Ex->bB->a9->Prop)(X:bB->a9->Prop):Prop:=∀s h,X s h->dM P C I c Q s h
section
variable{C:aC}{I:Bx}{c:Code}{Q:Ex->bB->a9->Prop}{X0:bB->a9->Prop}
theorem f1(e:(λs h=>dM P C I c Q s h)=X0:=by kernel_rfl):Bw C I c Q X0:=λs h r=>(congrFun (congrFun e s) h).mpr r
theorem fS(b:gD C)(X:bB->a9->Prop)(a:Bw C I (cA c) (Ex.then X Q) X0)(hb:Bw C I (cB c) Q X)(hk:lA c=true:=by kernel_rfl):Bw C I c Q X0:=λs h r=>eS b X (a s h r) hb hk
theorem fT(a:gD C)(X:bB->a9->Prop)(hb:Bw C I (cB c) Q X)(e:(λs h=>dM P C I (cA c) (Ex.then X Q) s h)=X0:=by kernel_rfl)(hk:lA c=true:=by kernel_rfl):Bw C I c Q X0:=fS a X (f1 e) hb hk
theorem fK(hb:Bw C I (cA c) (Ex.inBlock (cI c) Q) X0)(hk:xN c=true:=by kernel_rfl):Bw C I c Q X0:=λs h r=>eK (hb s h r) hk
theorem fL(a:gD C)(dQ live:List Nat)(G:List a7->zG)(hG:∀Y,Bw C I (cA c) (Ex.then (λs h=>Y (live.map s) h) Q) λs h=>G (dQ.map s) (live.map s) h Y)(e:(λs h=>aB (G (dQ.map s)) (live.map s) h)=X0:=by kernel_rfl)(hk:xM c=true:=by kernel_rfl)(hw:(dQ.all λk=> !dK (ma P I (cA c)) k)=true:=by kernel_rfl):Bw C I c Q X0:=λs h r=>eL a dQ live G ((congrFun (congrFun e s) h).mpr r) hG hk hw
theorem fM(a:gD C)(dQ live:List Nat)(G:List a7->zG)(hG:∀Y,Bw C I (cA (cA (cB c))) (Ex.then (λs h=>Y (live.map s) h) (Ex.inBlock (cI (cB c)) Q)) λs h=>G (dQ.map s) (live.map s) h Y)(e:(λs h=>dM P C I (cA c) (Ex.then (λs h=>aB (G (dQ.map s)) (live.map s) h) Q) s h)=X0:=by kernel_rfl)(hk:lA c=true:=by kernel_rfl)(h1:xN (cB c)=true:=by kernel_rfl)(b:xM (cA (cB c))=true:=by kernel_rfl)(hw:(dQ.all λk=> !dK (ma P I (cA (cA (cB c)))) k)=true:=by kernel_rfl):Bw C I c Q X0:=fT a _ (fK (fL a dQ live G hG rfl b hw) h1) e hk
theorem fC{p q:bB->a9->Prop}(t:Nat)(hx:Bw C I (cA c) Q p)(a:Bw C I (cB c) Q q)(hk:Iu t c=true:=by kernel_rfl):Bw C I c Q λs h=>A.cond (s t) (p s h) (q s h):=λs h r=>eC t r (hx s h) (a s h) hk
end
noncomputable def sd(f:FuncId)(fn:Func)(I:Bx)(n:Nat):Bool:=fn.body.isSome&&(!(fn.name== "runtime.NumGoroutine")&&(nj fn.ntmps (fn.body.getD .skip)&&(!Nat.beq f sy&&(Nat.ble n fn.ntmps&&(Nat.ble n I.B&&np P I (fn.body.getD .skip))))))
theorem eH{f:FuncId}{fn:Func}{I:Bx}{args:List a7}{h:a9}{Q:zQ}(e:P.funcs[f]?=some fn)(k:sd f fn I args.length=true)(hx:gD (AC P)->dM P (AC P) I (fn.body.getD .skip) (pb P I fn.results.toList (dn Q)) (fv args) h):AC P f args h Q:=by
 simp only[sd,Bool.and_eq_true,Bool.not_eq_true']at k;obtain⟨k1,k2,k3,k4,k5,k6,k7⟩:=k;obtain⟨c,a⟩:=Option.isSome_iff_exists.1 k1;exact eF mixed hx e (by rw[a];rfl) k2 k3 k4 k5 k6 k7
abbrev l0(F:zG)(U:List a7)(V:List Nat):bB->a9->Prop:=λs h=>aB (F) (U++V.map s) h
abbrev l1(F:a7->zG)(a:Nat)(U:List a7)(V:List Nat):bB->a9->Prop:=λs h=>aB (F (s a)) (U++V.map s) h
abbrev l2(F:a7->a7->zG)(a b:Nat)(U:List a7)(V:List Nat):bB->a9->Prop:=λs h=>aB (F (s a) (s b)) (U++V.map s) h
abbrev l3(F:a7->a7->a7->zG)(a b c:Nat)(U:List a7)(V:List Nat):bB->a9->Prop:=λs h=>aB (F (s a) (s b) (s c)) (U++V.map s) h
abbrev l4(F:a7->a7->a7->a7->zG)(a b c d:Nat)(U:List a7)(V:List Nat):bB->a9->Prop:=λs h=>aB (F (s a) (s b) (s c) (s d)) (U++V.map s) h
abbrev l5(F:a7->a7->a7->a7->a7->zG)(a b c d e:Nat)(U:List a7)(V:List Nat):bB->a9->Prop:=λs h=>aB (F (s a) (s b) (s c) (s d) (s e)) (U++V.map s) h
abbrev m1(F:zQ)(a:Nat):bB->a9->Prop:=λs h=>F (s a) h
abbrev m2(F:a7->zQ)(a b:Nat):bB->a9->Prop:=λs h=>F (s a) (s b) h
abbrev m3(F:a7->a7->zQ)(a b c:Nat):bB->a9->Prop:=λs h=>F (s a) (s b) (s c) h
abbrev m4(F:a7->a7->a7->zQ)(a b c d:Nat):bB->a9->Prop:=λs h=>F (s a) (s b) (s c) (s d) h
abbrev m5(F:a7->a7->a7->a7->zQ)(a b c d e:Nat):bB->a9->Prop:=λs h=>F (s a) (s b) (s c) (s d) (s e) h
abbrev m6(F:a7->a7->a7->a7->a7->zQ)(a b c d e f:Nat):bB->a9->Prop:=λs h=>F (s a) (s b) (s c) (s d) (s e) (s f) h
abbrev m7(F:a7->a7->a7->a7->a7->a7->zQ)(a b c d e f g:Nat):bB->a9->Prop:=λs h=>F (s a) (s b) (s c) (s d) (s e) (s f) (s g) h
abbrev m8(F:a7->a7->a7->a7->a7->a7->a7->zQ)(a b c d e f g i:Nat):bB->a9->Prop:=λs h=>F (s a) (s b) (s c) (s d) (s e) (s f) (s g) (s i) h
abbrev m9(F:a7->a7->a7->a7->a7->a7->a7->a7->zQ)(a b c d e f g i j:Nat):bB->a9->Prop:=λs h=>F (s a) (s b) (s c) (s d) (s e) (s f) (s g) (s i) (s j) h
abbrev Eh(F:a7->a7->a7->a7->a7->a7->a7->a7->a7->zQ)(a b c d e f g i j k:Nat):bB->a9->Prop:=λs h=>F (s a) (s b) (s c) (s d) (s e) (s f) (s g) (s i) (s j) (s k) h
abbrev iO:List a7:=[i6 0]
theorem Iw{f:FuncId}(fn:Func)(F:aC->(Nat->Nat)->a9->(zQ)->Prop)(I:Bx)(L:∀{C}(a:gD C)(Q:zQ),Bw C I (fn.body.getD .skip) (pb P I fn.results.toList Q) λs h=>F C N  h Q)(e:P.funcs[f]?=some fn:=by kernel_rfl)(k:sd f fn I 0=true:=by kernel_rfl):∀  h Q,F (AC P) N  h (dn Q)->AC P f [] h Q:=λ h Q r=>eH e k λa=>L a (dn Q) (fv []) h r
theorem Q6{f:FuncId}(fn:Func)(F:aC→zN→zQ→a9→Prop)(I:Bx)(L:∀{C}(a:gD C)(Q:zQ),Bw C I (fn.body.getD .skip) (pb P I fn.results.toList Q) λs h=>F C N Q  h)(e:P.funcs[f]?=some fn:=by kernel_rfl)(k:sd f fn I 0=true:=by kernel_rfl):∀  h Q,F (AC P) N (dn Q)  h→AC P f [] h Q:=λ h Q r=>eH e k λa=>L a (dn Q) (fv []) h r
theorem ix{f:FuncId}(fn:Func)(F:aC->(Nat->Nat)->a7->a9->(zQ)->Prop)(I:Bx)(L:∀{C}(b:gD C)(Q:zQ),Bw C I (fn.body.getD .skip) (pb P I fn.results.toList Q) λs h=>F C N (s 0) h Q)(e:P.funcs[f]?=some fn:=by kernel_rfl)(k:sd f fn I 1=true:=by kernel_rfl):∀a h Q,F (AC P) N a h (dn Q)->AC P f [a] h Q:=λa h Q r=>eH e k λb=>L b (dn Q) (fv [a]) h r
theorem fz{f:FuncId}(fn:Func)(F:aC→zN→zQ→a7→a9→Prop)(I:Bx)(L:∀{C}(a:gD C)(Q:zQ),Bw C I (fn.body.getD .skip) (pb P I fn.results.toList Q) λs h=>F C N Q (s 0) h)(e:P.funcs[f]?=some fn:=by kernel_rfl)(k:sd f fn I 1=true:=by kernel_rfl):∀v0 h Q,F (AC P) N (dn Q) v0 h→AC P f [v0] h Q:=λv0 h Q r=>eH e k λa=>L a (dn Q) (fv [v0]) h r
theorem mj{f:FuncId}(fn:Func)(F:aC->(Nat->Nat)->a7->a7->a9->(zQ)->Prop)(I:Bx)(L:∀{C}(c:gD C)(Q:zQ),Bw C I (fn.body.getD .skip) (pb P I fn.results.toList Q) λs h=>F C N (s 0) (s 1) h Q)(e:P.funcs[f]?=some fn:=by kernel_rfl)(k:sd f fn I 2=true:=by kernel_rfl):∀a b h Q,F (AC P) N a b h (dn Q)->AC P f [a,b] h Q:=λa b h Q r=>eH e k λc=>L c (dn Q) (fv [a,b]) h r
theorem fm{f:FuncId}(fn:Func)(F:aC→zN→zQ→a7→a7→a9→Prop)(I:Bx)(L:∀{C}(a:gD C)(Q:zQ),Bw C I (fn.body.getD .skip) (pb P I fn.results.toList Q) λs h=>F C N Q (s 0) (s 1) h)(e:P.funcs[f]?=some fn:=by kernel_rfl)(k:sd f fn I 2=true:=by kernel_rfl):∀v0 v1 h Q,F (AC P) N (dn Q) v0 v1 h→AC P f [v0,v1] h Q:=λv0 v1 h Q r=>eH e k λa=>L a (dn Q) (fv [v0,v1]) h r
theorem zm{f:FuncId}(fn:Func)(F:aC->(Nat->Nat)->a7->a7->a7->a9->(zQ)->Prop)(I:Bx)(L:∀{C}(d:gD C)(Q:zQ),Bw C I (fn.body.getD .skip) (pb P I fn.results.toList Q) λs h=>F C N (s 0) (s 1) (s 2) h Q)(e:P.funcs[f]?=some fn:=by kernel_rfl)(k:sd f fn I 3=true:=by kernel_rfl):∀a b c h Q,F (AC P) N a b c h (dn Q)->AC P f [a,b,c] h Q:=λa b c h Q r=>eH e k λd=>L d (dn Q) (fv [a,b,c]) h r
theorem zl{f:FuncId}(fn:Func)(F:aC→zN→zQ→a7→a7→a7→a9→Prop)(I:Bx)(L:∀{C}(a:gD C)(Q:zQ),Bw C I (fn.body.getD .skip) (pb P I fn.results.toList Q) λs h=>F C N Q (s 0) (s 1) (s 2) h)(e:P.funcs[f]?=some fn:=by kernel_rfl)(k:sd f fn I 3=true:=by kernel_rfl):∀v0 v1 v2 h Q,F (AC P) N (dn Q) v0 v1 v2 h→AC P f [v0,v1,v2] h Q:=λv0 v1 v2 h Q r=>eH e k λa=>L a (dn Q) (fv [v0,v1,v2]) h r
theorem Q5{f:FuncId}(fn:Func)(F:aC→zN→zQ→a7→a7→a7→a7→a7→a9→Prop)(I:Bx)(L:∀{C}(b:gD C)(Q:zQ),Bw C I (fn.body.getD .skip) (pb P I fn.results.toList Q) λs h=>F C N Q (s 0) (s 1) (s 2) (s 3) (s 4) h)(e:P.funcs[f]?=some fn:=by kernel_rfl)(k:sd f fn I 5=true:=by kernel_rfl):∀v0 v1 v2 a v4 h Q,F (AC P) N (dn Q) v0 v1 v2 a v4 h→AC P f [v0,v1,v2,a,v4] h Q:=λv0 v1 v2 a v4 h Q r=>eH e k λb=>L b (dn Q) (fv [v0,v1,v2,a,v4]) h r
noncomputable abbrev A0:aC:=AC P
theorem qj.imp:qj.aD A0 N:=fz f3 qj.k1 ⟨[1,3],[],41,[(4,[(0,[]),(2,[]),(1,[2]),(3,[]),(4,[]),(5,[])])]⟩ λ{C} a Q=>f1
theorem kU.imp:kU.aD A0 N:=ix f4 kU.aY ⟨[4,6,8],[],60,[]⟩ λ{C} a Q=>f1
theorem mn.imp:mn.aD A0 N:=Q5 f5 mn.k1 ⟨[8,11,17,19,25],[31,37,43],167,[]⟩ λ{C} a Q=>f1
theorem cF.imp:cF.aD A0 N:=Iw f6 cF.aY ⟨[6],[173,179],251,[(7,pz [] 26),(12,[(1,[]),(2,[]),(3,[]),(5,[]),(6,[]),(7,[]),(8,[]),(0,[]),(4,[]),(9,[]),(10,[]),(11,[]),(12,[]),(14,[]),(15,[]),(16,[]),(17,[]),(19,[]),(20,[]),(21,[]),(13,[]),(18,[]),(22,[]),(23,[]),(24,[]),(25,[])]),(15,pz [] 15),(20,pz [] 18),(32,pz [(11,[8])] 31),(45,pz [] 19)]⟩ λ{C} k Q=>fT k (l0 (cF.BC C N Q) iO []) (fS k (λs h=>B.call C (N 460) [] h λg h=>B.call C (N 412) [g] h λi h=>cF.wQ C N Q i h) (fM k [] [1] (Ik (cF.BC C N Q)) λm=>f1) (fT k (m1 (cF.wQ C N Q) 2) (fT k (l1 (cF.sU C N Q) 2 iO []) (fS k (m1 (cF.mK C N Q) 2) (fM k [2] [3] (ga (cF.sU C N Q)) λl=>fT k (m2 (cF.wR C N Q l) 2 3) (fS k (λs h=>B.pv (V.bin .add (s 3) (i6 1)) λj=>l [j] h) (fK (fT k (l2 (cF.wP C N Q l) 2 3 iO []) (fM k [2,3] [4] (cV (cF.wP C N Q l)) λY5=>fT k (λs h=>B.call C (N 306) [(s 2)] h λa h=>cF.wS C N Q l Y5 (s 2) (s 3) (s 4) a h) (fS k (λs h=>B.pv (V.bin .add (s 4) (i6 1)) λb=>Y5 [b] h) (fK (fT k (m4 (cF.wS C N Q l Y5) 2 3 4 5) (fT k (m4 (cF.r5 C N Q l Y5) 2 3 4 5) f1))) f1)))) f1)) (fT k (l1 (cF.BD C N Q) 2 [(i6 1)] [257]) (fS k (m2 (cF.k9 C N Q) 2 257) (fM k [2] [7,257] (ga (cF.BD C N Q)) λY3=>f1) (fT k (m4 (cF.k8 C N Q) 2 8 9 257) (fT k (λs h=>B.call C (N 459) [(s 2),(s 8)] h λc h=>B.pv (V.un .not c) λd=>B.cond d (Q (.bool false) h) (cF.k7 C N Q (s 8) h)) (fT k (m1 (cF.k7 C N Q) 8) (fT k (m2 (cF.k6 C N Q) 8 10) (fT k (m3 (cF.k5 C N Q) 8 10 11) (fT k (l4 (cF.l4 C N Q) 8 10 11 12 iO []) (fS k (λs h=>B.call C (N 418) [] h λe h=>Q e h) (fM k [8,10,11,12] [13] (nq (cF.l4 C N Q)) λY1=>fT k (l5 (cF.l2 C N Q Y1) 8 10 11 12 13 iO []) (fS k (λs h=>B.pv (V.bin .add (s 13) (i6 1)) λf=>Y1 [f] h) (fK (fM k [8,10,11,12,13] [14] (B8 (cF.l2 C N Q Y1)) λY2=>f1)) f1)) f1)))))))))))))
theorem jP.imp:jP.aD A0 N:=ix f7 jP.aY ⟨[1],[5,8,13,25,33],43,[(5,pz [] 19)]⟩ λ{C} b Q=>fT b (m1 (jP.k3 C N Q) 44) (fT b (λs h=>aB (jP.l2 C N Q (s 44)) [(s 3),(i6 0)] h) (fS b (λs h=>B.pv (V.bin .gtr (s 3) (i6 2000)) λa=>Q a h) (fM b [44] [3,4] (ga (jP.l2 C N Q)) λY1=>f1) f1))
theorem kk.imp:kk.aD A0 N:=Iw f8 kk.aY ⟨[2,6],[80],90,[(7,pz [(28,[27])] 63)]⟩ λ{C} a Q=>f1
theorem qv.imp:qv.aD A0 N:=fz f9 qv.k1 ⟨[1,2],[3,6,7,10,11,14],16,[]⟩ λ{C} a Q=>f1
theorem cM.imp:cM.aD A0 N:=ix f10 cM.aY ⟨[1,6,9,13,16],[24,32,40,45,52,55,61,69,72,79,86,100,107,115,122,127,130,131,134,135,138,145,155,160,163,166,169,172,175,179],186,[(11,[(0,[]),(1,[]),(3,[]),(4,[]),(5,[]),(6,[]),(2,[4]),(7,[]),(8,[]),(9,[])]),(15,[(0,[]),(1,[]),(2,[]),(4,[]),(5,[]),(3,[5]),(6,[]),(7,[]),(8,[]),(9,[])]),(31,[(0,[]),(3,[]),(4,[]),(8,[]),(9,[]),(11,[]),(12,[]),(13,[]),(15,[]),(16,[]),(17,[]),(19,[]),(20,[]),(22,[]),(5,[9,13,17,20]),(1,[]),(2,[]),(6,[]),(7,[9,13,17,20]),(10,[13,17,20]),(14,[17,20]),(18,[20]),(21,[]),(23,[]),(24,[])]),(36,[(0,[]),(3,[]),(4,[]),(8,[]),(9,[]),(11,[]),(12,[]),(14,[]),(15,[]),(17,[]),(18,[]),(19,[]),(20,[]),(21,[]),(23,[]),(24,[]),(25,[]),(27,[]),(28,[]),(5,[9,12,15,18,21,24,28]),(1,[]),(2,[]),(6,[]),(7,[9,12,15,18,21,24,28]),(10,[12,15,18,21,24,28]),(13,[15,18,21,24,28]),(16,[18,21,24,28]),(26,[18,21,28]),(29,[18,21]),(22,[]),(30,[]),(31,[])])]⟩ λ{C} m Q=>fT m (m1 (cM.Im C N Q) 187) (fT m (λs h=>B.bL h (some [.aA]) λk h=>cM.og C N Q (.ptr k 0 0) (.fn (N 425) [] [(.ptr k 0 0)]) (s 187) h) (fT m (λs h=>cM.og C N Q (s 3) (.fn (N 425) [] [(s 3)]) (s 187) h) (fT m (m3 (cM.og C N Q) 3 4 187) (fT m (m3 (cM.zf C N Q) 3 4 187) (fT m (m3 (cM.wQ C N Q) 3 4 187) (fT m (λs h=>B.al (s 187) (B.pv (V.aF 3 (s 187)) λc=>B.pv (V.aE c) λl=>aB (cM.sU C N Q (s 3) (s 4) c l (s 187)) [(i6 0)] h)) (fS m (λs h=>B.al (s 187) (B.pv (V.aF 4 (s 187)) λa=>B.pv (V.aE a) λd=>aB (cM.l7 C N Q (s 3) (s 4) a d (s 187)) [(i6 0)] h)) (fM m [3,4,46,47,187] [48] (B8 (cM.sU C N Q)) λY3=>fT m (m7 (cM.xK C N Q Y3) 3 4 46 47 48 49 187) (fT m (m6 (cM.wR C N Q Y3) 3 4 46 47 48 187) (fS m (λs h=>B.pv (V.bin .add (s 48) (i6 1)) λe=>Y3 [e] h) (fK (fT m (m7 (cM.Ir C N Q Y3) 3 4 46 47 48 187 192) (fT m (m8 (cM.zg C N Q Y3) 3 4 7 46 47 48 187 192) (fS m (m8 (cM.mK C N Q Y3) 3 4 7 46 47 48 187 192) (fM m [3,4,46,47,48,62,63,187,192] [7,64] (Ij (cM.zd C N Q Y3)) λY5=>f1) (fT m (m8 (cM.qe C N Q Y3) 3 4 7 46 47 48 187 192) (fS m (m8 (cM.k8 C N Q Y3) 3 4 7 46 47 48 187 192) (fM m [3,4,46,47,48,87,88,187,192] [7,89] (Ij (cM.ze C N Q Y3)) λn=>f1) f1)))))) f1))) (fS m (λs h=>B.al (s 187) (B.pv (V.aF 5 (s 187)) λb=>B.pv (V.aE b) λf=>aB (cM.l2 C N Q (s 3) (s 4) b f) [(i6 0)] h)) (fM m [3,4,108,109,187] [110] (B8 (cM.l7 C N Q)) λY2=>fT m (m7 (cM.k6 C N Q Y2) 3 4 108 109 110 111 187) (fT m (m6 (cM.k5 C N Q Y2) 3 4 108 109 110 187) (fS m (λs h=>B.pv (V.bin .add (s 110) (i6 1)) λg=>Y2 [g] h) (fK (fT m (λs h=>B.bL h (bN [(0,none,(.int .u8 0))] (bG 1 [.int .u8 0])) λi h=>cM.k4 C N Q Y2 (s 3) (s 4) (.sl i 0 0 1 1 1) (s 108) (s 109) (s 110) (s 187) (s 199) h) (fT m (m8 (cM.k4 C N Q Y2) 3 4 14 108 109 110 187 199) (fT m (m8 (cM.k3 C N Q Y2) 3 4 14 108 109 110 187 199) f1)))) f1))) (fS m (λs h=>B.ld h (s 3) λj=>Q j h) (fM m [3,4,146,147] [148] (nq (cM.l2 C N Q)) λY1=>f1) f1)))))))))
theorem qw.imp:qw.aD A0 N:=fm f11 qw.k1 ⟨[2,3],[9,11,16,18,23,25],29,[]⟩ λ{C} a Q=>f1
theorem qq.imp:qq.aD A0 N:=fz f12 qq.k1 ⟨[1],[2,5,8],11,[]⟩ λ{C} a Q=>f1
theorem gh.imp:gh.aD A0 N:=ix f13 gh.aY ⟨[1],[12,18,24,30,37,46,53,62,69],78,[(3,[(2,[]),(3,[]),(8,[]),(9,[]),(14,[]),(15,[]),(4,[9,15]),(10,[15]),(16,[]),(0,[]),(1,[]),(5,[]),(6,[]),(7,[]),(11,[]),(12,[]),(13,[]),(17,[]),(18,[]),(19,[])])]⟩ λ{C} a Q=>fT a (m1 (gh.k8 C N Q) 79) (fT a (m1 (gh.k7 C N Q) 79) (fT a (λs h=>aB (gh.l6 C N Q (s 79)) [(s 3),(i6 0)] h) (fS a (λs h=>aB (gh.l4 C N Q (s 79)) [(s 3),(i6 0)] h) (fM a [79] [3,4] (ga (gh.l6 C N Q)) λY3=>f1) (fS a (λs h=>aB (gh.l2 C N Q (s 79)) [(s 3),(i6 0)] h) (fM a [79] [3,5] (ga (gh.l4 C N Q)) λY2=>f1) (fS a (λs h=>Q (s 3) h) (fM a [79] [3,6] (ga (gh.l2 C N Q)) λY1=>f1) f1)))))
theorem kW.imp:kW.aD A0 N:=fm f14 kW.k3 ⟨[],[],27,[(6,pz [] 10)]⟩ λ{C} a Q=>fT a (m2 (kW.k3 C N Q) 0 1) (fT a (l2 (kW.l2 C N Q) 0 1 iO []) (fS a (λs h=>Q (.bool true) h) (fM a [0,1] [5] (cV (kW.l2 C N Q)) λY1=>f1) f1))
theorem lH.imp:lH.aD A0 N:=fz f15 lH.k3 ⟨[],[],21,[]⟩ λ{C} b Q=>fT b (m1 (lH.k3 C N Q) 0) (fT b (l2 (lH.l2 C N Q) 0 3 iO []) (fS b (λs h=>B.call C (N 62) [(s 3)] h λa h=>Q a h) (fM b [0,3] [4] (cV (lH.l2 C N Q)) λY1=>f1) f1))
theorem jx.imp:jx.aD A0 N:=ix f16 jx.aY ⟨[],[],38,[(5,pz [] 17)]⟩ λ{C} a Q=>fT a (l1 (jx.l3 C N Q) 0 [(i6 0),(i6 0)] []) (fT a (λs h=>aB (jx.l3 C N Q (s 0)) [(s 3),(i6 0)] h) (fS a (m2 (jx.k1 C N Q) 0 3) (fM a [0] [3,4] (ga (jx.l3 C N Q)) λY1=>f1) f1))
theorem jk.imp:jk.aD A0 N:=fz f17 jk.k5 ⟨[5],[],39,[]⟩ λ{C} c Q=>fT c (m1 (jk.k5 C N Q) 0) (fT c (λs h=>aB (jk.l4 C N Q (s 0)) [(s 3),(i6 0)] h) (fS c (λs h=>aB (jk.l2 C N Q (s 0)) [(s 3),(i6 0)] h) (fM c [0] [3,4] (ga (jk.l4 C N Q)) λY2=>f1) (fS c (λs h=>B.pv (V.aE (s 0)) λa=>B.pv (V.dS 2 (s 3) none (some a)) λb=>Q b h) (fM c [0] [3,6] (ga (jk.l2 C N Q)) λY1=>f1) f1)))
theorem et.imp:et.aD A0 N:=ix f18 et.aY ⟨[2,4,7],[28,34,40,49,53,58,69,75,81,86,94,99,107,112,120],146,[(6,pz [] 20),(10,[(0,[]),(1,[]),(2,[]),(4,[]),(5,[]),(6,[]),(7,[]),(3,[]),(8,[]),(9,[]),(10,[])]),(20,pz [(5,[1])] 10),(22,pz [(4,[1]),(5,[1])] 10),(24,pz [(4,[1]),(5,[1])] 10)]⟩ λ{C} c Q=>fT c (m2 (et.jL C N Q) 0 148) (fT c (λs h=>B.pv (V.aE (s 0)) λa=>aB (et.l9 C N Q (s 0) (s 0) a) [.aA,(i6 0),(s 148),(s 150)] h) (fT c (λs h=>B.pv (V.aE (s 0)) λa=>aB (et.l9 C N Q (s 0) (s 0) a) [(s 5),(i6 0),(s 148),(s 150)] h) (fS c (m3 (et.k1 C N Q) 5 148 150) (fM c [0,12,13] [5,14,148,150] (gq (et.l9 C N Q)) λY1=>fT c (λs h=>B.cond (s 15) (et.k8 C N Q Y1 (s 0) (s 5) (s 12) (s 13) (s 14) (s 148) (s 150) h) (et.k1 C N Q (s 5) (s 148) (s 150) h)) (fT c (m7 (et.k8 C N Q Y1) 0 5 12 13 14 148 150) (fS c (λs h=>B.pv (V.bin .add (s 14) (i6 1)) λb=>Y1 [(s 5),b,(s 148),(s 150)] h) (fK (fT c (m9 (et.k7 C N Q Y1) 0 5 6 12 13 14 148 150 153) (fT c (m8 (et.k6 C N Q Y1) 0 5 12 13 14 148 150 153) (fT c (m8 (et.k5 C N Q Y1) 0 5 12 13 14 148 150 153) (fT c (m8 (et.k4 C N Q Y1) 0 5 12 13 14 148 150 153) (fT c (Eh (et.k3 C N Q Y1) 0 5 8 9 12 13 14 148 150 153) (fT c (m9 (et.k2 C N Q Y1) 0 5 8 9 12 13 14 148 150) f1))))))) f1))) f1)))
theorem jN.imp:jN.aD A0 N:=fm f19 jN.k4 ⟨[],[],58,[(7,pz [(30,[25])] 35)]⟩ λ{C} a Q=>fT a (m2 (jN.k4 C N Q) 0 1) (fT a (m2 (jN.k3 C N Q) 0 1) (fT a (l2 (jN.l2 C N Q) 1 5 iO []) (fS a (λs h=>Q (.bool true) h) (fM a [1,5] [6] (cV (jN.l2 C N Q)) λY1=>f1) f1)))
theorem iW.imp:iW.aD A0 N:=ix f20 iW.aY ⟨[],[],32,[]⟩ λ{C} a Q=>fS a (m1 (iW.k3 C N Q) 0) (fM a [0] [2] (ga (iW.l5 C N Q)) λY2=>f1) (fT a (l1 (iW.l2 C N Q) 3 iO []) (fM a [3] [4] (ga (iW.l2 C N Q)) λY1=>f1))
theorem fV.imp:fV.aD A0 N:=ix f21 fV.aY ⟨[2],[],115,[(6,[(0,[]),(1,[]),(2,[]),(3,[]),(4,[]),(5,[]),(6,[]),(7,[]),(8,[]),(10,[]),(11,[]),(12,[]),(13,[]),(14,[]),(9,[]),(15,[]),(16,[]),(17,[])]),(18,[(0,[]),(1,[]),(2,[]),(3,[]),(4,[]),(6,[]),(7,[]),(8,[]),(9,[]),(10,[]),(5,[]),(11,[]),(12,[]),(13,[]),(14,[]),(15,[]),(16,[]),(17,[]),(18,[]),(20,[]),(21,[]),(22,[]),(23,[]),(24,[]),(19,[]),(25,[]),(26,[]),(27,[])])]⟩ λ{C} c Q=>fT c (m2 (fV.k7 C N Q) 0 117) (fT c (l2 (fV.l6 C N Q) 0 4 [.aA,(i6 0)] [117]) (fT c (λs h=>aB (fV.l6 C N Q (s 0) (s 4)) [(s 5),(i6 0),(s 117)] h) (fS c (λs h=>B.cR h (s 4) 6 λa=>B.call C (N 449) [a] h λb h=>fV.k4 C N Q (s 4) (s 5) b (s 117) h) (fM c [0,4] [5,6,117] (cV (fV.l6 C N Q)) λY2=>f1) (fT c (m4 (fV.k4 C N Q) 4 5 7 117) (fT c (l3 (fV.l3 C N Q) 4 5 7 iO [117]) (fS c (m2 (fV.k1 C N Q) 4 117) (fM c [4,5,7] [8,117] (gq (fV.l3 C N Q)) λY1=>f1) f1))))))
theorem nv.imp:nv.aD A0 N:=fm f22 nv.k1 ⟨[2,3],[5,7,11,13,18,20,25,27,32,34,39,41],45,[]⟩ λ{C} a Q=>f1
theorem ns.imp:ns.aD A0 N:=fz f23 ns.k3 ⟨[],[],21,[]⟩ λ{C} b Q=>fT b (m1 (ns.k3 C N Q) 0) (fT b (l2 (ns.l2 C N Q) 0 3 iO []) (fS b (λs h=>B.call C (N 62) [(s 3)] h λa h=>Q a h) (fM b [0,3] [4] (cV (ns.l2 C N Q)) λY1=>f1) f1))
theorem qF.imp:qF.aD A0 N:=fz f24 qF.k1 ⟨[1,2],[3,6,7,10],12,[]⟩ λ{C} a Q=>f1
theorem gM.imp:gM.aD A0 N:=zl f25 gM.k6 ⟨[5],[],40,[(7,[(0,[]),(1,[]),(2,[]),(3,[]),(4,[]),(6,[]),(5,[0]),(7,[0]),(8,[]),(9,[]),(10,[]),(11,[])])]⟩ λ{C} g Q=>fT g (m3 (gM.k5 C N Q) 3 4 45) (fT g (m4 (gM.k4 C N Q) 3 4 8 9) (fT g (λs h=>B.bL h (some [.aA]) λc h=>gM.k3 C N Q (s 3) (s 4) (s 8) (.ptr c 0 0) h) (fT g (m4 (gM.k3 C N Q) 3 4 8 10) (fS g (λs h=>B.ld h (s 10) λa=>Q (.bI [a,(i6 0)]) h) (fT g (λs h=>x5 C (s 26) (W1 λb h j=>gM.r2 C N Q (s 3) (s 4) (s 10) b h j) h (RK [(0,λh=>B.ld h (s 10) λa=>Q (.bI [a,(i6 0)]) h)])) (fK (λs h i=>Q4 g 26 27 [3,4,10] (λk b h j=>match k with|[e,f,d]=>gM.r2 C N Q e f d b h j|_=>False) i (O8 (λh i=>e0 i) Pf) (λj s h i=>e1 i)))) f1))))
theorem gF.imp:gF.aD A0 N:=zm f26 gF.aY ⟨[6,13,14],[29,36,45,61,67,73],99,[(9,pz [] 14),(10,pz [(7,[3])] 30)]⟩ λ{C} c Q=>fT c (λs h=>B.call C (N 427) [(s 0),(s 1),(i6 0)] h λb h=>gF.k4 C N Q (s 0) (s 1) (s 2) b (s 105) h) (fT c (m5 (gF.k4 C N Q) 0 1 2 8 105) (fT c (λs h=>B.pv (V.aE (s 2)) λa=>aB (gF.l3 C N Q (s 0) (s 1) (s 8) (s 2) a (s 105)) [.aA,(i6 0),(.bool true),(i6 0)] h) (fT c (λs h=>B.pv (V.aE (s 2)) λa=>aB (gF.l3 C N Q (s 0) (s 1) (s 8) (s 2) a (s 105)) [(s 9),(i6 0),(.bool true),(i6 0)] h) (fT c (λs h=>B.pv (V.aE (s 2)) λa=>aB (gF.l3 C N Q (s 0) (s 1) (s 8) (s 2) a (s 105)) [(s 9),(s 10),(s 11),(i6 0)] h) (fS c (m3 (gF.k1 C N Q) 9 11 105) (fM c [0,1,8,23,24,105] [9,10,11,25] (Qs (gF.l3 C N Q)) λY1=>f1) f1)))))
theorem nh.imp:nh.aD A0 N:=zl f27 nh.k1 ⟨[],[],38,[]⟩ λ{C} a Q=>f1
theorem qH.imp:qH.aD A0 N:=fm f28 qH.k1 ⟨[2,3],[9,11,16,18],22,[]⟩ λ{C} a Q=>f1
theorem qD.imp:qD.aD A0 N:=fz f29 qD.k1 ⟨[1],[2,5],8,[]⟩ λ{C} a Q=>f1
theorem ij.imp:ij.aD A0 N:=zm f30 ij.aY ⟨[5],[],52,[(8,[(0,[]),(1,[]),(2,[]),(3,[]),(4,[]),(7,[]),(8,[]),(9,[]),(10,[]),(11,[]),(12,[]),(13,[]),(14,[]),(5,[]),(6,[]),(15,[]),(16,[]),(17,[]),(18,[]),(19,[])])]⟩ λ{C} a Q=>fT a (m3 (ij.k4 C N Q) 0 1 57) (fT a (m4 (ij.k3 C N Q) 0 1 8 9) (fT a (l3 (ij.l2 C N Q) 0 1 8 [.aA,(i6 0)] []) (fT a (λs h=>aB (ij.l2 C N Q (s 0) (s 1) (s 8)) [(s 10),(i6 0)] h) (fS a (λs h=>Q (.bI [(s 10),(i6 0)]) h) (fM a [0,1,8] [10,11] (gq (ij.l2 C N Q)) λY1=>f1) f1))))
theorem ew.imp:ew.aD A0 N:=zm f31 ew.aY ⟨[6,12],[],131,[(9,[(0,[]),(1,[]),(2,[]),(3,[]),(4,[]),(5,[]),(6,[]),(7,[]),(8,[]),(9,[]),(10,[]),(11,[]),(12,[]),(13,[]),(14,[]),(15,[]),(17,[]),(18,[]),(16,[]),(19,[]),(20,[]),(21,[])]),(21,[(0,[]),(1,[]),(2,[]),(3,[]),(4,[]),(6,[]),(7,[]),(8,[]),(9,[]),(10,[]),(5,[]),(11,[]),(12,[]),(13,[]),(14,[]),(15,[]),(16,[]),(17,[]),(18,[]),(20,[]),(21,[]),(22,[]),(23,[]),(24,[]),(19,[]),(25,[]),(26,[]),(27,[])])]⟩ λ{C} b Q=>fT b (λs h=>B.call C (N 457) [(s 0),(s 1),(i6 0)] h λa h=>ew.jL C N Q (s 0) (s 1) (s 2) a (s 137) h) (fT b (m5 (ew.jL C N Q) 0 1 2 8 137) (fT b (l5 (ew.l9 C N Q) 0 1 2 8 137 [.aA,.aA,(i6 0)] []) (fT b (λs h=>aB (ew.l9 C N Q (s 0) (s 1) (s 2) (s 8) (s 137)) [(s 9),.aA,(i6 0)] h) (fT b (λs h=>aB (ew.l9 C N Q (s 0) (s 1) (s 2) (s 8) (s 137)) [(s 9),(s 10),(i6 0)] h) (fS b (m5 (ew.k7 C N Q) 0 1 9 10 137) (fM b [0,1,2,8,137] [9,10,11] (B8 (ew.l9 C N Q)) λY2=>f1) (fT b (m8 (ew.k6 C N Q) 0 1 9 10 13 14 137 143) (fT b (m5 (ew.k5 C N Q) 0 1 9 137 143) (fT b (m4 (ew.k4 C N Q) 9 15 137 143) (fT b (l3 (ew.l3 C N Q) 9 15 143 iO [137]) (fS b (m2 (ew.k1 C N Q) 137 143) (fM b [9,15,143] [17,137] (gq (ew.l3 C N Q)) λY1=>f1) f1))))))))))
theorem ov.imp:ov.aD A0 N:=fm f32 ov.k1 ⟨[2,3],[5,7,11,13,18,20,25,27,32,34,39,41,46,48],52,[]⟩ λ{C} a Q=>f1
theorem nw.imp:nw.aD A0 N:=fm f33 nw.k3 ⟨[],[],26,[(6,pz [] 9)]⟩ λ{C} a Q=>fT a (m2 (nw.k3 C N Q) 0 1) (fT a (l2 (rP.l4 Q) 0 1 iO []) (fS a (λs h=>Q (.bool true) h) (fM a [0,1] [5] (cV (rP.l4  Q)) λY1=>f1) f1))
theorem oA.imp:oA.aD A0 N:=zl f34 oA.k1 ⟨[],[],38,[]⟩ λ{C} a Q=>f1
theorem nt.imp:nt.aD A0 N:=fz f35 nt.k3 ⟨[],[],21,[]⟩ λ{C} b Q=>fT b (m1 (nt.k3 C N Q) 0) (fT b (l2 (nt.l2 C N Q) 0 3 iO []) (fS b (λs h=>B.call C (N 62) [(s 3)] h λa h=>Q a h) (fM b [0,3] [4] (cV (nt.l2 C N Q)) λY1=>f1) f1))
theorem nu.imp:nu.aD A0 N:=fz f36 nu.k3 ⟨[],[],21,[]⟩ λ{C} b Q=>fT b (m1 (nu.k3 C N Q) 0) (fT b (l2 (nu.l2 C N Q) 0 3 iO []) (fS b (λs h=>B.call C (N 62) [(s 3)] h λa h=>Q a h) (fM b [0,3] [4] (cV (nu.l2 C N Q)) λY1=>f1) f1))
theorem lI.imp:lI.aD A0 N:=fm f37 lI.k2 ⟨[2,4],[10,13,16,19,22,24,30,33,39,45,47,57,65,69,78,80,86,89,97,100,103,110,113,119,120,123,129],131,[(12,pz [] 10),(18,pz [] 11),(25,pz [] 10)]⟩ λ{C} f Q=>fT f (λs h=>B.pv (V.bM 0 6 (s 133)) λb=>B.call C (N 420) [b] h λc h=>B.pv (V.bU 0 6 c (s 133)) λd=>lI.k1 C N Q (s 1) d (s 135) h) (fT f (m3 (lI.k1 C N Q) 1 133 135) (fT f (λs h=>B.pv (V.bM 0 6 (s 133)) λa=>B.pv (V.bU 0 6 a (s 135)) λe=>B.pv (oneOf (cJ (V.bM 0 6 e) (some []))) λv=>Q v h) f1))
theorem pI.imp:pI.aD A0 N:=Q6 f39 pI.k1 ⟨[0],[],7,[]⟩ λ{C} a Q=>f1
theorem jO.imp:jO.aD A0 N:=ix f40 jO.aY ⟨[5],[],22,[]⟩ λ{C} a Q=>fT a (l1 (jO.l2 C N Q) 0 [.aA,(i6 0)] []) (fT a (λs h=>aB (jO.l2 C N Q (s 0)) [(s 3),(i6 0)] h) (fS a (λs h=>Q (s 3) h) (fM a [0] [3,4] (ga (jO.l2 C N Q)) λY1=>f1) f1))
theorem mV.imp:mV.aD A0 N:=ix f41 mV.aY ⟨[],[],7,[]⟩ λ{C} a Q=>f1
theorem gx.imp:gx.aD A0 N:=mj f42 gx.aY ⟨[7,15,17],[68,74],184,[(1,pz [] 8),(2,pz [] 8),(3,[(1,[]),(2,[]),(4,[]),(6,[]),(7,[]),(0,[]),(3,[]),(5,[]),(8,[]),(9,[]),(10,[]),(11,[]),(13,[]),(14,[]),(16,[]),(18,[]),(19,[]),(12,[]),(15,[]),(17,[]),(20,[]),(21,[]),(22,[]),(23,[]),(24,[]),(25,[]),(26,[]),(27,[]),(28,[]),(29,[]),(30,[])]),(15,[(0,[]),(1,[]),(2,[]),(3,[]),(4,[]),(5,[]),(6,[]),(8,[]),(9,[]),(10,[]),(11,[]),(7,[]),(12,[]),(13,[]),(14,[]),(15,[])]),(22,pz [] 40)]⟩ λ{C} a Q=>fT a (m2 (gx.k6 C N Q) 0 1) (fT a (m3 (gx.k5 C N Q) 0 1 5) (fT a (m3 (gx.k4 C N Q) 0 5 6) (fT a (l0 (gx.l3 C N Q) [(i6 1),(.agg [i6 0,i6 0,i6 0,.str [],.int .u8 0,.aA,.aA])] []) (fT a (l0 (gx.l3 C N Q) [(i6 1)] [191]) (fS a (m1 (gx.k1 C N Q) 191) (fM a [] [8,191] (Ik (gx.l3 C N Q)) λY1=>f1) f1)))))
theorem jv.imp:jv.aD A0 N:=fz f43 jv.k5 ⟨[5],[],39,[]⟩ λ{C} c Q=>fT c (m1 (jv.k5 C N Q) 0) (fT c (λs h=>aB (jv.l4 C N Q (s 0)) [(s 3),(i6 0)] h) (fS c (λs h=>aB (jv.l2 C N Q (s 0)) [(s 3),(i6 0)] h) (fM c [0] [3,4] (ga (jv.l4 C N Q)) λY2=>f1) (fS c (λs h=>B.pv (V.aE (s 0)) λa=>B.pv (V.dS 4 (s 3) none (some a)) λb=>Q b h) (fM c [0] [3,6] (ga (jv.l2 C N Q)) λY1=>f1) f1)))
theorem ox.imp:ox.aD A0 N:=fz f44 ox.k3 ⟨[],[],25,[]⟩ λ{C} d Q=>fT d (m1 (ox.k3 C N Q) 0) (fT d (λs h=>B.bO h 6 56 (s 3) (s 0) λa h=>aB (kR.l4 C 6 56 (N 77) [i6 0,.str [],i6 0,i6 0,i6 0,.bool false] 1 Q (s 0)) [a,(i6 0)] h) (fT d (λs h=>aB (kR.l4 C 6 56 (N 77) [i6 0,.str [],i6 0,i6 0,i6 0,.bool false] 1 Q (s 0)) [(s 3),(i6 0)] h) (fS d (λs h=>B.pv (V.aE (s 0)) λb=>B.pv (V.dS 6 (s 3) none (some b)) λc=>Q c h) (fM d [0] [3,4] (ga (kR.l4 C 6 56 (N 77) [i6 0,.str [],i6 0,i6 0,i6 0,.bool false] 1 Q)) λY1=>f1) f1)))
theorem pC.imp:pC.aD A0 N:=fz f45 pC.k3 ⟨[],[],25,[]⟩ λ{C} d Q=>fT d (m1 (pC.k3 C N Q) 0) (fT d (λs h=>B.bO h 8 80 (s 3) (s 0) λa h=>aB (kR.l4 C 8 80 (N 111) [i6 0,.str [],i6 0,i6 0,i6 0,.int .u8 0,i6 0,.str []] 1 Q (s 0)) [a,(i6 0)] h) (fT d (λs h=>aB (kR.l4 C 8 80 (N 111) [i6 0,.str [],i6 0,i6 0,i6 0,.int .u8 0,i6 0,.str []] 1 Q (s 0)) [(s 3),(i6 0)] h) (fS d (λs h=>B.pv (V.aE (s 0)) λb=>B.pv (V.dS 8 (s 3) none (some b)) λc=>Q c h) (fM d [0] [3,4] (ga (kR.l4 C 8 80 (N 111) [i6 0,.str [],i6 0,i6 0,i6 0,.int .u8 0,i6 0,.str []] 1 Q)) λY1=>f1) f1)))
theorem gB.imp:gB.aD A0 N:=ix f46 gB.aY ⟨[1,5,7,9],[10,14,19,24,29,34,38,55,62,68,85,92,98,115,122],129,[(5,pz [] 22),(10,pz [] 22),(15,pz [] 22)]⟩ λ{C} g Q=>fT g (m1 (gB.k7 C N Q) 130) (fT g (λs h=>B.al (s 130) (B.pv (V.aF 3 (s 130)) λa=>B.pv (V.aE a) λe=>aB (gB.l6 C N Q a e (s 130)) [(s 3),(i6 0)] h)) (fS g (λs h=>B.al (s 130) (B.pv (V.aF 4 (s 130)) λb=>B.pv (V.aE b) λf=>aB (gB.l4 C N Q b f (s 130)) [(s 3),(i6 0)] h)) (fM g [39,40,130] [3,41] (gq (gB.l6 C N Q)) λY3=>f1) (fS g (λs h=>B.al (s 130) (B.pv (V.aF 5 (s 130)) λc=>B.pv (V.aE c) λd=>aB (gB.l2 C N Q c d (s 130)) [(s 3),(i6 0)] h)) (fM g [69,70,130] [3,71] (gq (gB.l4 C N Q)) λY2=>f1) (fS g (λs h=>Q (s 3) h) (fM g [99,100,130] [3,101] (gq (gB.l2 C N Q)) λY1=>f1) f1))))
theorem nd.imp:nd.aD A0 N:=zl f47 nd.k1 ⟨[],[],12,[(0,pz [(3,[0])] 8)]⟩ λ{C} a Q=>f1
theorem lZ.imp:lZ.aD A0 N:=ix f48 lZ.aY ⟨[],[],5,[]⟩ λ{C} a Q=>f1
theorem iY.imp:iY.aD A0 N:=mj f49 iY.aY ⟨[],[],27,[]⟩ λ{C} c Q=>fT c (λs h=>0<1 /\ B.eO h 1 (some [.int .u8 0]) (s 1) (s 1) λb h=>B.pv (V.aE b) λa=>aB (iY.l2 C N Q (s 0) (s 1) b a) [(i6 0)] h) (fT c (λs h=>B.pv (V.aE (s 5)) λa=>aB (iY.l2 C N Q (s 0) (s 1) (s 5) a) [(i6 0)] h) (fS c (λs h=>Q (s 5) h) (fM c [0,1,5,10] [11] (nq (iY.l2 C N Q)) λY1=>f1) f1))
theorem nf.imp:nf.aD A0 N:=fz f50 nf.k1 ⟨[],[],16,[]⟩ λ{C} a Q=>f1
theorem kj.imp:kj.aD A0 N:=fm f51 kj.k4 ⟨[],[],58,[(7,pz [(30,[25])] 35)]⟩ λ{C} a Q=>fT a (m2 (kj.k4 C N Q) 0 1) (fT a (m2 (kj.k3 C N Q) 0 1) (fT a (l2 (kj.l2 C N Q) 1 5 iO []) (fS a (λs h=>Q (.bool true) h) (fM a [1,5] [6] (cV (kj.l2 C N Q)) λY1=>f1) f1)))
theorem mq.imp:mq.aD A0 N:=fm f52 mq.k4 ⟨[],[],58,[(7,pz [(30,[25])] 35)]⟩ λ{C} a Q=>fT a (m2 (mq.k4 C N Q) 0 1) (fT a (m2 (mq.k3 C N Q) 0 1) (fT a (l2 (mH.l4 C 6 (N 77) [.i .i64,.s,.i .i64,.i .i64,.i .i64,.b] 1 Q) 1 5 iO []) (fS a (λs h=>Q (.bool true) h) (fM a [1,5] [6] (cV (mH.l4 C 6 (N 77) [.i .i64,.s,.i .i64,.i .i64,.i .i64,.b] 1 Q)) λY1=>f1) f1)))
theorem mR.imp:mR.aD A0 N:=fm f53 mR.k4 ⟨[],[],58,[(7,pz [(30,[25])] 35)]⟩ λ{C} a Q=>fT a (m2 (mR.k4 C N Q) 0 1) (fT a (m2 (mR.k3 C N Q) 0 1) (fT a (l2 (mH.l4 C 8 (N 111) [.i .i64,.s,.i .i64,.i .i64,.i .i64,.i .u8,.i .i64,.s] 1 Q) 1 5 iO []) (fS a (λs h=>Q (.bool true) h) (fM a [1,5] [6] (cV (mH.l4 C 8 (N 111) [.i .i64,.s,.i .i64,.i .i64,.i .i64,.i .u8,.i .i64,.s] 1 Q)) λY1=>f1) f1)))
theorem jj.imp:jj.aD A0 N:=ix f54 jj.aY ⟨[],[],32,[]⟩ λ{C} a Q=>fS a (m1 (jj.k3 C N Q) 0) (fM a [0] [2] (ga (jj.l5 C N Q)) λY2=>f1) (fT a (l1 (jj.l2 C N Q) 3 iO []) (fM a [3] [4] (ga (jj.l2 C N Q)) λY1=>f1))
theorem pF.imp:pF.aD A0 N:=fz f55 pF.k3 ⟨[],[],20,[]⟩ λ{C} b Q=>fT b (λs h=>aB (jH.l3 C 6 (N 77) (λh p v K=>B.gp h p 6 v K) 2 Q (s 2)) [(i6 0)] h) (fM b [2] [3] (λd c h Y1=>match d with|[a]=>jH.l3 C 6 (N 77) (λh p v K=>B.gp h p 6 v K) 2 Q a c h Y1|_=>False) λY1=>f1)
theorem qt.imp:qt.aD A0 N:=fz f56 qt.k3 ⟨[],[],20,[]⟩ λ{C} b Q=>fT b (λs h=>aB (jH.l3 C 8 (N 111) (λh p v K=>B.gp h p 8 v K) 2 Q (s 2)) [(i6 0)] h) (fM b [2] [3] (λd c h Y1=>match d with|[a]=>jH.l3 C 8 (N 111) (λh p v K=>B.gp h p 8 v K) 2 Q a c h Y1|_=>False) λY1=>f1)
theorem gA.imp:gA.aD A0 N:=ix f57 gA.aY ⟨[1],[6,10,15,20,25,30,35,41,52,59,69,75,86,93,103,109,120,127],136,[(6,pz [] 27),(11,pz [] 27),(16,pz [] 27)]⟩ λ{C} a Q=>fT a (m1 (gA.k7 C N Q) 137) (fT a (l1 (gA.l6 C N Q) 137 iO []) (fS a (l1 (gA.l4 C N Q) 137 iO []) (fM a [137] [3] (ga (gA.l6 C N Q)) λY3=>f1) (fS a (l1 (gA.l2 C N Q) 137 iO []) (fM a [137] [4] (ga (gA.l4 C N Q)) λY2=>f1) (fS a (λs h=>Q (.bool true) h) (fM a [137] [5] (ga (gA.l2 C N Q)) λY1=>f1) f1))))
theorem jw.imp:jw.aD A0 N:=mj f58 jw.aY ⟨[],[],24,[]⟩ λ{C} b Q=>fT b (λs h=>B.pv (V.bin .sub (s 1) (i6 1)) λa=>aB (jw.l2 C N Q (s 0)) [.aA,a] h) (fT b (λs h=>B.pv (V.bin .sub (s 1) (i6 1)) λa=>aB (jw.l2 C N Q (s 0)) [(s 5),a] h) (fS b (λs h=>Q (s 5) h) (fM b [0] [5,6] (ga (jw.l2 C N Q)) λY1=>f1) f1))
theorem gI.imp:gI.aD A0 N:=ix f59 gI.aY ⟨[1,2],[6,9,16,23,32,41,48,55,62],68,[(1,[(0,[]),(1,[]),(3,[]),(4,[]),(5,[]),(6,[]),(2,[4]),(7,[]),(8,[]),(9,[])])]⟩ λ{C} a Q=>fT a (m2 (gI.k7 C N Q) 69 70) (fT a (λs h=>aB (gI.l6 C N Q (s 69) (s 70)) [(s 3),(i6 0)] h) (fS a (m3 (gI.k4 C N Q) 3 69 70) (fM a [69,70] [3,4] (cV (gI.l6 C N Q)) λY2=>f1) (fT a (λs h=>aB (gI.l3 C N Q (s 69) (s 70)) [(s 3),(i6 0)] h) (fS a (m3 (gI.k1 C N Q) 3 69 70) (fM a [69,70] [3,5] (cV (gI.l3 C N Q)) λY1=>f1) f1))))
theorem iI.imp:iI.aD A0 N:=ix f60 iI.aY ⟨[1,2],[5,7,10,11,14,15,18,27],33,[(4,[(0,[]),(1,[]),(3,[]),(4,[]),(5,[]),(7,[]),(8,[]),(9,[]),(11,[]),(12,[]),(14,[]),(2,[5,9,12]),(6,[9,12]),(10,[12]),(13,[]),(15,[]),(16,[]),(17,[]),(18,[])])]⟩ λ{C} b Q=>fT b (λs h=>B.al (s 34) (B.pv (V.aF 5 (s 34)) λa=>B.cond a (iI.k1 C N Q (.int .u8 1) (s 34) (s 35) h) (iI.k1 C N Q (.int .u8 0) (s 34) (s 35) h))) (fT b (λs h=>B.al (s 34) (B.pv (V.aF 5 (s 34)) λa=>B.cond a (iI.k1 C N Q (.int .u8 1) (s 34) (s 35) h) (iI.k1 C N Q (s 3) (s 34) (s 35) h))) (fT b (m3 (iI.k1 C N Q) 3 34 35) f1))
theorem qA.imp:qA.aD A0 N:=fz f61 qA.k1 ⟨[1,2],[4,7,10,13,16,19,23,30],36,[(1,[(0,[]),(1,[]),(3,[]),(4,[]),(6,[]),(7,[]),(9,[]),(10,[]),(11,[]),(12,[]),(13,[]),(15,[]),(16,[]),(17,[]),(19,[]),(20,[]),(2,[4,7,10,13,16,20]),(5,[7,10,13,16,20]),(8,[10,13,16,20]),(18,[10,13,20]),(21,[10,13]),(14,[]),(22,[]),(23,[]),(24,[])])]⟩ λ{C} a Q=>f1
theorem nB.imp:nB.aD A0 N:=fm f62 nB.k1 ⟨[2,3],[5,7,11,13],17,[]⟩ λ{C} a Q=>f1
theorem mO.imp:mO.aD A0 N:=fm f63 mO.k3 ⟨[],[],27,[]⟩ λ{C} a Q=>fT a (l2 (mO.l2 C N Q) 0 1 iO []) (fM a [0,1] [4] (cV (mO.l2 C N Q)) λY1=>f1)
theorem mo.imp:mo.aD A0 N:=fz f64 mo.k1 ⟨[],[],162,[]⟩ λ{C} a Q=>f1
theorem qP.imp:qP.aD A0 N:=fz f65 qP.k1 ⟨[1,2],[3,6,7,10],12,[]⟩ λ{C} a Q=>f1
theorem n9.imp:n9.aD A0 N:=fm f66 n9.k1 ⟨[4],[],10,[]⟩ λ{C} a Q=>f1
theorem q8.imp:q8.aD A0 N:=mj f67 q8.aY ⟨[],[],8,[]⟩ λ{C} a Q=>f1
theorem iq.imp:iq.aD A0 N:=fm f68 iq.k5 ⟨[],[],55,[]⟩ λ{C} a Q=>fT a (m2 (iq.k5 C N Q) 0 1) (fT a (λs h=>iq.k4 C N Q (s 0) (s 1) (i6 0) h) (fT a (m3 (iq.k4 C N Q) 0 1 5) (fS a (m3 (iq.k1 C N Q) 0 1 5) (fM a [0,1,33,34] [5,35] (nq (iq.l3 C N Q)) λY1=>f1) f1)))
theorem iz.imp:iz.aD A0 N:=mj f69 iz.aY ⟨[4,5,7],[31,32,37,51,57],59,[(11,pz [(3,[1])] 8)]⟩ λ{C} e Q=>fT e (m3 (iz.k5 C N Q) 0 1 63) (fT e (λs h=>B.call C (N 432) [(s 0),(i6 1)] h λa h=>aB (iz.l4 C N Q (s 0) (s 63)) [a,(s 64)] h) (fS e (λs h=>B.call C (N 432) [(s 0),(i6 1)] h λb h=>aB (iz.l2 C N Q (s 0) (s 63)) [b,(s 64)] h) (fM e [0,63] [6,64] (cV (iz.l4 C N Q)) λY2=>f1) (fS e (λs h=>B.pv (V.bM 0 4 (s 64)) λc=>B.pv (V.bU 0 4 c (s 63)) λd=>B.pv (oneOf (cJ (V.bM 0 4 d) (some []))) λv=>Q v h) (fM e [0,63] [8,64] (cV (iz.l2 C N Q)) λY1=>f1) f1)))
theorem ql.imp:ql.aD A0 N:=fm f70 ql.k1 ⟨[4,5],[14,15,16,17,20,24],26,[]⟩ λ{C} a Q=>f1
theorem qi.imp:qi.aD A0 N:=fm f71 qi.k1 ⟨[4,5],[12,17,18,22,26,29],31,[]⟩ λ{C} a Q=>f1
theorem qL.imp:qL.aD A0 N:=fm f72 qL.k1 ⟨[2,3],[5,7,11,13],17,[]⟩ λ{C} a Q=>f1
theorem nC.imp:nC.aD A0 N:=mj f73 nC.aY ⟨[],[],10,[]⟩ λ{C} a Q=>f1
theorem kG.imp:kG.aD A0 N:=zl f74 kG.k3 ⟨[8,9],[],32,[]⟩ λ{C} b Q=>fT b (m3 (kG.k3 C N Q) 0 1 2) (fT b (λs h=>B.pv (V.aE (s 0)) λa=>aB (kG.l2 C N Q (s 1) (s 2) (s 0) a) [(i6 0)] h) (fS b (λs h=>Q (.bool true) h) (fM b [1,2,15,16] [17] (nq (kG.l2 C N Q)) λY1=>f1) f1))
theorem qQ.imp:qQ.aD A0 N:=fm f75 qQ.k1 ⟨[2,3],[9,11,16,18],22,[]⟩ λ{C} a Q=>f1
theorem qO.imp:qO.aD A0 N:=fz f76 qO.k1 ⟨[1],[2,5],8,[]⟩ λ{C} a Q=>f1
theorem eg.imp:eg.aD A0 N:=mj f77 eg.aY ⟨[3,7,9,12,14],[15,19,78,79,84,98,104,124,136,137,140,141,144,148,168,180,183,186,190,194,197],213,[(11,pz [] 7),(21,pz [(3,[1])] 8),(22,pz [] 11),(30,pz [] 11),(40,pz [] 11)]⟩ λ{C} j Q=>fT j (m2 (eg.wS C N Q) 0 216) (fT j (m3 (eg.r5 C N Q) 0 5 216) (fT j (λs h=>B.pv (V.bin .eql (s 6) (.str [42,100,97,121])) λe=>B.cond e (eg.k1 C N Q (s 0) (s 5) h) (eg.mK C N Q (s 0) (s 5) (s 6) (s 216) h)) (fS j (λs h=>B.nilCheck (s 5) λa=>B.pv (V.fieldAddr 2 a) λb=>B.ld h b λc=>B.pv (V.un .not c) λd=>Q d h) (fK (fT j (λs h=>B.cond (s 22) (eg.k1 C N Q (s 0) (s 5) h) (eg.mK C N Q (s 0) (s 5) (s 6) (s 216) h)) (fC 22 f1 (fT j (λs h=>B.cond (s 30) (eg.k2 C N Q (s 0) (s 5) h) (B.pv (V.bin .eql (s 6) (.str [42,108,105,110,101])) λf=>B.cond f (eg.k3 C N Q (s 0) (s 5) h) (eg.qe C N Q (s 0) (s 5) (s 6) (s 216) h))) (fC 30 f1 (fT j (λs h=>B.cond (s 38) (eg.k3 C N Q (s 0) (s 5) h) (eg.qe C N Q (s 0) (s 5) (s 6) (s 216) h)) (fC 38 f1 (fT j (λs h=>B.cond (s 46) (eg.k9 C N Q (s 0) (s 5) (s 6) h) (eg.jL C N Q (s 0) (s 5) (s 6) (s 216) h)) (fC 46 (fT j (λs h=>B.call C (N 71) [(s 5),(i6 1)] h λg h=>aB (eg.l8 C N Q (s 0) (s 5)) [g,(s 220)] h) (fS j (λs h=>B.call C (N 71) [(s 5),(i6 1)] h λi h=>aB (eg.l6 C N Q (s 0) (s 5)) [i,(s 220)] h) (fM j [0,5] [8,220] (cV (eg.l8 C N Q)) λY2=>f1) (fS j (m3 (eg.k4 C N Q) 0 5 220) (fM j [0,5] [10,220] (cV (eg.l6 C N Q)) λY1=>f1) f1))) f1))))))))) f1)))
theorem lF.imp:lF.aD A0 N:=fm f78 lF.k3 ⟨[],[],27,[(6,pz [] 10)]⟩ λ{C} a Q=>fT a (m2 (lF.k3 C N Q) 0 1) (fT a (l2 (lF.l2 C N Q) 0 1 iO []) (fS a (λs h=>Q (.bool true) h) (fM a [0,1] [5] (cV (lF.l2 C N Q)) λY1=>f1) f1))
theorem ow.imp:ow.aD A0 N:=fm f79 ow.k3 ⟨[],[],26,[(6,pz [] 9)]⟩ λ{C} a Q=>fT a (m2 (ow.k3 C N Q) 0 1) (fT a (l2 (mD.l4 6 [.i .i64,.s,.i .i64,.i .i64,.i .i64,.b] Q) 0 1 iO []) (fS a (λs h=>Q (.bool true) h) (fM a [0,1] [5] (cV (mD.l4 6 [.i .i64,.s,.i .i64,.i .i64,.i .i64,.b] Q)) λY1=>f1) f1))
theorem py.imp:py.aD A0 N:=fm f80 py.k3 ⟨[],[],26,[(6,pz [] 9)]⟩ λ{C} a Q=>fT a (m2 (py.k3 C N Q) 0 1) (fT a (l2 (mD.l4 8 [.i .i64,.s,.i .i64,.i .i64,.i .i64,.i .u8,.i .i64,.s] Q) 0 1 iO []) (fS a (λs h=>Q (.bool true) h) (fM a [0,1] [5] (cV (mD.l4 8 [.i .i64,.s,.i .i64,.i .i64,.i .i64,.i .u8,.i .i64,.s] Q)) λY1=>f1) f1))
theorem om.imp:om.aD A0 N:=fm f81 om.k3 ⟨[],[],27,[]⟩ λ{C} a Q=>fT a (l2 (om.l2 C N Q) 0 1 iO []) (fM a [0,1] [4] (cV (om.l2 C N Q)) λY1=>f1)
theorem pG.imp:pG.aD A0 N:=fz f82 pG.k3 ⟨[],[],25,[]⟩ λ{C} d Q=>fT d (m1 (pG.k3 C N Q) 0) (fT d (λs h=>B.bO h 3 24 (s 3) (s 0) λa h=>aB (kR.l4 C 3 24 (N 78) [i6 0,i6 0,i6 0] 1 Q (s 0)) [a,(i6 0)] h) (fT d (λs h=>aB (kR.l4 C 3 24 (N 78) [i6 0,i6 0,i6 0] 1 Q (s 0)) [(s 3),(i6 0)] h) (fS d (λs h=>B.pv (V.aE (s 0)) λb=>B.pv (V.dS 3 (s 3) none (some b)) λc=>Q c h) (fM d [0] [3,4] (ga (kR.l4 C 3 24 (N 78) [i6 0,i6 0,i6 0] 1 Q)) λY1=>f1) f1)))
theorem fW.imp:fW.aD A0 N:=ix f83 fW.aY ⟨[1,6,9],[13,16,21,25,30,35,40,44,52,56,61,62,66,67,71,74,81,85,93,97,101],106,[]⟩ λ{C} m Q=>fT m (m1 (fW.jL C N Q) 107) (fT m (λs h=>B.al (s 107) (B.pv (V.aF 0 (s 107)) λc=>B.call C (N 50) [.aA,c,(i6 2)] h λd h=>fW.k9 C N Q d (s 107) h)) (fT m (m2 (fW.k9 C N Q) 4 107) (fT m (λs h=>B.al (s 107) (B.pv (V.aF 1 (s 107)) λe=>B.call C (N 50) [(s 4),e,(i6 8)] h λf h=>fW.k8 C N Q f (s 107) h)) (fT m (m2 (fW.k8 C N Q) 4 107) (fT m (λs h=>B.al (s 107) (B.pv (V.aF 3 (s 107)) λg=>B.call C (N 51) [g] h λi h=>B.bO h 1 1 (s 4) i λj h=>fW.k7 C N Q j (s 107) h)) (fT m (m2 (fW.k7 C N Q) 4 107) (fT m (m2 (fW.k6 C N Q) 4 107) (fT m (λs h=>B.al (s 107) (B.pv (V.aF 5 (s 107)) λa=>B.pv (V.aE a) λk=>aB (fW.l5 C N Q a k (s 107)) [(s 4),(i6 0)] h)) (fS m (m2 (fW.k3 C N Q) 4 107) (fM m [45,46,107] [4,47] (gq (fW.l5 C N Q)) λY2=>f1) (fT m (λs h=>B.al (s 107) (B.pv (V.aF 6 (s 107)) λb=>B.pv (V.aE b) λl=>aB (fW.l2 C N Q b l) [(s 4),(i6 0)] h)) (fS m (λs h=>Q (.bI [(s 4),(i6 0)]) h) (fM m [86,87] [4,88] (cV (fW.l2 C N Q)) λY1=>f1) f1)))))))))))
theorem pn.imp:pn.aD A0 N:=mj f84 pn.aY ⟨[],[],9,[]⟩ λ{C} a Q=>f1
theorem pJ.imp:pJ.aD A0 N:=ix f85 pJ.aY ⟨[],[],8,[]⟩ λ{C} a Q=>f1
theorem qk.imp:qk.aD A0 N:=fm f86 qk.k1 ⟨[],[],18,[]⟩ λ{C} a Q=>f1
theorem iZ.imp:iZ.aD A0 N:=fz f87 iZ.k4 ⟨[6],[13,18,22,25,29,34,39],55,[(12,pz [(5,[4])] 8)]⟩ λ{C} c Q=>fT c (λs h=>B.pv (A.cD [(0,none,(s 0))] [.aA,i6 0,.bool false]) λa=>B.bL h (A.kZ 3 a) λb h=>iZ.k3 C N Q (s 2) (.ptr b 0 0) h) (fT c (m2 (iZ.k3 C N Q) 2 5) (fT c (m3 (iZ.k2 C N Q) 2 5 61) (fT c (m3 (iZ.k1 C N Q) 2 5 61) f1)))
theorem nb.imp:nb.aD A0 N:=fm f88 nb.k4 ⟨[],[],58,[(7,pz [(30,[25])] 35)]⟩ λ{C} a Q=>fT a (m2 (nb.k4 C N Q) 0 1) (fT a (m2 (nb.k3 C N Q) 0 1) (fT a (l2 (mH.l4 C 3 (N 78) [.i .i64,.i .i64,.i .i64] 1 Q) 1 5 iO []) (fS a (λs h=>Q (.bool true) h) (fM a [1,5] [6] (cV (mH.l4 C 3 (N 78) [.i .i64,.i .i64,.i .i64] 1 Q)) λY1=>f1) f1)))
theorem qC.imp:qC.aD A0 N:=fz f89 qC.k3 ⟨[],[],20,[]⟩ λ{C} b Q=>fT b (λs h=>aB (jH.l3 C 3 (N 78) (λh p v K=>B.gp h p 3 v K) 2 Q (s 2)) [(i6 0)] h) (fM b [2] [3] (λd c h Y1=>match d with|[a]=>jH.l3 C 3 (N 78) (λh p v K=>B.gp h p 3 v K) 2 Q a c h Y1|_=>False) λY1=>f1)
theorem fI.imp:fI.aD A0 N:=ix f90 fI.aY ⟨[1,6],[12,15,20,25,31,36,41,47,53,59,64,69,70,75,76,81,85,92,98,105,114,123],132,[]⟩ λ{C} f Q=>fT f (m1 (fI.qe C N Q) 133) (fT f (λs h=>B.al (s 133) (B.pv (V.aF 0 (s 133)) λa=>B.call C (N 58) [a,(i6 2)] h λb h=>fI.jL C N Q b (s 133) h)) (fT f (m2 (fI.jL C N Q) 4 133) (fT f (m2 (fI.k9 C N Q) 4 133) (fT f (m2 (fI.k8 C N Q) 4 133) (fT f (λs h=>B.al (s 133) (B.pv (V.aF 3 (s 133)) λc=>B.call C (N 59) [c] h λd h=>B.bO h 1 1 (s 4) d λe h=>fI.k7 C N Q e (s 133) h)) (fT f (m2 (fI.k7 C N Q) 4 133) (fT f (m2 (fI.k6 C N Q) 4 133) (fT f (λs h=>aB (fI.l5 C N Q (s 133)) [(s 4),(i6 0)] h) (fS f (m2 (fI.k3 C N Q) 4 133) (fM f [133] [4,5] (ga (fI.l5 C N Q)) λY2=>f1) (fT f (λs h=>aB (fI.l2 C N Q (s 133)) [(s 4),(i6 0)] h) (fS f (λs h=>Q (.bI [(s 4),(i6 0)]) h) (fM f [133] [4,8] (ga (fI.l2 C N Q)) λY1=>f1) f1)))))))))))
theorem fj.imp:fj.aD A0 N:=fz f91 fj.jL ⟨[6,9],[16,21,25,28,32,46,52,71,74,75,80],96,[(11,pz [(3,[1])] 8),(21,pz [(5,[4])] 8)]⟩ λ{C} i Q=>fT i (λs h=>B.pv (A.cD [(0,none,(s 0))] [.aA,i6 0,.bool false]) λb=>B.bL h (A.kZ 3 b) λc h=>fj.k9 C N Q (s 2) (.ptr c 0 0) h) (fT i (m2 (fj.k9 C N Q) 2 5) (fT i (m3 (fj.k8 C N Q) 2 5 102) (fS i (m3 (fj.k1 C N Q) 2 5 102) (fT i (λs h=>B.cond (s 18) (B.call C (N 71) [(s 5),(i6 8)] h λd h=>B.al (s 102) (B.pv (V.cL 1 d (s 102)) λa=>fj.k7 C N Q (s 2) (s 5) a h)) (fj.k1 C N Q (s 2) (s 5) (s 102) h)) (fC 18 (fT i (m3 (fj.k7 C N Q) 2 5 102) (fT i (λs h=>B.call C (N 73) [(s 5)] h λe h=>B.al (s 102) (B.pv (V.cL 3 e (s 102)) λa=>fj.k6 C N Q (s 2) (s 5) a h)) (fT i (m3 (fj.k6 C N Q) 2 5 102) (fT i (λs h=>B.call C (N 71) [(s 5),(i6 2)] h λf h=>aB (fj.l5 C N Q (s 2) (s 5)) [f,(s 102)] h) (fS i (λs h=>B.call C (N 71) [(s 5),(i6 2)] h λg h=>aB (fj.l3 C N Q (s 2) (s 5)) [g,(s 102)] h) (fM i [2,5] [7,102] (cV (fj.l5 C N Q)) λY2=>f1) (fM i [2,5] [8,102] (cV (fj.l3 C N Q)) λY1=>f1)))))) f1)) f1)))
theorem pE.imp:pE.aD A0 N:=fm f92 pE.k3 ⟨[],[],26,[(6,pz [] 9)]⟩ λ{C} a Q=>fT a (m2 (pE.k3 C N Q) 0 1) (fT a (l2 (mD.l4 3 [.i .i64,.i .i64,.i .i64] Q) 0 1 iO []) (fS a (λs h=>Q (.bool true) h) (fM a [0,1] [5] (cV (mD.l4 3 [.i .i64,.i .i64,.i .i64] Q)) λY1=>f1) f1))
theorem jM.imp:jM.aD A0 N:=ix f93 jM.aY ⟨[],[],18,[]⟩ λ{C} a Q=>fT a (l1 (jM.l2 C N Q) 0 [.aA,(i6 0)] []) (fT a (λs h=>aB (jM.l2 C N Q (s 0)) [(s 3),(i6 0)] h) (fS a (λs h=>Q (s 3) h) (fM a [0] [3,4] (ga (jM.l2 C N Q)) λY1=>f1) f1))
theorem oq.imp:oq.aD A0 N:=fm f94 oq.k3 ⟨[],[],27,[]⟩ λ{C} a Q=>fT a (l2 (oq.l2 C N Q) 0 1 iO []) (fM a [0,1] [4] (cV (oq.l2 C N Q)) λY1=>f1)
theorem ua.imp:ua.aD A0 N:=fm f95 ua.k1 ⟨[],[],14,[]⟩ λ{C} a Q=>f1
theorem qy.imp:qy.aD A0 N:=fz f96 qy.k1 ⟨[1,2],[3,6,7,10,11,14],16,[]⟩ λ{C} a Q=>f1
theorem qR.imp:qR.aD A0 N:=fz f97 qR.k1 ⟨[1,2],[3,6,7,10],12,[]⟩ λ{C} a Q=>f1
theorem qG.imp:qG.aD A0 N:=fz f98 qG.k1 ⟨[1,2],[3,6,7,10],12,[]⟩ λ{C} a Q=>f1
theorem n6.imp:n6.aD A0 N:=fm f99 n6.k1 ⟨[4],[],9,[]⟩ λ{C} a Q=>f1
theorem nA.imp:nA.aD A0 N:=fm f100 nA.k1 ⟨[4],[],9,[]⟩ λ{C} a Q=>f1
theorem n5.imp:n5.aD A0 N:=fm f101 n5.k1 ⟨[4],[],9,[]⟩ λ{C} a Q=>f1
theorem ir.imp:ir.aD A0 N:=ix f102 ir.aY ⟨[1,5],[6,9,14,18,22,26,33,37,42,47],54,[]⟩ λ{C} c Q=>fT c (m1 (ir.k5 C N Q) 55) (fT c (m1 (ir.k4 C N Q) 55) (fT c (λs h=>B.al (s 55) (B.pv (V.aF 2 (s 55)) λa=>B.pv (V.aE a) λb=>aB (ir.l3 C N Q a b (s 55)) [.aA,(i6 0)] h)) (fT c (λs h=>B.al (s 55) (B.pv (V.aF 2 (s 55)) λa=>B.pv (V.aE a) λb=>aB (ir.l3 C N Q a b (s 55)) [(s 3),(i6 0)] h)) (fS c (m2 (ir.k1 C N Q) 3 55) (fM c [27,28,55] [3,29] (gq (ir.l3 C N Q)) λY1=>f1) f1))))
theorem pL.imp:pL.aD A0 N:=fz f103 pL.k1 ⟨[1],[3,7,12,17,18,20,21,26,31],35,[]⟩ λ{C} a Q=>f1
theorem qT.imp:qT.aD A0 N:=fz f104 qT.k1 ⟨[1],[3,7,13,18,23,28,33,38,42,46,50,53,57,61,65,70,75],79,[]⟩ λ{C} a Q=>f1
theorem ie.imp:ie.aD A0 N:=ix f105 ie.aY ⟨[],[],36,[]⟩ λ{C} d Q=>fT d (λs h=>B.pv (V.aE (s 0)) λa=>aB (ie.l4 C N Q (s 0) (s 0) a) [(i6 0),(i6 0)] h) (fT d (λs h=>B.pv (V.aE (s 0)) λa=>aB (ie.l4 C N Q (s 0) (s 0) a) [(s 3),(i6 0)] h) (fS d (λs h=>B.call C (N 444) [.aA,(s 3)] h λc h=>B.pv (V.aE (s 0)) λb=>aB (ie.l2 C N Q (s 0) b) [c,(i6 0)] h) (fM d [0,9,10] [3,11] (gq (ie.l4 C N Q)) λY2=>f1) (fT d (λs h=>B.pv (V.aE (s 0)) λb=>aB (ie.l2 C N Q (s 0) b) [(s 6),(i6 0)] h) (fS d (λs h=>Q (s 6) h) (fM d [25,26] [6,27] (cV (ie.l2 C N Q)) λY1=>f1) f1))))
theorem iA.imp:iA.aD A0 N:=ix f106 iA.aY ⟨[],[],40,[]⟩ λ{C} b Q=>fT b (λs h=>B.r9 h (s 0) λa h=>aB (iA.l3 C N Q (s 0) a) [] h) (fS b (m1 (iA.k1 C N Q) 0) (fM b [0,6] [] (cV (iA.l3 C N Q)) λY1=>f1) f1)
theorem qW.imp:qW.aD A0 N:=mj f107 qW.aY ⟨[],[],9,[]⟩ λ{C} a Q=>f1
theorem qI.imp:qI.aD A0 N:=fm f108 qI.k1 ⟨[2,3],[9,11,16,18],22,[]⟩ λ{C} a Q=>f1
theorem n7.imp:n7.aD A0 N:=fm f109 n7.k1 ⟨[2,3],[5,7,11,13,18,20,25,27],31,[]⟩ λ{C} a Q=>f1
theorem qE.imp:qE.aD A0 N:=fz f110 qE.k1 ⟨[1],[2,5],8,[]⟩ λ{C} a Q=>f1
theorem qS.imp:qS.aD A0 N:=fz f111 qS.k1 ⟨[1],[3,8,10,16,20,24,28,32,34],39,[]⟩ λ{C} a Q=>f1
theorem pH.imp:pH.aD A0 N:=fz f112 pH.k1 ⟨[1],[3,7,12,13,18,19,21,22,27,28,33,38],42,[]⟩ λ{C} a Q=>f1
theorem qN.imp:qN.aD A0 N:=fz f113 qN.k1 ⟨[1],[5,9,15,20,25,30,35,40,44,48,52,56,61,65],79,[]⟩ λ{C} a Q=>f1
theorem nE.imp:nE.aD A0 N:=fz f114 nE.k1 ⟨[],[],16,[]⟩ λ{C} a Q=>f1
theorem qm.imp:qm.aD A0 N:=fm f115 qm.k1 ⟨[3],[5,9],12,[]⟩ λ{C} a Q=>f1
def tf.I:Bx:=⟨[],[],200,[(7,pz [(7,[3])] 11),(24,pz [(9,[3,6]),(31,[25,28])] 37),(41,pz [(9,[3,6]),(23,[17,20])] 28)]⟩
def tq.I:Bx:=⟨[],[],193,[(7,pz [(7,[3])] 10),(24,pz [(9,[3,6]),(30,[24,27])] 35),(41,pz [(9,[3,6]),(22,[16,19])] 26)]⟩
def tn.I:Bx:=⟨[],[],193,[(7,pz [(7,[3])] 10),(24,pz [(9,[3,6]),(30,[24,27])] 35),(41,pz [(9,[3,6]),(22,[16,19])] 26)]⟩
def kg.I:Bx:=⟨[],[],193,[(7,pz [(7,[3])] 10),(24,pz [(9,[3,6]),(30,[24,27])] 35),(41,pz [(9,[3,6]),(22,[16,19])] 26)]⟩
theorem kg.L:sW P kg.I Tryz.f119 λC Q s h=>kg.aY C N (s 0) h Q:=λ{C} n Q s h m=>eT n (λs h=>aB (aH.gz (dH 16 (.str []) (N 106)) C Q (s 0)) [(i6 0)] h) m (λs h m=>eS n (λs h=>B.pv (V.aE (s 0)) λb=>0<1 /\ B.eO h 24 (some [.aA]) b b λf h=>aB (aH.gu (dH 16 (.str []) (N 106)) C Q (s 0) f) [(i6 0)] h) (eT n (λs h=>aB (aH.gz (dH 16 (.str []) (N 106)) C Q (s 0)) [(s 3)] h) m (λs h m=>eK (eL n [0] [3] (ga (aH.gz (dH 16 (.str []) (N 106)) C Q)) m (λp s h m=>eT n (λs h=>aB (aH.iv (dH 16 (.str []) (N 106)) C Q p (s 0) (s 3)) [(i6 0)] h) m (λs h m=>eS n (λs h=>B.pv (V.bin .add (s 3) (i6 1)) λg=>p [g] h) (eK (eT n (λs h=>aB (aH.iv (dH 16 (.str []) (N 106)) C Q p (s 0) (s 3)) [(s 4)] h) m (λs h m=>eK (eL n [0,3] [4] (cV (aH.iv (dH 16 (.str []) (N 106)) C Q p)) m (λq s h m=>e1 m))))) (λs h m=>e1 m)))))) (λs h m=>eT n (λs h=>aB (aH.gu (dH 16 (.str []) (N 106)) C Q (s 0) (s 5)) [(i6 0)] h) m (λs h m=>eS n (λs h=>aB (aH.ib (dH 16 (.str []) (N 106)) C Q (s 0) (s 5)) [(i6 0)] h) (eT n (λs h=>aB (aH.gu (dH 16 (.str []) (N 106)) C Q (s 0) (s 5)) [(s 6)] h) m (λs h m=>eK (eL n [0,5] [6] (cV (aH.gu (dH 16 (.str []) (N 106)) C Q)) m (λo s h m=>eT n (λs h=>B.pv (V.aM 1 (s 0) (s 6)) λi=>B.ld h i λj=>aB (aH.g7 (dH 16 (.str []) (N 106)) C Q o (s 0) (s 5) (s 6)) [j,(i6 0)] h) m (λs h m=>eS n (λs h=>B.pv (V.bin .add (s 6) (i6 1)) λa=>o [a] h) (eK (eT n (λs h=>aB (aH.g7 (dH 16 (.str []) (N 106)) C Q o (s 0) (s 5) (s 6)) [(s 7),(i6 0)] h) m (λs h m=>eS n (λs h=>B.pv (V.aM 1 (s 5) (s 6)) λk=>B.st h k (s 7) λh=>B.pv (V.bin .add (s 6) (i6 1)) λa=>o [a] h) (eT n (λs h=>aB (aH.g7 (dH 16 (.str []) (N 106)) C Q o (s 0) (s 5) (s 6)) [(s 7),(s 8)] h) m (λs h m=>eK (eL n [0,5,6] [7,8] (gq (aH.g7 (dH 16 (.str []) (N 106)) C Q o)) m (λr s h m=>e1 m)))) (λs h m=>e1 m)))) (λs h m=>e1 m)))))) (λs h m=>eS n (λs h=>aB (aH.ic (dH 16 (.str []) (N 106)) C Q (s 0) (s 5)) [(i6 0)] h) (eT n (λs h=>aB (aH.ib (dH 16 (.str []) (N 106)) C Q (s 0) (s 5)) [(s 9)] h) m (λs h m=>eK (eL n [0,5] [9] (cV (aH.ib (dH 16 (.str []) (N 106)) C Q)) m (λY5 s h m=>eT n (λs h=>aB (aH.iw (dH 16 (.str []) (N 106)) C Q Y5 (s 0) (s 5) (s 9)) [(i6 0)] h) m (λs h m=>eS n (λs h=>B.pv (V.bin .add (s 9) (i6 1)) λl=>Y5 [l] h) (eK (eT n (λs h=>aB (aH.iw (dH 16 (.str []) (N 106)) C Q Y5 (s 0) (s 5) (s 9)) [(s 10)] h) m (λs h m=>eK (eL n [0,5,9] [10] (gq (aH.iw (dH 16 (.str []) (N 106)) C Q Y5)) m (λt s h m=>e1 m))))) (λs h m=>e1 m)))))) (λs h m=>eS n (λs h=>aB (aH.gY (dH 16 (.str []) (N 106)) C Q (s 0) (s 5)) [(i6 0)] h) (eT n (λs h=>aB (aH.ic (dH 16 (.str []) (N 106)) C Q (s 0) (s 5)) [(s 11)] h) m (λs h m=>eK (eL n [0,5] [11] (cV (aH.ic (dH 16 (.str []) (N 106)) C Q)) m (λY3 s h m=>eT n (λs h=>0<1 /\ B.eO h 16 (some [.str []]) (i6 64) (i6 64) λc h=>aB (aH.g8 (dH 16 (.str []) (N 106)) C Q Y3 (s 0) (s 5) (s 11) c) [(i6 0)] h) m (λs h m=>eS n (λs h=>B.pv (V.bin .add (s 11) (i6 1)) λd=>Y3 [d] h) (eK (eT n (λs h=>aB (aH.g8 (dH 16 (.str []) (N 106)) C Q Y3 (s 0) (s 5) (s 11) (s 12)) [(i6 0)] h) m (λs h m=>eS n (λs h=>aH.og (dH 16 (.str []) (N 106)) C Q Y3 (s 0) (s 5) (s 11) (s 12) h) (eT n (λs h=>aB (aH.g8 (dH 16 (.str []) (N 106)) C Q Y3 (s 0) (s 5) (s 11) (s 12)) [(s 13)] h) m (λs h m=>eK (eL n [0,5,11,12] [13] (nq (aH.g8 (dH 16 (.str []) (N 106)) C Q Y3)) m (λu s h m=>e1 m)))) (λs h m=>e1 m)))) (λs h m=>e1 m)))))) (λs h m=>eS n (λs h=>Q (.bool true) h) (eT n (λs h=>aB (aH.gY (dH 16 (.str []) (N 106)) C Q (s 0) (s 5)) [(s 14)] h) m (λs h m=>eK (eL n [0,5] [14] (cV (aH.gY (dH 16 (.str []) (N 106)) C Q)) m (λY1 s h m=>eT n (λs h=>aB (aH.l5 (dH 16 (.str []) (N 106)) C Q Y1 (s 0) (s 5) (s 14)) [(i6 0)] h) m (λs h m=>eS n (λs h=>B.pv (V.bin .add (s 14) (i6 1)) λe=>Y1 [e] h) (eK (eT n (λs h=>aB (aH.l5 (dH 16 (.str []) (N 106)) C Q Y1 (s 0) (s 5) (s 14)) [(s 15)] h) m (λs h m=>eK (eL n [0,5,14] [15] (gq (aH.l5 (dH 16 (.str []) (N 106)) C Q Y1)) m (λY2 s h m=>e1 m))))) (λs h m=>e1 m)))))) (λs h m=>e1 m)))))))
theorem kg.imp:kg.aD (AC P) N:=λa h Q b=>eF mixed (fn:=Tryz.f119) (λc=>kg.L c (dn Q) (fv [a]) h b)
def kh.I:Bx:=⟨[],[],193,[(7,pz [(7,[3])] 10),(24,pz [(9,[3,6]),(30,[24,27])] 35),(41,pz [(9,[3,6]),(22,[16,19])] 26)]⟩
theorem kh.L:sW P kh.I Tryz.f120 λC Q s h=>kh.aY C N (s 0) h Q:=λ{C} n Q s h m=>eT n (λs h=>aB (aH.gz (dH 1 (.int .u8 0) (N 64)) C Q (s 0)) [(i6 0)] h) m (λs h m=>eS n (λs h=>B.pv (V.aE (s 0)) λb=>0<1 /\ B.eO h 24 (some [.aA]) b b λf h=>aB (aH.gu (dH 1 (.int .u8 0) (N 64)) C Q (s 0) f) [(i6 0)] h) (eT n (λs h=>aB (aH.gz (dH 1 (.int .u8 0) (N 64)) C Q (s 0)) [(s 3)] h) m (λs h m=>eK (eL n [0] [3] (ga (aH.gz (dH 1 (.int .u8 0) (N 64)) C Q)) m (λp s h m=>eT n (λs h=>aB (aH.iv (dH 1 (.int .u8 0) (N 64)) C Q p (s 0) (s 3)) [(i6 0)] h) m (λs h m=>eS n (λs h=>B.pv (V.bin .add (s 3) (i6 1)) λg=>p [g] h) (eK (eT n (λs h=>aB (aH.iv (dH 1 (.int .u8 0) (N 64)) C Q p (s 0) (s 3)) [(s 4)] h) m (λs h m=>eK (eL n [0,3] [4] (cV (aH.iv (dH 1 (.int .u8 0) (N 64)) C Q p)) m (λq s h m=>e1 m))))) (λs h m=>e1 m)))))) (λs h m=>eT n (λs h=>aB (aH.gu (dH 1 (.int .u8 0) (N 64)) C Q (s 0) (s 5)) [(i6 0)] h) m (λs h m=>eS n (λs h=>aB (aH.ib (dH 1 (.int .u8 0) (N 64)) C Q (s 0) (s 5)) [(i6 0)] h) (eT n (λs h=>aB (aH.gu (dH 1 (.int .u8 0) (N 64)) C Q (s 0) (s 5)) [(s 6)] h) m (λs h m=>eK (eL n [0,5] [6] (cV (aH.gu (dH 1 (.int .u8 0) (N 64)) C Q)) m (λo s h m=>eT n (λs h=>B.pv (V.aM 1 (s 0) (s 6)) λi=>B.ld h i λj=>aB (aH.g7 (dH 1 (.int .u8 0) (N 64)) C Q o (s 0) (s 5) (s 6)) [j,(i6 0)] h) m (λs h m=>eS n (λs h=>B.pv (V.bin .add (s 6) (i6 1)) λa=>o [a] h) (eK (eT n (λs h=>aB (aH.g7 (dH 1 (.int .u8 0) (N 64)) C Q o (s 0) (s 5) (s 6)) [(s 7),(i6 0)] h) m (λs h m=>eS n (λs h=>B.pv (V.aM 1 (s 5) (s 6)) λk=>B.st h k (s 7) λh=>B.pv (V.bin .add (s 6) (i6 1)) λa=>o [a] h) (eT n (λs h=>aB (aH.g7 (dH 1 (.int .u8 0) (N 64)) C Q o (s 0) (s 5) (s 6)) [(s 7),(s 8)] h) m (λs h m=>eK (eL n [0,5,6] [7,8] (gq (aH.g7 (dH 1 (.int .u8 0) (N 64)) C Q o)) m (λr s h m=>e1 m)))) (λs h m=>e1 m)))) (λs h m=>e1 m)))))) (λs h m=>eS n (λs h=>aB (aH.ic (dH 1 (.int .u8 0) (N 64)) C Q (s 0) (s 5)) [(i6 0)] h) (eT n (λs h=>aB (aH.ib (dH 1 (.int .u8 0) (N 64)) C Q (s 0) (s 5)) [(s 9)] h) m (λs h m=>eK (eL n [0,5] [9] (cV (aH.ib (dH 1 (.int .u8 0) (N 64)) C Q)) m (λY5 s h m=>eT n (λs h=>aB (aH.iw (dH 1 (.int .u8 0) (N 64)) C Q Y5 (s 0) (s 5) (s 9)) [(i6 0)] h) m (λs h m=>eS n (λs h=>B.pv (V.bin .add (s 9) (i6 1)) λl=>Y5 [l] h) (eK (eT n (λs h=>aB (aH.iw (dH 1 (.int .u8 0) (N 64)) C Q Y5 (s 0) (s 5) (s 9)) [(s 10)] h) m (λs h m=>eK (eL n [0,5,9] [10] (gq (aH.iw (dH 1 (.int .u8 0) (N 64)) C Q Y5)) m (λt s h m=>e1 m))))) (λs h m=>e1 m)))))) (λs h m=>eS n (λs h=>aB (aH.gY (dH 1 (.int .u8 0) (N 64)) C Q (s 0) (s 5)) [(i6 0)] h) (eT n (λs h=>aB (aH.ic (dH 1 (.int .u8 0) (N 64)) C Q (s 0) (s 5)) [(s 11)] h) m (λs h m=>eK (eL n [0,5] [11] (cV (aH.ic (dH 1 (.int .u8 0) (N 64)) C Q)) m (λY3 s h m=>eT n (λs h=>0<1 /\ B.eO h 1 (some [.int .u8 0]) (i6 64) (i6 64) λc h=>aB (aH.g8 (dH 1 (.int .u8 0) (N 64)) C Q Y3 (s 0) (s 5) (s 11) c) [(i6 0)] h) m (λs h m=>eS n (λs h=>B.pv (V.bin .add (s 11) (i6 1)) λd=>Y3 [d] h) (eK (eT n (λs h=>aB (aH.g8 (dH 1 (.int .u8 0) (N 64)) C Q Y3 (s 0) (s 5) (s 11) (s 12)) [(i6 0)] h) m (λs h m=>eS n (λs h=>aH.og (dH 1 (.int .u8 0) (N 64)) C Q Y3 (s 0) (s 5) (s 11) (s 12) h) (eT n (λs h=>aB (aH.g8 (dH 1 (.int .u8 0) (N 64)) C Q Y3 (s 0) (s 5) (s 11) (s 12)) [(s 13)] h) m (λs h m=>eK (eL n [0,5,11,12] [13] (nq (aH.g8 (dH 1 (.int .u8 0) (N 64)) C Q Y3)) m (λu s h m=>e1 m)))) (λs h m=>e1 m)))) (λs h m=>e1 m)))))) (λs h m=>eS n (λs h=>Q (.bool true) h) (eT n (λs h=>aB (aH.gY (dH 1 (.int .u8 0) (N 64)) C Q (s 0) (s 5)) [(s 14)] h) m (λs h m=>eK (eL n [0,5] [14] (cV (aH.gY (dH 1 (.int .u8 0) (N 64)) C Q)) m (λY1 s h m=>eT n (λs h=>aB (aH.l5 (dH 1 (.int .u8 0) (N 64)) C Q Y1 (s 0) (s 5) (s 14)) [(i6 0)] h) m (λs h m=>eS n (λs h=>B.pv (V.bin .add (s 14) (i6 1)) λe=>Y1 [e] h) (eK (eT n (λs h=>aB (aH.l5 (dH 1 (.int .u8 0) (N 64)) C Q Y1 (s 0) (s 5) (s 14)) [(s 15)] h) m (λs h m=>eK (eL n [0,5,14] [15] (gq (aH.l5 (dH 1 (.int .u8 0) (N 64)) C Q Y1)) m (λY2 s h m=>e1 m))))) (λs h m=>e1 m)))))) (λs h m=>e1 m)))))))
theorem kh.imp:kh.aD (AC P) N:=λa h Q b=>eF mixed (fn:=Tryz.f120) (λc=>kh.L c (dn Q) (fv [a]) h b)
def sX.I:Bx:=⟨[],[],193,[(7,pz [(7,[3])] 10),(24,pz [(9,[3,6]),(30,[24,27])] 35),(41,pz [(9,[3,6]),(22,[16,19])] 26)]⟩
def fg.I:Bx:=⟨[],[],193,[(7,pz [(7,[3])] 10),(24,pz [(9,[3,6]),(30,[24,27])] 35),(41,pz [(9,[3,6]),(22,[16,19])] 26)]⟩
abbrev fg.E:fi:=rW 6 56 [i6 0,.str [],i6 0,i6 0,i6 0,.bool false] (N 77) [.i .i64,.s,.i .i64,.i .i64,.i .i64,.b]
theorem fg.L:sW P fg.I Tryz.f122 λC Q s h=>fg.aY C N (s 0) h Q:=λ{C} n Q s h m=>eT n (λs h=>aB (aH.gz fg.E C Q (s 0)) [(i6 0)] h) m (λs h m=>eS n (λs h=>B.pv (V.aE (s 0)) λb=>0<1 /\ B.eO h 24 (some [.aA]) b b λf h=>aB (aH.gu fg.E C Q (s 0) f) [(i6 0)] h) (eT n (λs h=>aB (aH.gz fg.E C Q (s 0)) [(s 3)] h) m (λs h m=>eK (eL n [0] [3] (ga (aH.gz fg.E C Q)) m (λp s h m=>eT n (λs h=>aB (aH.iv fg.E C Q p (s 0) (s 3)) [(i6 0)] h) m (λs h m=>eS n (λs h=>B.pv (V.bin .add (s 3) (i6 1)) λg=>p [g] h) (eK (eT n (λs h=>aB (aH.iv fg.E C Q p (s 0) (s 3)) [(s 4)] h) m (λs h m=>eK (eL n [0,3] [4] (cV (aH.iv fg.E C Q p)) m (λq s h m=>e1 m))))) (λs h m=>e1 m)))))) (λs h m=>eT n (λs h=>aB (aH.gu fg.E C Q (s 0) (s 5)) [(i6 0)] h) m (λs h m=>eS n (λs h=>aB (aH.ib fg.E C Q (s 0) (s 5)) [(i6 0)] h) (eT n (λs h=>aB (aH.gu fg.E C Q (s 0) (s 5)) [(s 6)] h) m (λs h m=>eK (eL n [0,5] [6] (cV (aH.gu fg.E C Q)) m (λo s h m=>eT n (λs h=>B.pv (V.aM 1 (s 0) (s 6)) λi=>B.ld h i λj=>aB (aH.g7 fg.E C Q o (s 0) (s 5) (s 6)) [j,(i6 0)] h) m (λs h m=>eS n (λs h=>B.pv (V.bin .add (s 6) (i6 1)) λa=>o [a] h) (eK (eT n (λs h=>aB (aH.g7 fg.E C Q o (s 0) (s 5) (s 6)) [(s 7),(i6 0)] h) m (λs h m=>eS n (λs h=>B.pv (V.aM 1 (s 5) (s 6)) λk=>B.st h k (s 7) λh=>B.pv (V.bin .add (s 6) (i6 1)) λa=>o [a] h) (eT n (λs h=>aB (aH.g7 fg.E C Q o (s 0) (s 5) (s 6)) [(s 7),(s 8)] h) m (λs h m=>eK (eL n [0,5,6] [7,8] (gq (aH.g7 fg.E C Q o)) m (λr s h m=>e1 m)))) (λs h m=>e1 m)))) (λs h m=>e1 m)))))) (λs h m=>eS n (λs h=>aB (aH.ic fg.E C Q (s 0) (s 5)) [(i6 0)] h) (eT n (λs h=>aB (aH.ib fg.E C Q (s 0) (s 5)) [(s 9)] h) m (λs h m=>eK (eL n [0,5] [9] (cV (aH.ib fg.E C Q)) m (λY5 s h m=>eT n (λs h=>aB (aH.iw fg.E C Q Y5 (s 0) (s 5) (s 9)) [(i6 0)] h) m (λs h m=>eS n (λs h=>B.pv (V.bin .add (s 9) (i6 1)) λl=>Y5 [l] h) (eK (eT n (λs h=>aB (aH.iw fg.E C Q Y5 (s 0) (s 5) (s 9)) [(s 10)] h) m (λs h m=>eK (eL n [0,5,9] [10] (gq (aH.iw fg.E C Q Y5)) m (λt s h m=>e1 m))))) (λs h m=>e1 m)))))) (λs h m=>eS n (λs h=>aB (aH.gY fg.E C Q (s 0) (s 5)) [(i6 0)] h) (eT n (λs h=>aB (aH.ic fg.E C Q (s 0) (s 5)) [(s 11)] h) m (λs h m=>eK (eL n [0,5] [11] (cV (aH.ic fg.E C Q)) m (λY3 s h m=>eT n (λs h=>0<6 /\ B.eO h 56 (some [i6 0,.str [],i6 0,i6 0,i6 0,.bool false]) (i6 64) (i6 64) λc h=>aB (aH.g8 fg.E C Q Y3 (s 0) (s 5) (s 11) c) [(i6 0)] h) m (λs h m=>eS n (λs h=>B.pv (V.bin .add (s 11) (i6 1)) λd=>Y3 [d] h) (eK (eT n (λs h=>aB (aH.g8 fg.E C Q Y3 (s 0) (s 5) (s 11) (s 12)) [(i6 0)] h) m (λs h m=>eS n (λs h=>aH.og fg.E C Q Y3 (s 0) (s 5) (s 11) (s 12) h) (eT n (λs h=>aB (aH.g8 fg.E C Q Y3 (s 0) (s 5) (s 11) (s 12)) [(s 13)] h) m (λs h m=>eK (eL n [0,5,11,12] [13] (nq (aH.g8 fg.E C Q Y3)) m (λu s h m=>e1 m)))) (λs h m=>e1 m)))) (λs h m=>e1 m)))))) (λs h m=>eS n (λs h=>Q (.bool true) h) (eT n (λs h=>aB (aH.gY fg.E C Q (s 0) (s 5)) [(s 14)] h) m (λs h m=>eK (eL n [0,5] [14] (cV (aH.gY fg.E C Q)) m (λY1 s h m=>eT n (λs h=>aB (aH.l5 fg.E C Q Y1 (s 0) (s 5) (s 14)) [(i6 0)] h) m (λs h m=>eS n (λs h=>B.pv (V.bin .add (s 14) (i6 1)) λe=>Y1 [e] h) (eK (eT n (λs h=>aB (aH.l5 fg.E C Q Y1 (s 0) (s 5) (s 14)) [(s 15)] h) m (λs h m=>eK (eL n [0,5,14] [15] (gq (aH.l5 fg.E C Q Y1)) m (λY2 s h m=>e1 m))))) (λs h m=>e1 m)))))) (λs h m=>e1 m)))))))
theorem fg.imp:fg.aD (AC P) N:=λa h Q b=>eF mixed (fn:=Tryz.f122) (λc=>fg.L c (dn Q) (fv [a]) h b)
def tg.I:Bx:=⟨[],[],193,[(7,pz [(7,[3])] 10),(24,pz [(9,[3,6]),(30,[24,27])] 35),(41,pz [(9,[3,6]),(22,[16,19])] 26)]⟩
def fe.I:Bx:=⟨[],[],193,[(7,pz [(7,[3])] 10),(24,pz [(9,[3,6]),(30,[24,27])] 35),(41,pz [(9,[3,6]),(22,[16,19])] 26)]⟩
abbrev fe.E:fi:=rW 3 24 [i6 0,i6 0,i6 0] (N 78) [.i .i64,.i .i64,.i .i64]
theorem fe.L:sW P fe.I Tryz.f124 λC Q s h=>fe.aY C N (s 0) h Q:=λ{C} n Q s h m=>eT n (λs h=>aB (aH.gz fe.E C Q (s 0)) [(i6 0)] h) m (λs h m=>eS n (λs h=>B.pv (V.aE (s 0)) λb=>0<1 /\ B.eO h 24 (some [.aA]) b b λf h=>aB (aH.gu fe.E C Q (s 0) f) [(i6 0)] h) (eT n (λs h=>aB (aH.gz fe.E C Q (s 0)) [(s 3)] h) m (λs h m=>eK (eL n [0] [3] (ga (aH.gz fe.E C Q)) m (λp s h m=>eT n (λs h=>aB (aH.iv fe.E C Q p (s 0) (s 3)) [(i6 0)] h) m (λs h m=>eS n (λs h=>B.pv (V.bin .add (s 3) (i6 1)) λg=>p [g] h) (eK (eT n (λs h=>aB (aH.iv fe.E C Q p (s 0) (s 3)) [(s 4)] h) m (λs h m=>eK (eL n [0,3] [4] (cV (aH.iv fe.E C Q p)) m (λq s h m=>e1 m))))) (λs h m=>e1 m)))))) (λs h m=>eT n (λs h=>aB (aH.gu fe.E C Q (s 0) (s 5)) [(i6 0)] h) m (λs h m=>eS n (λs h=>aB (aH.ib fe.E C Q (s 0) (s 5)) [(i6 0)] h) (eT n (λs h=>aB (aH.gu fe.E C Q (s 0) (s 5)) [(s 6)] h) m (λs h m=>eK (eL n [0,5] [6] (cV (aH.gu fe.E C Q)) m (λo s h m=>eT n (λs h=>B.pv (V.aM 1 (s 0) (s 6)) λi=>B.ld h i λj=>aB (aH.g7 fe.E C Q o (s 0) (s 5) (s 6)) [j,(i6 0)] h) m (λs h m=>eS n (λs h=>B.pv (V.bin .add (s 6) (i6 1)) λa=>o [a] h) (eK (eT n (λs h=>aB (aH.g7 fe.E C Q o (s 0) (s 5) (s 6)) [(s 7),(i6 0)] h) m (λs h m=>eS n (λs h=>B.pv (V.aM 1 (s 5) (s 6)) λk=>B.st h k (s 7) λh=>B.pv (V.bin .add (s 6) (i6 1)) λa=>o [a] h) (eT n (λs h=>aB (aH.g7 fe.E C Q o (s 0) (s 5) (s 6)) [(s 7),(s 8)] h) m (λs h m=>eK (eL n [0,5,6] [7,8] (gq (aH.g7 fe.E C Q o)) m (λr s h m=>e1 m)))) (λs h m=>e1 m)))) (λs h m=>e1 m)))))) (λs h m=>eS n (λs h=>aB (aH.ic fe.E C Q (s 0) (s 5)) [(i6 0)] h) (eT n (λs h=>aB (aH.ib fe.E C Q (s 0) (s 5)) [(s 9)] h) m (λs h m=>eK (eL n [0,5] [9] (cV (aH.ib fe.E C Q)) m (λY5 s h m=>eT n (λs h=>aB (aH.iw fe.E C Q Y5 (s 0) (s 5) (s 9)) [(i6 0)] h) m (λs h m=>eS n (λs h=>B.pv (V.bin .add (s 9) (i6 1)) λl=>Y5 [l] h) (eK (eT n (λs h=>aB (aH.iw fe.E C Q Y5 (s 0) (s 5) (s 9)) [(s 10)] h) m (λs h m=>eK (eL n [0,5,9] [10] (gq (aH.iw fe.E C Q Y5)) m (λt s h m=>e1 m))))) (λs h m=>e1 m)))))) (λs h m=>eS n (λs h=>aB (aH.gY fe.E C Q (s 0) (s 5)) [(i6 0)] h) (eT n (λs h=>aB (aH.ic fe.E C Q (s 0) (s 5)) [(s 11)] h) m (λs h m=>eK (eL n [0,5] [11] (cV (aH.ic fe.E C Q)) m (λY3 s h m=>eT n (λs h=>0<3 /\ B.eO h 24 (some [i6 0,i6 0,i6 0]) (i6 64) (i6 64) λc h=>aB (aH.g8 fe.E C Q Y3 (s 0) (s 5) (s 11) c) [(i6 0)] h) m (λs h m=>eS n (λs h=>B.pv (V.bin .add (s 11) (i6 1)) λd=>Y3 [d] h) (eK (eT n (λs h=>aB (aH.g8 fe.E C Q Y3 (s 0) (s 5) (s 11) (s 12)) [(i6 0)] h) m (λs h m=>eS n (λs h=>aH.og fe.E C Q Y3 (s 0) (s 5) (s 11) (s 12) h) (eT n (λs h=>aB (aH.g8 fe.E C Q Y3 (s 0) (s 5) (s 11) (s 12)) [(s 13)] h) m (λs h m=>eK (eL n [0,5,11,12] [13] (nq (aH.g8 fe.E C Q Y3)) m (λu s h m=>e1 m)))) (λs h m=>e1 m)))) (λs h m=>e1 m)))))) (λs h m=>eS n (λs h=>Q (.bool true) h) (eT n (λs h=>aB (aH.gY fe.E C Q (s 0) (s 5)) [(s 14)] h) m (λs h m=>eK (eL n [0,5] [14] (cV (aH.gY fe.E C Q)) m (λY1 s h m=>eT n (λs h=>aB (aH.l5 fe.E C Q Y1 (s 0) (s 5) (s 14)) [(i6 0)] h) m (λs h m=>eS n (λs h=>B.pv (V.bin .add (s 14) (i6 1)) λe=>Y1 [e] h) (eK (eT n (λs h=>aB (aH.l5 fe.E C Q Y1 (s 0) (s 5) (s 14)) [(s 15)] h) m (λs h m=>eK (eL n [0,5,14] [15] (gq (aH.l5 fe.E C Q Y1)) m (λY2 s h m=>e1 m))))) (λs h m=>e1 m)))))) (λs h m=>e1 m)))))))
theorem fe.imp:fe.aD (AC P) N:=λa h Q b=>eF mixed (fn:=Tryz.f124) (λc=>fe.L c (dn Q) (fv [a]) h b)
def eX.I:Bx:=⟨[],[],193,[(7,pz [(7,[3])] 10),(24,pz [(9,[3,6]),(30,[24,27])] 35),(41,pz [(9,[3,6]),(22,[16,19])] 26)]⟩
abbrev eX.E:fi:=rW 2 24 [.str [],i6 0] (N 108) [.s,.i .i64]
theorem eX.L:sW P eX.I Tryz.f125 λC Q s h=>eX.aY C N (s 0) h Q:=λ{C} n Q s h m=>eT n (λs h=>aB (aH.gz eX.E C Q (s 0)) [(i6 0)] h) m (λs h m=>eS n (λs h=>B.pv (V.aE (s 0)) λb=>0<1 /\ B.eO h 24 (some [.aA]) b b λf h=>aB (aH.gu eX.E C Q (s 0) f) [(i6 0)] h) (eT n (λs h=>aB (aH.gz eX.E C Q (s 0)) [(s 3)] h) m (λs h m=>eK (eL n [0] [3] (ga (aH.gz eX.E C Q)) m (λp s h m=>eT n (λs h=>aB (aH.iv eX.E C Q p (s 0) (s 3)) [(i6 0)] h) m (λs h m=>eS n (λs h=>B.pv (V.bin .add (s 3) (i6 1)) λg=>p [g] h) (eK (eT n (λs h=>aB (aH.iv eX.E C Q p (s 0) (s 3)) [(s 4)] h) m (λs h m=>eK (eL n [0,3] [4] (cV (aH.iv eX.E C Q p)) m (λq s h m=>e1 m))))) (λs h m=>e1 m)))))) (λs h m=>eT n (λs h=>aB (aH.gu eX.E C Q (s 0) (s 5)) [(i6 0)] h) m (λs h m=>eS n (λs h=>aB (aH.ib eX.E C Q (s 0) (s 5)) [(i6 0)] h) (eT n (λs h=>aB (aH.gu eX.E C Q (s 0) (s 5)) [(s 6)] h) m (λs h m=>eK (eL n [0,5] [6] (cV (aH.gu eX.E C Q)) m (λo s h m=>eT n (λs h=>B.pv (V.aM 1 (s 0) (s 6)) λi=>B.ld h i λj=>aB (aH.g7 eX.E C Q o (s 0) (s 5) (s 6)) [j,(i6 0)] h) m (λs h m=>eS n (λs h=>B.pv (V.bin .add (s 6) (i6 1)) λa=>o [a] h) (eK (eT n (λs h=>aB (aH.g7 eX.E C Q o (s 0) (s 5) (s 6)) [(s 7),(i6 0)] h) m (λs h m=>eS n (λs h=>B.pv (V.aM 1 (s 5) (s 6)) λk=>B.st h k (s 7) λh=>B.pv (V.bin .add (s 6) (i6 1)) λa=>o [a] h) (eT n (λs h=>aB (aH.g7 eX.E C Q o (s 0) (s 5) (s 6)) [(s 7),(s 8)] h) m (λs h m=>eK (eL n [0,5,6] [7,8] (gq (aH.g7 eX.E C Q o)) m (λr s h m=>e1 m)))) (λs h m=>e1 m)))) (λs h m=>e1 m)))))) (λs h m=>eS n (λs h=>aB (aH.ic eX.E C Q (s 0) (s 5)) [(i6 0)] h) (eT n (λs h=>aB (aH.ib eX.E C Q (s 0) (s 5)) [(s 9)] h) m (λs h m=>eK (eL n [0,5] [9] (cV (aH.ib eX.E C Q)) m (λY5 s h m=>eT n (λs h=>aB (aH.iw eX.E C Q Y5 (s 0) (s 5) (s 9)) [(i6 0)] h) m (λs h m=>eS n (λs h=>B.pv (V.bin .add (s 9) (i6 1)) λl=>Y5 [l] h) (eK (eT n (λs h=>aB (aH.iw eX.E C Q Y5 (s 0) (s 5) (s 9)) [(s 10)] h) m (λs h m=>eK (eL n [0,5,9] [10] (gq (aH.iw eX.E C Q Y5)) m (λt s h m=>e1 m))))) (λs h m=>e1 m)))))) (λs h m=>eS n (λs h=>aB (aH.gY eX.E C Q (s 0) (s 5)) [(i6 0)] h) (eT n (λs h=>aB (aH.ic eX.E C Q (s 0) (s 5)) [(s 11)] h) m (λs h m=>eK (eL n [0,5] [11] (cV (aH.ic eX.E C Q)) m (λY3 s h m=>eT n (λs h=>0<2 /\ B.eO h 24 (some [.str [],i6 0]) (i6 64) (i6 64) λc h=>aB (aH.g8 eX.E C Q Y3 (s 0) (s 5) (s 11) c) [(i6 0)] h) m (λs h m=>eS n (λs h=>B.pv (V.bin .add (s 11) (i6 1)) λd=>Y3 [d] h) (eK (eT n (λs h=>aB (aH.g8 eX.E C Q Y3 (s 0) (s 5) (s 11) (s 12)) [(i6 0)] h) m (λs h m=>eS n (λs h=>aH.og eX.E C Q Y3 (s 0) (s 5) (s 11) (s 12) h) (eT n (λs h=>aB (aH.g8 eX.E C Q Y3 (s 0) (s 5) (s 11) (s 12)) [(s 13)] h) m (λs h m=>eK (eL n [0,5,11,12] [13] (nq (aH.g8 eX.E C Q Y3)) m (λu s h m=>e1 m)))) (λs h m=>e1 m)))) (λs h m=>e1 m)))))) (λs h m=>eS n (λs h=>Q (.bool true) h) (eT n (λs h=>aB (aH.gY eX.E C Q (s 0) (s 5)) [(s 14)] h) m (λs h m=>eK (eL n [0,5] [14] (cV (aH.gY eX.E C Q)) m (λY1 s h m=>eT n (λs h=>aB (aH.l5 eX.E C Q Y1 (s 0) (s 5) (s 14)) [(i6 0)] h) m (λs h m=>eS n (λs h=>B.pv (V.bin .add (s 14) (i6 1)) λe=>Y1 [e] h) (eK (eT n (λs h=>aB (aH.l5 eX.E C Q Y1 (s 0) (s 5) (s 14)) [(s 15)] h) m (λs h m=>eK (eL n [0,5,14] [15] (gq (aH.l5 eX.E C Q Y1)) m (λY2 s h m=>e1 m))))) (λs h m=>e1 m)))))) (λs h m=>e1 m)))))))
theorem eX.imp:eX.aD (AC P) N:=λa h Q b=>eF mixed (fn:=Tryz.f125) (λc=>eX.L c (dn Q) (fv [a]) h b)
def fa.I:Bx:=⟨[],[],193,[(7,pz [(7,[3])] 10),(24,pz [(9,[3,6]),(30,[24,27])] 35),(41,pz [(9,[3,6]),(22,[16,19])] 26)]⟩
abbrev fa.E(C:aC):fi:=pZ C 4 72 [.str [],i6 0,.aA,.aA] (N 109) (N 110)
theorem fa.L:sW P fa.I Tryz.f126 λC Q s h=>fa.aY C N (s 0) h Q:=λ{C} n Q s h m=>eT n (λs h=>aB (aH.gz (fa.E C) C Q (s 0)) [(i6 0)] h) m (λs h m=>eS n (λs h=>B.pv (V.aE (s 0)) λb=>0<1 /\ B.eO h 24 (some [.aA]) b b λf h=>aB (aH.gu (fa.E C) C Q (s 0) f) [(i6 0)] h) (eT n (λs h=>aB (aH.gz (fa.E C) C Q (s 0)) [(s 3)] h) m (λs h m=>eK (eL n [0] [3] (ga (aH.gz (fa.E C) C Q)) m (λp s h m=>eT n (λs h=>aB (aH.iv (fa.E C) C Q p (s 0) (s 3)) [(i6 0)] h) m (λs h m=>eS n (λs h=>B.pv (V.bin .add (s 3) (i6 1)) λg=>p [g] h) (eK (eT n (λs h=>aB (aH.iv (fa.E C) C Q p (s 0) (s 3)) [(s 4)] h) m (λs h m=>eK (eL n [0,3] [4] (cV (aH.iv (fa.E C) C Q p)) m (λq s h m=>e1 m))))) (λs h m=>e1 m)))))) (λs h m=>eT n (λs h=>aB (aH.gu (fa.E C) C Q (s 0) (s 5)) [(i6 0)] h) m (λs h m=>eS n (λs h=>aB (aH.ib (fa.E C) C Q (s 0) (s 5)) [(i6 0)] h) (eT n (λs h=>aB (aH.gu (fa.E C) C Q (s 0) (s 5)) [(s 6)] h) m (λs h m=>eK (eL n [0,5] [6] (cV (aH.gu (fa.E C) C Q)) m (λo s h m=>eT n (λs h=>B.pv (V.aM 1 (s 0) (s 6)) λi=>B.ld h i λj=>aB (aH.g7 (fa.E C) C Q o (s 0) (s 5) (s 6)) [j,(i6 0)] h) m (λs h m=>eS n (λs h=>B.pv (V.bin .add (s 6) (i6 1)) λa=>o [a] h) (eK (eT n (λs h=>aB (aH.g7 (fa.E C) C Q o (s 0) (s 5) (s 6)) [(s 7),(i6 0)] h) m (λs h m=>eS n (λs h=>B.pv (V.aM 1 (s 5) (s 6)) λk=>B.st h k (s 7) λh=>B.pv (V.bin .add (s 6) (i6 1)) λa=>o [a] h) (eT n (λs h=>aB (aH.g7 (fa.E C) C Q o (s 0) (s 5) (s 6)) [(s 7),(s 8)] h) m (λs h m=>eK (eL n [0,5,6] [7,8] (gq (aH.g7 (fa.E C) C Q o)) m (λr s h m=>e1 m)))) (λs h m=>e1 m)))) (λs h m=>e1 m)))))) (λs h m=>eS n (λs h=>aB (aH.ic (fa.E C) C Q (s 0) (s 5)) [(i6 0)] h) (eT n (λs h=>aB (aH.ib (fa.E C) C Q (s 0) (s 5)) [(s 9)] h) m (λs h m=>eK (eL n [0,5] [9] (cV (aH.ib (fa.E C) C Q)) m (λY5 s h m=>eT n (λs h=>aB (aH.iw (fa.E C) C Q Y5 (s 0) (s 5) (s 9)) [(i6 0)] h) m (λs h m=>eS n (λs h=>B.pv (V.bin .add (s 9) (i6 1)) λl=>Y5 [l] h) (eK (eT n (λs h=>aB (aH.iw (fa.E C) C Q Y5 (s 0) (s 5) (s 9)) [(s 10)] h) m (λs h m=>eK (eL n [0,5,9] [10] (gq (aH.iw (fa.E C) C Q Y5)) m (λt s h m=>e1 m))))) (λs h m=>e1 m)))))) (λs h m=>eS n (λs h=>aB (aH.gY (fa.E C) C Q (s 0) (s 5)) [(i6 0)] h) (eT n (λs h=>aB (aH.ic (fa.E C) C Q (s 0) (s 5)) [(s 11)] h) m (λs h m=>eK (eL n [0,5] [11] (cV (aH.ic (fa.E C) C Q)) m (λY3 s h m=>eT n (λs h=>0<4 /\ B.eO h 72 (some [.str [],i6 0,.aA,.aA]) (i6 64) (i6 64) λc h=>aB (aH.g8 (fa.E C) C Q Y3 (s 0) (s 5) (s 11) c) [(i6 0)] h) m (λs h m=>eS n (λs h=>B.pv (V.bin .add (s 11) (i6 1)) λd=>Y3 [d] h) (eK (eT n (λs h=>aB (aH.g8 (fa.E C) C Q Y3 (s 0) (s 5) (s 11) (s 12)) [(i6 0)] h) m (λs h m=>eS n (λs h=>aH.og (fa.E C) C Q Y3 (s 0) (s 5) (s 11) (s 12) h) (eT n (λs h=>aB (aH.g8 (fa.E C) C Q Y3 (s 0) (s 5) (s 11) (s 12)) [(s 13)] h) m (λs h m=>eK (eL n [0,5,11,12] [13] (nq (aH.g8 (fa.E C) C Q Y3)) m (λu s h m=>e1 m)))) (λs h m=>e1 m)))) (λs h m=>e1 m)))))) (λs h m=>eS n (λs h=>Q (.bool true) h) (eT n (λs h=>aB (aH.gY (fa.E C) C Q (s 0) (s 5)) [(s 14)] h) m (λs h m=>eK (eL n [0,5] [14] (cV (aH.gY (fa.E C) C Q)) m (λY1 s h m=>eT n (λs h=>aB (aH.l5 (fa.E C) C Q Y1 (s 0) (s 5) (s 14)) [(i6 0)] h) m (λs h m=>eS n (λs h=>B.pv (V.bin .add (s 14) (i6 1)) λe=>Y1 [e] h) (eK (eT n (λs h=>aB (aH.l5 (fa.E C) C Q Y1 (s 0) (s 5) (s 14)) [(s 15)] h) m (λs h m=>eK (eL n [0,5,14] [15] (gq (aH.l5 (fa.E C) C Q Y1)) m (λY2 s h m=>e1 m))))) (λs h m=>e1 m)))))) (λs h m=>e1 m)))))))
theorem fa.imp:fa.aD (AC P) N:=λa h Q b=>eF mixed (fn:=Tryz.f126) (λc=>fa.L c (dn Q) (fv [a]) h b)
def eY.I:Bx:=⟨[],[],193,[(7,pz [(7,[3])] 10),(24,pz [(9,[3,6]),(30,[24,27])] 35),(41,pz [(9,[3,6]),(22,[16,19])] 26)]⟩
abbrev eY.E:fi:=rW 8 80 [i6 0,.str [],i6 0,i6 0,i6 0,.int .u8 0,i6 0,.str []] (N 111) [.i .i64,.s,.i .i64,.i .i64,.i .i64,.i .u8,.i .i64,.s]
theorem eY.L:sW P eY.I Tryz.f127 λC Q s h=>eY.aY C N (s 0) h Q:=λ{C} n Q s h m=>eT n (λs h=>aB (aH.gz eY.E C Q (s 0)) [(i6 0)] h) m (λs h m=>eS n (λs h=>B.pv (V.aE (s 0)) λb=>0<1 /\ B.eO h 24 (some [.aA]) b b λf h=>aB (aH.gu eY.E C Q (s 0) f) [(i6 0)] h) (eT n (λs h=>aB (aH.gz eY.E C Q (s 0)) [(s 3)] h) m (λs h m=>eK (eL n [0] [3] (ga (aH.gz eY.E C Q)) m (λp s h m=>eT n (λs h=>aB (aH.iv eY.E C Q p (s 0) (s 3)) [(i6 0)] h) m (λs h m=>eS n (λs h=>B.pv (V.bin .add (s 3) (i6 1)) λg=>p [g] h) (eK (eT n (λs h=>aB (aH.iv eY.E C Q p (s 0) (s 3)) [(s 4)] h) m (λs h m=>eK (eL n [0,3] [4] (cV (aH.iv eY.E C Q p)) m (λq s h m=>e1 m))))) (λs h m=>e1 m)))))) (λs h m=>eT n (λs h=>aB (aH.gu eY.E C Q (s 0) (s 5)) [(i6 0)] h) m (λs h m=>eS n (λs h=>aB (aH.ib eY.E C Q (s 0) (s 5)) [(i6 0)] h) (eT n (λs h=>aB (aH.gu eY.E C Q (s 0) (s 5)) [(s 6)] h) m (λs h m=>eK (eL n [0,5] [6] (cV (aH.gu eY.E C Q)) m (λo s h m=>eT n (λs h=>B.pv (V.aM 1 (s 0) (s 6)) λi=>B.ld h i λj=>aB (aH.g7 eY.E C Q o (s 0) (s 5) (s 6)) [j,(i6 0)] h) m (λs h m=>eS n (λs h=>B.pv (V.bin .add (s 6) (i6 1)) λa=>o [a] h) (eK (eT n (λs h=>aB (aH.g7 eY.E C Q o (s 0) (s 5) (s 6)) [(s 7),(i6 0)] h) m (λs h m=>eS n (λs h=>B.pv (V.aM 1 (s 5) (s 6)) λk=>B.st h k (s 7) λh=>B.pv (V.bin .add (s 6) (i6 1)) λa=>o [a] h) (eT n (λs h=>aB (aH.g7 eY.E C Q o (s 0) (s 5) (s 6)) [(s 7),(s 8)] h) m (λs h m=>eK (eL n [0,5,6] [7,8] (gq (aH.g7 eY.E C Q o)) m (λr s h m=>e1 m)))) (λs h m=>e1 m)))) (λs h m=>e1 m)))))) (λs h m=>eS n (λs h=>aB (aH.ic eY.E C Q (s 0) (s 5)) [(i6 0)] h) (eT n (λs h=>aB (aH.ib eY.E C Q (s 0) (s 5)) [(s 9)] h) m (λs h m=>eK (eL n [0,5] [9] (cV (aH.ib eY.E C Q)) m (λY5 s h m=>eT n (λs h=>aB (aH.iw eY.E C Q Y5 (s 0) (s 5) (s 9)) [(i6 0)] h) m (λs h m=>eS n (λs h=>B.pv (V.bin .add (s 9) (i6 1)) λl=>Y5 [l] h) (eK (eT n (λs h=>aB (aH.iw eY.E C Q Y5 (s 0) (s 5) (s 9)) [(s 10)] h) m (λs h m=>eK (eL n [0,5,9] [10] (gq (aH.iw eY.E C Q Y5)) m (λt s h m=>e1 m))))) (λs h m=>e1 m)))))) (λs h m=>eS n (λs h=>aB (aH.gY eY.E C Q (s 0) (s 5)) [(i6 0)] h) (eT n (λs h=>aB (aH.ic eY.E C Q (s 0) (s 5)) [(s 11)] h) m (λs h m=>eK (eL n [0,5] [11] (cV (aH.ic eY.E C Q)) m (λY3 s h m=>eT n (λs h=>0<8 /\ B.eO h 80 (some [i6 0,.str [],i6 0,i6 0,i6 0,.int .u8 0,i6 0,.str []]) (i6 64) (i6 64) λc h=>aB (aH.g8 eY.E C Q Y3 (s 0) (s 5) (s 11) c) [(i6 0)] h) m (λs h m=>eS n (λs h=>B.pv (V.bin .add (s 11) (i6 1)) λd=>Y3 [d] h) (eK (eT n (λs h=>aB (aH.g8 eY.E C Q Y3 (s 0) (s 5) (s 11) (s 12)) [(i6 0)] h) m (λs h m=>eS n (λs h=>aH.og eY.E C Q Y3 (s 0) (s 5) (s 11) (s 12) h) (eT n (λs h=>aB (aH.g8 eY.E C Q Y3 (s 0) (s 5) (s 11) (s 12)) [(s 13)] h) m (λs h m=>eK (eL n [0,5,11,12] [13] (nq (aH.g8 eY.E C Q Y3)) m (λu s h m=>e1 m)))) (λs h m=>e1 m)))) (λs h m=>e1 m)))))) (λs h m=>eS n (λs h=>Q (.bool true) h) (eT n (λs h=>aB (aH.gY eY.E C Q (s 0) (s 5)) [(s 14)] h) m (λs h m=>eK (eL n [0,5] [14] (cV (aH.gY eY.E C Q)) m (λY1 s h m=>eT n (λs h=>aB (aH.l5 eY.E C Q Y1 (s 0) (s 5) (s 14)) [(i6 0)] h) m (λs h m=>eS n (λs h=>B.pv (V.bin .add (s 14) (i6 1)) λe=>Y1 [e] h) (eK (eT n (λs h=>aB (aH.l5 eY.E C Q Y1 (s 0) (s 5) (s 14)) [(s 15)] h) m (λs h m=>eK (eL n [0,5,14] [15] (gq (aH.l5 eY.E C Q Y1)) m (λY2 s h m=>e1 m))))) (λs h m=>e1 m)))))) (λs h m=>e1 m)))))))
theorem eY.imp:eY.aD (AC P) N:=λa h Q b=>eF mixed (fn:=Tryz.f127) (λc=>eY.L c (dn Q) (fv [a]) h b)
def tr.I:Bx:=⟨[],[],193,[(7,pz [(7,[3])] 10),(24,pz [(9,[3,6]),(30,[24,27])] 35),(41,pz [(9,[3,6]),(22,[16,19])] 26)]⟩
def eV.I:Bx:=⟨[],[],193,[(7,pz [(7,[3])] 10),(24,pz [(9,[3,6]),(30,[24,27])] 35),(41,pz [(9,[3,6]),(22,[16,19])] 26)]⟩
abbrev eV.E(C:aC):fi:=pZ C 7 96 [i6 0,i6 0,i6 0,.str [],.int .u8 0,.aA,.aA] (N 114) (N 42)
theorem eV.L:sW P eV.I Tryz.f129 λC Q s h=>eV.aY C N (s 0) h Q:=λ{C} n Q s h m=>eT n (λs h=>aB (aH.gz (eV.E C) C Q (s 0)) [(i6 0)] h) m (λs h m=>eS n (λs h=>B.pv (V.aE (s 0)) λb=>0<1 /\ B.eO h 24 (some [.aA]) b b λf h=>aB (aH.gu (eV.E C) C Q (s 0) f) [(i6 0)] h) (eT n (λs h=>aB (aH.gz (eV.E C) C Q (s 0)) [(s 3)] h) m (λs h m=>eK (eL n [0] [3] (ga (aH.gz (eV.E C) C Q)) m (λp s h m=>eT n (λs h=>aB (aH.iv (eV.E C) C Q p (s 0) (s 3)) [(i6 0)] h) m (λs h m=>eS n (λs h=>B.pv (V.bin .add (s 3) (i6 1)) λg=>p [g] h) (eK (eT n (λs h=>aB (aH.iv (eV.E C) C Q p (s 0) (s 3)) [(s 4)] h) m (λs h m=>eK (eL n [0,3] [4] (cV (aH.iv (eV.E C) C Q p)) m (λq s h m=>e1 m))))) (λs h m=>e1 m)))))) (λs h m=>eT n (λs h=>aB (aH.gu (eV.E C) C Q (s 0) (s 5)) [(i6 0)] h) m (λs h m=>eS n (λs h=>aB (aH.ib (eV.E C) C Q (s 0) (s 5)) [(i6 0)] h) (eT n (λs h=>aB (aH.gu (eV.E C) C Q (s 0) (s 5)) [(s 6)] h) m (λs h m=>eK (eL n [0,5] [6] (cV (aH.gu (eV.E C) C Q)) m (λo s h m=>eT n (λs h=>B.pv (V.aM 1 (s 0) (s 6)) λi=>B.ld h i λj=>aB (aH.g7 (eV.E C) C Q o (s 0) (s 5) (s 6)) [j,(i6 0)] h) m (λs h m=>eS n (λs h=>B.pv (V.bin .add (s 6) (i6 1)) λa=>o [a] h) (eK (eT n (λs h=>aB (aH.g7 (eV.E C) C Q o (s 0) (s 5) (s 6)) [(s 7),(i6 0)] h) m (λs h m=>eS n (λs h=>B.pv (V.aM 1 (s 5) (s 6)) λk=>B.st h k (s 7) λh=>B.pv (V.bin .add (s 6) (i6 1)) λa=>o [a] h) (eT n (λs h=>aB (aH.g7 (eV.E C) C Q o (s 0) (s 5) (s 6)) [(s 7),(s 8)] h) m (λs h m=>eK (eL n [0,5,6] [7,8] (gq (aH.g7 (eV.E C) C Q o)) m (λr s h m=>e1 m)))) (λs h m=>e1 m)))) (λs h m=>e1 m)))))) (λs h m=>eS n (λs h=>aB (aH.ic (eV.E C) C Q (s 0) (s 5)) [(i6 0)] h) (eT n (λs h=>aB (aH.ib (eV.E C) C Q (s 0) (s 5)) [(s 9)] h) m (λs h m=>eK (eL n [0,5] [9] (cV (aH.ib (eV.E C) C Q)) m (λY5 s h m=>eT n (λs h=>aB (aH.iw (eV.E C) C Q Y5 (s 0) (s 5) (s 9)) [(i6 0)] h) m (λs h m=>eS n (λs h=>B.pv (V.bin .add (s 9) (i6 1)) λl=>Y5 [l] h) (eK (eT n (λs h=>aB (aH.iw (eV.E C) C Q Y5 (s 0) (s 5) (s 9)) [(s 10)] h) m (λs h m=>eK (eL n [0,5,9] [10] (gq (aH.iw (eV.E C) C Q Y5)) m (λt s h m=>e1 m))))) (λs h m=>e1 m)))))) (λs h m=>eS n (λs h=>aB (aH.gY (eV.E C) C Q (s 0) (s 5)) [(i6 0)] h) (eT n (λs h=>aB (aH.ic (eV.E C) C Q (s 0) (s 5)) [(s 11)] h) m (λs h m=>eK (eL n [0,5] [11] (cV (aH.ic (eV.E C) C Q)) m (λY3 s h m=>eT n (λs h=>0<7 /\ B.eO h 96 (some [i6 0,i6 0,i6 0,.str [],.int .u8 0,.aA,.aA]) (i6 64) (i6 64) λc h=>aB (aH.g8 (eV.E C) C Q Y3 (s 0) (s 5) (s 11) c) [(i6 0)] h) m (λs h m=>eS n (λs h=>B.pv (V.bin .add (s 11) (i6 1)) λd=>Y3 [d] h) (eK (eT n (λs h=>aB (aH.g8 (eV.E C) C Q Y3 (s 0) (s 5) (s 11) (s 12)) [(i6 0)] h) m (λs h m=>eS n (λs h=>aH.og (eV.E C) C Q Y3 (s 0) (s 5) (s 11) (s 12) h) (eT n (λs h=>aB (aH.g8 (eV.E C) C Q Y3 (s 0) (s 5) (s 11) (s 12)) [(s 13)] h) m (λs h m=>eK (eL n [0,5,11,12] [13] (nq (aH.g8 (eV.E C) C Q Y3)) m (λu s h m=>e1 m)))) (λs h m=>e1 m)))) (λs h m=>e1 m)))))) (λs h m=>eS n (λs h=>Q (.bool true) h) (eT n (λs h=>aB (aH.gY (eV.E C) C Q (s 0) (s 5)) [(s 14)] h) m (λs h m=>eK (eL n [0,5] [14] (cV (aH.gY (eV.E C) C Q)) m (λY1 s h m=>eT n (λs h=>aB (aH.l5 (eV.E C) C Q Y1 (s 0) (s 5) (s 14)) [(i6 0)] h) m (λs h m=>eS n (λs h=>B.pv (V.bin .add (s 14) (i6 1)) λe=>Y1 [e] h) (eK (eT n (λs h=>aB (aH.l5 (eV.E C) C Q Y1 (s 0) (s 5) (s 14)) [(s 15)] h) m (λs h m=>eK (eL n [0,5,14] [15] (gq (aH.l5 (eV.E C) C Q Y1)) m (λY2 s h m=>e1 m))))) (λs h m=>e1 m)))))) (λs h m=>e1 m)))))))
theorem eV.imp:eV.aD (AC P) N:=λa h Q b=>eF mixed (fn:=Tryz.f129) (λc=>eV.L c (dn Q) (fv [a]) h b)
def eQ.I:Bx:=⟨[],[],193,[(7,pz [(7,[3])] 10),(24,pz [(9,[3,6]),(30,[24,27])] 35),(41,pz [(9,[3,6]),(22,[16,19])] 26)]⟩
abbrev eQ.E(C:aC):fi:=pZ C 6 96 [i6 0,i6 0,i6 0,.aA,.aA,.aA] (N 115) (N 116)
theorem eQ.L:sW P eQ.I Tryz.f130 λC Q s h=>eQ.aY C N (s 0) h Q:=λ{C} n Q s h m=>eT n (λs h=>aB (aH.gz (eQ.E C) C Q (s 0)) [(i6 0)] h) m (λs h m=>eS n (λs h=>B.pv (V.aE (s 0)) λb=>0<1 /\ B.eO h 24 (some [.aA]) b b λf h=>aB (aH.gu (eQ.E C) C Q (s 0) f) [(i6 0)] h) (eT n (λs h=>aB (aH.gz (eQ.E C) C Q (s 0)) [(s 3)] h) m (λs h m=>eK (eL n [0] [3] (ga (aH.gz (eQ.E C) C Q)) m (λp s h m=>eT n (λs h=>aB (aH.iv (eQ.E C) C Q p (s 0) (s 3)) [(i6 0)] h) m (λs h m=>eS n (λs h=>B.pv (V.bin .add (s 3) (i6 1)) λg=>p [g] h) (eK (eT n (λs h=>aB (aH.iv (eQ.E C) C Q p (s 0) (s 3)) [(s 4)] h) m (λs h m=>eK (eL n [0,3] [4] (cV (aH.iv (eQ.E C) C Q p)) m (λq s h m=>e1 m))))) (λs h m=>e1 m)))))) (λs h m=>eT n (λs h=>aB (aH.gu (eQ.E C) C Q (s 0) (s 5)) [(i6 0)] h) m (λs h m=>eS n (λs h=>aB (aH.ib (eQ.E C) C Q (s 0) (s 5)) [(i6 0)] h) (eT n (λs h=>aB (aH.gu (eQ.E C) C Q (s 0) (s 5)) [(s 6)] h) m (λs h m=>eK (eL n [0,5] [6] (cV (aH.gu (eQ.E C) C Q)) m (λo s h m=>eT n (λs h=>B.pv (V.aM 1 (s 0) (s 6)) λi=>B.ld h i λj=>aB (aH.g7 (eQ.E C) C Q o (s 0) (s 5) (s 6)) [j,(i6 0)] h) m (λs h m=>eS n (λs h=>B.pv (V.bin .add (s 6) (i6 1)) λa=>o [a] h) (eK (eT n (λs h=>aB (aH.g7 (eQ.E C) C Q o (s 0) (s 5) (s 6)) [(s 7),(i6 0)] h) m (λs h m=>eS n (λs h=>B.pv (V.aM 1 (s 5) (s 6)) λk=>B.st h k (s 7) λh=>B.pv (V.bin .add (s 6) (i6 1)) λa=>o [a] h) (eT n (λs h=>aB (aH.g7 (eQ.E C) C Q o (s 0) (s 5) (s 6)) [(s 7),(s 8)] h) m (λs h m=>eK (eL n [0,5,6] [7,8] (gq (aH.g7 (eQ.E C) C Q o)) m (λr s h m=>e1 m)))) (λs h m=>e1 m)))) (λs h m=>e1 m)))))) (λs h m=>eS n (λs h=>aB (aH.ic (eQ.E C) C Q (s 0) (s 5)) [(i6 0)] h) (eT n (λs h=>aB (aH.ib (eQ.E C) C Q (s 0) (s 5)) [(s 9)] h) m (λs h m=>eK (eL n [0,5] [9] (cV (aH.ib (eQ.E C) C Q)) m (λY5 s h m=>eT n (λs h=>aB (aH.iw (eQ.E C) C Q Y5 (s 0) (s 5) (s 9)) [(i6 0)] h) m (λs h m=>eS n (λs h=>B.pv (V.bin .add (s 9) (i6 1)) λl=>Y5 [l] h) (eK (eT n (λs h=>aB (aH.iw (eQ.E C) C Q Y5 (s 0) (s 5) (s 9)) [(s 10)] h) m (λs h m=>eK (eL n [0,5,9] [10] (gq (aH.iw (eQ.E C) C Q Y5)) m (λt s h m=>e1 m))))) (λs h m=>e1 m)))))) (λs h m=>eS n (λs h=>aB (aH.gY (eQ.E C) C Q (s 0) (s 5)) [(i6 0)] h) (eT n (λs h=>aB (aH.ic (eQ.E C) C Q (s 0) (s 5)) [(s 11)] h) m (λs h m=>eK (eL n [0,5] [11] (cV (aH.ic (eQ.E C) C Q)) m (λY3 s h m=>eT n (λs h=>0<6 /\ B.eO h 96 (some [i6 0,i6 0,i6 0,.aA,.aA,.aA]) (i6 64) (i6 64) λc h=>aB (aH.g8 (eQ.E C) C Q Y3 (s 0) (s 5) (s 11) c) [(i6 0)] h) m (λs h m=>eS n (λs h=>B.pv (V.bin .add (s 11) (i6 1)) λd=>Y3 [d] h) (eK (eT n (λs h=>aB (aH.g8 (eQ.E C) C Q Y3 (s 0) (s 5) (s 11) (s 12)) [(i6 0)] h) m (λs h m=>eS n (λs h=>aH.og (eQ.E C) C Q Y3 (s 0) (s 5) (s 11) (s 12) h) (eT n (λs h=>aB (aH.g8 (eQ.E C) C Q Y3 (s 0) (s 5) (s 11) (s 12)) [(s 13)] h) m (λs h m=>eK (eL n [0,5,11,12] [13] (nq (aH.g8 (eQ.E C) C Q Y3)) m (λu s h m=>e1 m)))) (λs h m=>e1 m)))) (λs h m=>e1 m)))))) (λs h m=>eS n (λs h=>Q (.bool true) h) (eT n (λs h=>aB (aH.gY (eQ.E C) C Q (s 0) (s 5)) [(s 14)] h) m (λs h m=>eK (eL n [0,5] [14] (cV (aH.gY (eQ.E C) C Q)) m (λY1 s h m=>eT n (λs h=>aB (aH.l5 (eQ.E C) C Q Y1 (s 0) (s 5) (s 14)) [(i6 0)] h) m (λs h m=>eS n (λs h=>B.pv (V.bin .add (s 14) (i6 1)) λe=>Y1 [e] h) (eK (eT n (λs h=>aB (aH.l5 (eQ.E C) C Q Y1 (s 0) (s 5) (s 14)) [(s 15)] h) m (λs h m=>eK (eL n [0,5,14] [15] (gq (aH.l5 (eQ.E C) C Q Y1)) m (λY2 s h m=>e1 m))))) (λs h m=>e1 m)))))) (λs h m=>e1 m)))))))
theorem eQ.imp:eQ.aD (AC P) N:=λa h Q b=>eF mixed (fn:=Tryz.f130) (λc=>eQ.L c (dn Q) (fv [a]) h b)
def ff.I:Bx:=⟨[],[],193,[(7,pz [(7,[3])] 10),(24,pz [(9,[3,6]),(30,[24,27])] 35),(41,pz [(9,[3,6]),(22,[16,19])] 26)]⟩
abbrev ff.E(C:aC):fi:=pZ C 2 48 [.aA,.aA] (N 117) (N 118)
theorem ff.L:sW P ff.I Tryz.f131 λC Q s h=>ff.aY C N (s 0) h Q:=λ{C} n Q s h m=>eT n (λs h=>aB (aH.gz (ff.E C) C Q (s 0)) [(i6 0)] h) m (λs h m=>eS n (λs h=>B.pv (V.aE (s 0)) λb=>0<1 /\ B.eO h 24 (some [.aA]) b b λf h=>aB (aH.gu (ff.E C) C Q (s 0) f) [(i6 0)] h) (eT n (λs h=>aB (aH.gz (ff.E C) C Q (s 0)) [(s 3)] h) m (λs h m=>eK (eL n [0] [3] (ga (aH.gz (ff.E C) C Q)) m (λp s h m=>eT n (λs h=>aB (aH.iv (ff.E C) C Q p (s 0) (s 3)) [(i6 0)] h) m (λs h m=>eS n (λs h=>B.pv (V.bin .add (s 3) (i6 1)) λg=>p [g] h) (eK (eT n (λs h=>aB (aH.iv (ff.E C) C Q p (s 0) (s 3)) [(s 4)] h) m (λs h m=>eK (eL n [0,3] [4] (cV (aH.iv (ff.E C) C Q p)) m (λq s h m=>e1 m))))) (λs h m=>e1 m)))))) (λs h m=>eT n (λs h=>aB (aH.gu (ff.E C) C Q (s 0) (s 5)) [(i6 0)] h) m (λs h m=>eS n (λs h=>aB (aH.ib (ff.E C) C Q (s 0) (s 5)) [(i6 0)] h) (eT n (λs h=>aB (aH.gu (ff.E C) C Q (s 0) (s 5)) [(s 6)] h) m (λs h m=>eK (eL n [0,5] [6] (cV (aH.gu (ff.E C) C Q)) m (λo s h m=>eT n (λs h=>B.pv (V.aM 1 (s 0) (s 6)) λi=>B.ld h i λj=>aB (aH.g7 (ff.E C) C Q o (s 0) (s 5) (s 6)) [j,(i6 0)] h) m (λs h m=>eS n (λs h=>B.pv (V.bin .add (s 6) (i6 1)) λa=>o [a] h) (eK (eT n (λs h=>aB (aH.g7 (ff.E C) C Q o (s 0) (s 5) (s 6)) [(s 7),(i6 0)] h) m (λs h m=>eS n (λs h=>B.pv (V.aM 1 (s 5) (s 6)) λk=>B.st h k (s 7) λh=>B.pv (V.bin .add (s 6) (i6 1)) λa=>o [a] h) (eT n (λs h=>aB (aH.g7 (ff.E C) C Q o (s 0) (s 5) (s 6)) [(s 7),(s 8)] h) m (λs h m=>eK (eL n [0,5,6] [7,8] (gq (aH.g7 (ff.E C) C Q o)) m (λr s h m=>e1 m)))) (λs h m=>e1 m)))) (λs h m=>e1 m)))))) (λs h m=>eS n (λs h=>aB (aH.ic (ff.E C) C Q (s 0) (s 5)) [(i6 0)] h) (eT n (λs h=>aB (aH.ib (ff.E C) C Q (s 0) (s 5)) [(s 9)] h) m (λs h m=>eK (eL n [0,5] [9] (cV (aH.ib (ff.E C) C Q)) m (λY5 s h m=>eT n (λs h=>aB (aH.iw (ff.E C) C Q Y5 (s 0) (s 5) (s 9)) [(i6 0)] h) m (λs h m=>eS n (λs h=>B.pv (V.bin .add (s 9) (i6 1)) λl=>Y5 [l] h) (eK (eT n (λs h=>aB (aH.iw (ff.E C) C Q Y5 (s 0) (s 5) (s 9)) [(s 10)] h) m (λs h m=>eK (eL n [0,5,9] [10] (gq (aH.iw (ff.E C) C Q Y5)) m (λt s h m=>e1 m))))) (λs h m=>e1 m)))))) (λs h m=>eS n (λs h=>aB (aH.gY (ff.E C) C Q (s 0) (s 5)) [(i6 0)] h) (eT n (λs h=>aB (aH.ic (ff.E C) C Q (s 0) (s 5)) [(s 11)] h) m (λs h m=>eK (eL n [0,5] [11] (cV (aH.ic (ff.E C) C Q)) m (λY3 s h m=>eT n (λs h=>0<2 /\ B.eO h 48 (some [.aA,.aA]) (i6 64) (i6 64) λc h=>aB (aH.g8 (ff.E C) C Q Y3 (s 0) (s 5) (s 11) c) [(i6 0)] h) m (λs h m=>eS n (λs h=>B.pv (V.bin .add (s 11) (i6 1)) λd=>Y3 [d] h) (eK (eT n (λs h=>aB (aH.g8 (ff.E C) C Q Y3 (s 0) (s 5) (s 11) (s 12)) [(i6 0)] h) m (λs h m=>eS n (λs h=>aH.og (ff.E C) C Q Y3 (s 0) (s 5) (s 11) (s 12) h) (eT n (λs h=>aB (aH.g8 (ff.E C) C Q Y3 (s 0) (s 5) (s 11) (s 12)) [(s 13)] h) m (λs h m=>eK (eL n [0,5,11,12] [13] (nq (aH.g8 (ff.E C) C Q Y3)) m (λu s h m=>e1 m)))) (λs h m=>e1 m)))) (λs h m=>e1 m)))))) (λs h m=>eS n (λs h=>Q (.bool true) h) (eT n (λs h=>aB (aH.gY (ff.E C) C Q (s 0) (s 5)) [(s 14)] h) m (λs h m=>eK (eL n [0,5] [14] (cV (aH.gY (ff.E C) C Q)) m (λY1 s h m=>eT n (λs h=>aB (aH.l5 (ff.E C) C Q Y1 (s 0) (s 5) (s 14)) [(i6 0)] h) m (λs h m=>eS n (λs h=>B.pv (V.bin .add (s 14) (i6 1)) λe=>Y1 [e] h) (eK (eT n (λs h=>aB (aH.l5 (ff.E C) C Q Y1 (s 0) (s 5) (s 14)) [(s 15)] h) m (λs h m=>eK (eL n [0,5,14] [15] (gq (aH.l5 (ff.E C) C Q Y1)) m (λY2 s h m=>e1 m))))) (λs h m=>e1 m)))))) (λs h m=>e1 m)))))))
theorem ff.imp:ff.aD (AC P) N:=λa h Q b=>eF mixed (fn:=Tryz.f131) (λc=>ff.L c (dn Q) (fv [a]) h b)
def th.I:Bx:=⟨[],[],193,[(7,pz [(7,[3])] 10),(24,pz [(9,[3,6]),(30,[24,27])] 35),(41,pz [(9,[3,6]),(22,[16,19])] 26)]⟩
def tp.I:Bx:=⟨[],[],193,[(7,pz [(7,[3])] 10),(24,pz [(9,[3,6]),(30,[24,27])] 35),(41,pz [(9,[3,6]),(22,[16,19])] 26)]⟩
def td.I:Bx:=⟨[],[],193,[(7,pz [(7,[3])] 10),(24,pz [(9,[3,6]),(30,[24,27])] 35),(41,pz [(9,[3,6]),(22,[16,19])] 26)]⟩
def tl.I:Bx:=⟨[],[],193,[(7,pz [(7,[3])] 10),(24,pz [(9,[3,6]),(30,[24,27])] 35),(41,pz [(9,[3,6]),(22,[16,19])] 26)]⟩
def ta.I:Bx:=⟨[],[],193,[(7,pz [(7,[3])] 10),(24,pz [(9,[3,6]),(30,[24,27])] 35),(41,pz [(9,[3,6]),(22,[16,19])] 26)]⟩
def tj.I:Bx:=⟨[],[],193,[(7,pz [(7,[3])] 10),(24,pz [(9,[3,6]),(30,[24,27])] 35),(41,pz [(9,[3,6]),(22,[16,19])] 26)]⟩
def ti.I:Bx:=⟨[],[],193,[(7,pz [(7,[3])] 10),(24,pz [(9,[3,6]),(30,[24,27])] 35),(41,pz [(9,[3,6]),(22,[16,19])] 26)]⟩
theorem pD.imp:pD.aD A0 N:=fz f139 pD.k3 ⟨[],[],25,[]⟩ λ{C} d Q=>fT d (m1 (pD.k3 C N Q) 0) (fT d (λs h=>B.bO h 1 1 (s 3) (s 0) λa h=>aB (oX.l4 C 1 (N 64) (.int .u8 0) 1 Q (s 0)) [a,(i6 0)] h) (fT d (λs h=>aB (oX.l4 C 1 (N 64) (.int .u8 0) 1 Q (s 0)) [(s 3),(i6 0)] h) (fS d (λs h=>B.pv (V.aE (s 0)) λb=>B.pv (V.dS 1 (s 3) none (some b)) λc=>Q c h) (fM d [0] [3,4] (ga (oX.l4 C 1 (N 64) (.int .u8 0) 1 Q)) λY1=>f1) f1)))
theorem na.imp:na.aD A0 N:=fm f140 na.k1 ⟨[],[],12,[]⟩ λ{C} a Q=>f1
theorem zC.imp:zC.aD (AC P) N:=λx y a b S T h Q hx c d=>K2 (fn:=Tryz.f141) (by kernel_rfl) (by kernel_rfl) (by kernel_rfl) (by kernel_rfl) (by kernel_rfl) hx c d
theorem ou.imp:ou.aD A0 N:=fz f142 ou.k1 ⟨[],[],34,[]⟩ λ{C} a Q=>f1
theorem mU.imp:mU.aD A0 N:=fm f143 mU.k4 ⟨[],[],58,[(7,pz [(30,[25])] 35)]⟩ λ{C} a Q=>fT a (m2 (mU.k4 C N Q) 0 1) (fT a (m2 (mU.k3 C N Q) 0 1) (fT a (l2 (rn.l4 C (N 64) 1 Q) 1 5 iO []) (fS a (λs h=>Q (.bool true) h) (fM a [1,5] [6] (cV (rn.l4 C (N 64) 1 Q)) λY1=>f1) f1)))
theorem qu.imp:qu.aD A0 N:=fz f144 qu.k3 ⟨[],[],20,[]⟩ λ{C} b Q=>fT b (λs h=>aB (jH.l3 C 1 (N 64) (λh p v K=>B.st h p v K) 2 Q (s 2)) [(i6 0)] h) (fM b [2] [3] (λd c h Y1=>match d with|[a]=>jH.l3 C 1 (N 64) (λh p v K=>B.st h p v K) 2 Q a c h Y1|_=>False) λY1=>f1)
theorem iy.imp:iy.aD A0 N:=fm f145 iy.k4 ⟨[],[],60,[(1,pz [] 18),(8,pz [] 17)]⟩ λ{C} a Q=>fT a (m2 (iy.k4 C N Q) 0 1) (fT a (l2 (iy.l3 C N Q) 0 1 [(.int .u64 0),(i6 0)] []) (fT a (λs h=>aB (iy.l3 C N Q (s 0) (s 1)) [(s 5),(i6 0)] h) (fS a (m3 (iy.k1 C N Q) 0 1 5) (fM a [0,1] [5,6] (cV (iy.l3 C N Q)) λY1=>f1) f1)))
theorem nr.imp:nr.aD A0 N:=fz f146 nr.k1 ⟨[],[],39,[(3,pz [] 17)]⟩ λ{C} a Q=>f1
theorem ub.imp:ub.aD A0 N:=fm f147 ub.k1 ⟨[3],[5,9,13],16,[]⟩ λ{C} a Q=>f1
theorem n8.imp:n8.aD A0 N:=fm f148 n8.k1 ⟨[4],[],9,[]⟩ λ{C} a Q=>f1
theorem hJ.imp:hJ.aD A0 N:=ix f149 hJ.aY ⟨[1,5,7],[8,12,17,22,27,30,37,41,46,51,55,60,65,69,76,81,87,92,103,110,114,119],124,[]⟩ λ{C} e Q=>fT e (m1 (hJ.k6 C N Q) 125) (fT e (m2 (hJ.k5 C N Q) 3 125) (fT e (λs h=>B.al (s 125) (B.pv (V.aF 5 (s 125)) λb=>B.pv (V.aE b) λd=>aB (hJ.l4 C N Q b d (s 125)) [(i6 0)] h)) (fS e (λs h=>B.al (s 125) (B.pv (V.aF 6 (s 125)) λa=>B.pv (V.aE a) λc=>aB (hJ.l2 C N Q a c) [(i6 0)] h)) (fM e [93,94,125] [95] (gq (hJ.l4 C N Q)) λY2=>f1) (fS e (λs h=>Q (.bool true) h) (fM e [104,105] [106] (cV (hJ.l2 C N Q)) λY1=>f1) f1))))
theorem lY.imp:lY.aD A0 N:=zm f150 lY.aY ⟨[],[],23,[]⟩ λ{C} b Q=>fT b (λs h=>B.pv (V.bin .sub (s 2) (i6 1)) λa=>aB (lY.l2 C N Q (s 1)) [(s 0),a] h) (fS b (λs h=>Q (s 0) h) (fM b [1] [0,7] (ga (lY.l2 C N Q)) λY1=>f1) f1)
theorem ml.imp:ml.aD A0 N:=zm f151 ml.aY ⟨[],[],31,[(3,pz [] 7)]⟩ λ{C} a Q=>fM a [0,1,2] [4] (gq (ml.l2 C N Q)) λY1=>f1
theorem ig.imp:ig.aD A0 N:=fm f152 ig.k5 ⟨[],[],68,[(1,pz [] 22),(5,pz [] 17)]⟩ λ{C} a Q=>fT a (m2 (ig.k5 C N Q) 0 1) (fT a (λs h=>ig.k4 C N Q (s 0) (s 1) (i6 0) h) (fT a (m3 (ig.k4 C N Q) 0 1 5) (fS a (m3 (ig.k1 C N Q) 0 1 5) (fM a [0,1,47,48] [5,49] (nq (ig.l3 C N Q)) λY1=>f1) f1)))
theorem pq.imp:pq.aD A0 N:=fz f153 pq.k1 ⟨[],[],38,[(3,pz [] 17)]⟩ λ{C} a Q=>f1
theorem lE.imp:lE.aD A0 N:=mj f154 lE.aY ⟨[],[],26,[]⟩ λ{C} b Q=>fT b (λs h=>B.call C (N 65) [(s 0),(i6 2)] h λa h=>aB (lE.l2 C N Q (s 0) (s 1)) [.aA,a] h) (fT b (λs h=>B.call C (N 65) [(s 0),(i6 2)] h λa h=>aB (lE.l2 C N Q (s 0) (s 1)) [(s 5),a] h) (fS b (λs h=>Q (s 5) h) (fM b [0,1] [5,6] (cV (lE.l2 C N Q)) λY1=>f1) f1))
theorem qh.imp:qh.aD A0 N:=fz f155 qh.k1 ⟨[2,3],[14,15,16,17,20,25],38,[]⟩ λ{C} a Q=>f1
theorem lD.imp:lD.aD A0 N:=mj f156 lD.aY ⟨[],[],26,[]⟩ λ{C} b Q=>fT b (λs h=>B.call C (N 65) [(s 0),(i6 2)] h λa h=>aB (lD.l2 C N Q (s 0) (s 1)) [.aA,a] h) (fT b (λs h=>B.call C (N 65) [(s 0),(i6 2)] h λa h=>aB (lD.l2 C N Q (s 0) (s 1)) [(s 5),a] h) (fS b (λs h=>Q (s 5) h) (fM b [0,1] [5,6] (cV (lD.l2 C N Q)) λY1=>f1) f1))
theorem qg.imp:qg.aD A0 N:=fz f157 qg.k1 ⟨[2],[],10,[]⟩ λ{C} a Q=>f1
theorem gP.imp:gP.aD A0 N:=ix f158 gP.aY ⟨[1],[5,9,13,16,20,25,30,35,38,44,48,53,58,62,69,74,80,86,92,100,106,114,123],131,[]⟩ λ{C} a Q=>fT a (m1 (gP.k7 C N Q) 132) (fT a (m1 (gP.k6 C N Q) 132) (fT a (m1 (gP.k5 C N Q) 132) (fT a (l1 (gP.l4 C N Q) 132 iO []) (fS a (l1 (gP.l2 C N Q) 132 iO []) (fM a [132] [3] (ga (gP.l4 C N Q)) λY2=>f1) (fS a (λs h=>Q (.bool true) h) (fM a [132] [4] (ga (gP.l2 C N Q)) λY1=>f1) f1)))))
theorem kV.imp:kV.aD A0 N:=mj f159 kV.aY ⟨[],[],24,[]⟩ λ{C} b Q=>fT b (λs h=>B.pv (V.bin .sub (s 1) (i6 1)) λa=>aB (kV.l2 C N Q (s 0)) [.aA,a] h) (fT b (λs h=>B.pv (V.bin .sub (s 1) (i6 1)) λa=>aB (kV.l2 C N Q (s 0)) [(s 5),a] h) (fS b (λs h=>Q (s 5) h) (fM b [0] [5,6] (ga (kV.l2 C N Q)) λY1=>f1) f1))
theorem pK.imp:pK.aD A0 N:=fz f160 pK.k1 ⟨[2,3],[10,13,14,17,18,21,26],39,[]⟩ λ{C} a Q=>f1
theorem ue.imp:ue.aD A0 N:=fm f161 ue.k1 ⟨[3],[5,9],12,[]⟩ λ{C} a Q=>f1
theorem lG.imp:lG.aD A0 N:=ix f162 lG.aY ⟨[5],[],22,[]⟩ λ{C} a Q=>fT a (l1 (lG.l2 C N Q) 0 [.aA,(i6 0)] []) (fT a (λs h=>aB (lG.l2 C N Q (s 0)) [(s 3),(i6 0)] h) (fS a (λs h=>Q (s 3) h) (fM a [0] [3,4] (ga (lG.l2 C N Q)) λY1=>f1) f1))
theorem qJ.imp:qJ.aD A0 N:=ix f163 qJ.aY ⟨[],[],7,[]⟩ λ{C} a Q=>f1
theorem q7.imp:q7.aD A0 N:=ix f164 q7.aY ⟨[],[],7,[]⟩ λ{C} a Q=>f1
theorem pB.imp:pB.aD A0 N:=fz f165 pB.k3 ⟨[],[],25,[]⟩ λ{C} d Q=>fT d (m1 (pB.k3 C N Q) 0) (fT d (λs h=>B.bO h 2 24 (s 3) (s 0) λa h=>aB (kR.l4 C 2 24 (N 108) [.str [],i6 0] 1 Q (s 0)) [a,(i6 0)] h) (fT d (λs h=>aB (kR.l4 C 2 24 (N 108) [.str [],i6 0] 1 Q (s 0)) [(s 3),(i6 0)] h) (fS d (λs h=>B.pv (V.aE (s 0)) λb=>B.pv (V.dS 2 (s 3) none (some b)) λc=>Q c h) (fM d [0] [3,4] (ga (kR.l4 C 2 24 (N 108) [.str [],i6 0] 1 Q)) λY1=>f1) f1)))
theorem pA.imp:pA.aD A0 N:=fz f166 pA.k3 ⟨[],[],25,[]⟩ λ{C} d Q=>fT d (m1 (pA.k3 C N Q) 0) (fT d (λs h=>B.bO h 1 16 (s 3) (s 0) λa h=>aB (oX.l4 C 16 (N 106) (.str []) 1 Q (s 0)) [a,(i6 0)] h) (fT d (λs h=>aB (oX.l4 C 16 (N 106) (.str []) 1 Q (s 0)) [(s 3),(i6 0)] h) (fS d (λs h=>B.pv (V.aE (s 0)) λb=>B.pv (V.dS 1 (s 3) none (some b)) λc=>Q c h) (fM d [0] [3,4] (ga (oX.l4 C 16 (N 106) (.str []) 1 Q)) λY1=>f1) f1)))
theorem lL.imp:lL.aD A0 N:=mj f167 lL.aY ⟨[],[],10,[]⟩ λ{C} a Q=>f1
theorem kJ.imp:kJ.aD A0 N:=mj f168 kJ.aY ⟨[],[],29,[]⟩ λ{C} d Q=>fT d (λs h=>B.pv (V.aE (s 1)) λc=>aB (kJ.l2 C N Q (s 0) (s 1) (s 1) c) [(i6 0)] h) (fS d (λs h=>B.pv (V.aE (s 1)) λa=>B.pv (V.bin .leq a (s 0)) λb=>Q b h) (fM d [0,1,7,8] [9] (nq (kJ.l2 C N Q)) λY1=>f1) f1)
theorem q9.imp:q9.aD A0 N:=fz f169 q9.k1 ⟨[1],[3,7,9,14],18,[]⟩ λ{C} a Q=>f1
theorem po.imp:po.aD A0 N:=mj f170 po.aY ⟨[],[],27,[]⟩ λ{C} b Q=>fT b (λs h=>B.pv (V.bin .lss (s 1) (i6 0)) λa=>B.cond a (False) (vR.k1 C (dH 1 (.int .u8 0) 0) Q (s 0) (s 1) h)) (fT b (m2 (vR.k1 C (dH 1 (.int .u8 0) 0) Q) 0 1) f1)
theorem mQ.imp:mQ.aD A0 N:=fm f171 mQ.k4 ⟨[],[],58,[(7,pz [(30,[25])] 35)]⟩ λ{C} a Q=>fT a (m2 (mQ.k4 C N Q) 0 1) (fT a (m2 (mQ.k3 C N Q) 0 1) (fT a (l2 (mH.l4 C 2 (N 108) [.s,.i .i64] 1 Q) 1 5 iO []) (fS a (λs h=>Q (.bool true) h) (fM a [1,5] [6] (cV (mH.l4 C 2 (N 108) [.s,.i .i64] 1 Q)) λY1=>f1) f1)))
theorem mP.imp:mP.aD A0 N:=fm f172 mP.k4 ⟨[],[],58,[(7,pz [(30,[25])] 35)]⟩ λ{C} a Q=>fT a (m2 (mP.k4 C N Q) 0 1) (fT a (m2 (mP.k3 C N Q) 0 1) (fT a (l2 (rn.l4 C (N 106) 1 Q) 1 5 iO []) (fS a (λs h=>Q (.bool true) h) (fM a [1,5] [6] (cV (rn.l4 C (N 106) 1 Q)) λY1=>f1) f1)))
theorem pt.imp:pt.aD A0 N:=fm f173 pt.k3 ⟨[],[],26,[(6,pz [] 9)]⟩ λ{C} a Q=>fT a (m2 (pt.k3 C N Q) 0 1) (fT a (l2 (mD.l4 2 [.s,.i .i64] Q) 0 1 iO []) (fS a (λs h=>Q (.bool true) h) (fM a [0,1] [5] (cV (mD.l4 2 [.s,.i .i64] Q)) λY1=>f1) f1))
theorem pr.imp:pr.aD A0 N:=fm f174 pr.k3 ⟨[],[],26,[(6,pz [] 9)]⟩ λ{C} a Q=>fT a (m2 (pr.k3 C N Q) 0 1) (fT a (l2 (rP.l4 Q) 0 1 iO []) (fS a (λs h=>Q (.bool true) h) (fM a [0,1] [5] (cV (rP.l4  Q)) λY1=>f1) f1))
theorem qs.imp:qs.aD A0 N:=fz f175 qs.k3 ⟨[],[],20,[]⟩ λ{C} b Q=>fT b (λs h=>aB (jH.l3 C 2 (N 108) (λh p v K=>B.gp h p 2 v K) 2 Q (s 2)) [(i6 0)] h) (fM b [2] [3] (λd c h Y1=>match d with|[a]=>jH.l3 C 2 (N 108) (λh p v K=>B.gp h p 2 v K) 2 Q a c h Y1|_=>False) λY1=>f1)
theorem qp.imp:qp.aD A0 N:=fz f176 qp.k3 ⟨[],[],20,[]⟩ λ{C} b Q=>fT b (λs h=>aB (jH.l3 C 1 (N 106) (λh p v K=>B.st h p v K) 2 Q (s 2)) [(i6 0)] h) (fM b [2] [3] (λd c h Y1=>match d with|[a]=>jH.l3 C 1 (N 106) (λh p v K=>B.st h p v K) 2 Q a c h Y1|_=>False) λY1=>f1)
theorem iX.imp:iX.aD A0 N:=fz f177 iX.k3 ⟨[],[],56,[]⟩ λ{C} a Q=>fT a (m1 (iX.k3 C N Q) 0) (fT a (l1 (iX.l2 C N Q) 0 iO []) (fS a (λs h=>Q (.bool true) h) (fM a [0] [3] (ga (iX.l2 C N Q)) λY1=>f1) f1))
theorem qM.imp:qM.aD A0 N:=fz f178 qM.k1 ⟨[1],[6,14,19,25,30,34,43,47,57,62,66,75,83,87,97,102,106,115,123,132,141,151,159,169,178,180,189],195,[(4,[(0,[]),(2,[]),(3,[]),(4,[]),(1,[3]),(5,[]),(6,[]),(7,[]),(8,[]),(9,[]),(10,[]),(11,[]),(12,[]),(13,[]),(14,[]),(15,[]),(16,[])])]⟩ λ{C} a Q=>f1
theorem ny.imp:ny.aD A0 N:=fm f179 ny.k1 ⟨[],[],23,[]⟩ λ{C} a Q=>f1
theorem nz.imp:nz.aD A0 N:=fm f182 nz.k1 ⟨[4],[],9,[]⟩ λ{C} a Q=>f1
theorem qB.imp:qB.aD A0 N:=fm f185 qB.k1 ⟨[4],[],9,[]⟩ λ{C} a Q=>f1
theorem qo.imp:qo.aD A0 N:=fm f186 qo.k1 ⟨[4],[],9,[]⟩ λ{C} a Q=>f1
theorem pO.imp:pO.aD A0 N:=fz f198 pO.k1 ⟨[],[],38,[]⟩ λ{C} a Q=>f1
theorem qU.imp:qU.aD A0 N:=fz f199 qU.k1 ⟨[],[],43,[]⟩ λ{C} a Q=>f1
theorem ot.imp:ot.aD A0 N:=fm f200 ot.k3 ⟨[],[],27,[]⟩ λ{C} a Q=>fT a (l2 (ot.l2 C N Q) 0 1 iO []) (fM a [0,1] [4] (cV (ot.l2 C N Q)) λY1=>f1)
theorem ud.imp:ud.aD A0 N:=fm f201 ud.k1 ⟨[],[],14,[]⟩ λ{C} a Q=>f1
theorem tZ.imp:tZ.aD A0 N:=fm f202 tZ.k1 ⟨[],[],14,[]⟩ λ{C} a Q=>f1
theorem uc.imp:uc.aD A0 N:=fm f203 uc.k1 ⟨[],[],14,[]⟩ λ{C} a Q=>f1
theorem qK.imp:qK.aD A0 N:=fz f204 qK.k1 ⟨[1,2],[3,6,7,10],12,[]⟩ λ{C} a Q=>f1
theorem pj.imp:pj.aD A0 N:=mj f205 pj.aY ⟨[],[],9,[]⟩ λ{C} a Q=>f1
theorem gJ.imp:gJ.aD A0 N:=fz f206 gJ.k6 ⟨[],[],31,[]⟩ λ{C} e Q=>fT e (m1 (gJ.k6 C N Q) 0) (fS e (λs h=>Q (.bI [(.str []),(.bool false)]) h) (fT e (m1 (gJ.k6 C N Q) 4) (fK (fT e (λs h=>B.cond (s 5) (Q (.bI [(.str [105,108]),(.bool true)]) h) (B.pv (V.bin .eql (s 4) (.int .u8 2)) λd=>B.cond d (Q (.bI [(.str [105,112]),(.bool true)]) h) (gJ.k5 C N Q (s 4) h))) (fC 5 f1 (fT e (λs h=>B.cond (s 7) (Q (.bI [(.str [105,112]),(.bool true)]) h) (gJ.k5 C N Q (s 4) h)) (fC 7 f1 (fT e (λs h=>B.cond (s 9) (Q (.bI [(.str [105,111]),(.bool true)]) h) (B.pv (V.bin .eql (s 4) (.int .u8 4)) λa=>B.cond a (Q (.bI [(.str [105,113]),(.bool true)]) h) (gJ.k4 C N Q (s 4) h))) (fC 9 f1 (fT e (λs h=>B.cond (s 11) (Q (.bI [(.str [105,113]),(.bool true)]) h) (gJ.k4 C N Q (s 4) h)) (fC 11 f1 (fT e (λs h=>B.cond (s 13) (Q (.bI [(.str [105,113,100]),(.bool true)]) h) (B.pv (V.bin .eql (s 4) (.int .u8 6)) λb=>B.cond b (Q (.bI [(.str [116,100]),(.bool true)]) h) (gJ.k3 C N Q (s 4) h))) (fC 13 f1 (fT e (λs h=>B.cond (s 16) (Q (.bI [(.str [116,100]),(.bool true)]) h) (gJ.k3 C N Q (s 4) h)) (fC 16 f1 (fT e (λs h=>B.cond (s 18) (Q (.bI [(.str [116]),(.bool true)]) h) (B.pv (V.bin .eql (s 4) (.int .u8 9)) λc=>B.cond c (Q (.bI [(.str [105,113,100,114]),(.bool true)]) h) (gJ.k2 C N Q (s 4) h))) (fC 18 f1 (fT e (λs h=>B.cond (s 21) (Q (.bI [(.str [105,113,100,114]),(.bool true)]) h) (gJ.k2 C N Q (s 4) h)) (fC 21 f1 (fT e (m2 (gJ.k1 C N Q) 4 23) f1))))))))))))))))))) f1)
theorem kK.imp:kK.aD A0 N:=mj f207 kK.aY ⟨[],[],17,[]⟩ λ{C} a Q=>fT a (l2 (kK.l2 C N Q) 0 1 iO []) (fS a (λs h=>Q (.bool false) h) (fM a [0,1] [5] (cV (kK.l2 C N Q)) λY1=>f1) f1)
theorem hE.imp:hE.aD A0 N:=ix f208 hE.aY ⟨[],[],58,[(9,pz [] 11)]⟩ λ{C} b Q=>fT b (l1 (hE.l5 C N Q) 0 iO []) (fS b (m1 (hE.k1 C N Q) 0) (fM b [0] [3] (ga (hE.l5 C N Q)) λY1=>fT b (m2 (hE.k4 C N Q Y1) 0 3) (fS b (λs h=>B.pv (V.bin .add (s 3) (i6 1)) λa=>Y1 [a] h) (fK (fT b (l2 (hE.l3 C N Q Y1) 0 3 iO []) (fM b [0,3] [4] (cV (hE.l3 C N Q Y1)) λY2=>f1))) f1)) f1)
theorem gZ.imp:gZ.aD A0 N:=mj f209 gZ.aY ⟨[],[],44,[(9,pz [] 9)]⟩ λ{C} d Q=>fT d (l2 (gZ.l5 C N Q) 0 1 iO []) (fS d (λs h=>B.pv (V.aE (s 0)) λa=>B.pv (V.bin .leq a (i6 4)) λb=>Q b h) (fM d [0,1] [5] (cV (gZ.l5 C N Q)) λY1=>fT d (m3 (gZ.k3 C N Q Y1) 0 1 5) (fS d (λs h=>B.pv (V.bin .add (s 5) (i6 1)) λc=>Y1 [c] h) (fK (fT d (l3 (gZ.l2 C N Q Y1) 0 1 5 iO []) (fM d [0,1,5] [6] (gq (gZ.l2 C N Q Y1)) λY2=>f1))) f1)) f1)
theorem uf.imp:uf.aD A0 N:=fm f213 uf.k1 ⟨[3],[5,9],12,[]⟩ λ{C} a Q=>f1
theorem qz.imp:qz.aD A0 N:=ix f214 qz.aY ⟨[],[],7,[]⟩ λ{C} a Q=>f1
theorem qx.imp:qx.aD A0 N:=ix f215 qx.aY ⟨[],[],7,[]⟩ λ{C} a Q=>f1
theorem pk.imp:pk.aD A0 N:=mj f216 pk.aY ⟨[],[],19,[]⟩ λ{C} b Q=>fT b (λs h=>B.pv (V.aE (s 0)) λa=>aB (te.l2 C (dH 16 (.str []) 0) Q (s 0) (s 1) a) [(i6 0)] h) (fS b (λs h=>Q (.int .i64 (-1)) h) (fM b [0,1,7] [8] (gq (te.l2 C (dH 16 (.str []) 0) Q)) λY1=>f1) f1)
theorem tY.imp:tY.aD A0 N:=fm f217 tY.k1 ⟨[],[],14,[]⟩ λ{C} a Q=>f1
theorem tX.imp:tX.aD A0 N:=fm f218 tX.k1 ⟨[],[],14,[]⟩ λ{C} a Q=>f1
theorem tf.L0:F0 P Tryz.f116 tf.I:=λb Q s h a=>kD b 5 3 6 9 11 14 a
theorem tf.gg:tf.ej (AC P) N:=λa h Q b=>eF mixed (fn:=Tryz.f116) (λc=>tf.L0 c (dn Q) (fv [a]) h b)
theorem tq.L0:F0 P Tryz.f117 tq.I:=λb Q s h a=>kD b 5 3 6 9 11 14 a
theorem tq.gg:tq.ej (AC P) N:=λa h Q b=>eF mixed (fn:=Tryz.f117) (λc=>tq.L0 c (dn Q) (fv [a]) h b)
theorem tn.L0:F0 P Tryz.f118 tn.I:=λb Q s h a=>kD b 5 3 6 9 11 14 a
theorem tn.gg:tn.ej (AC P) N:=λa h Q b=>eF mixed (fn:=Tryz.f118) (λc=>tn.L0 c (dn Q) (fv [a]) h b)
theorem kg.L0:F0 P Tryz.f119 kg.I:=λb Q s h a=>kD b 5 3 6 9 11 14 a
theorem kg.gg:kg.ej (AC P) N:=λa h Q b=>eF mixed (fn:=Tryz.f119) (λc=>kg.L0 c (dn Q) (fv [a]) h b)
theorem kh.L0:F0 P Tryz.f120 kh.I:=λb Q s h a=>kD b 5 3 6 9 11 14 a
theorem kh.gg:kh.ej (AC P) N:=λa h Q b=>eF mixed (fn:=Tryz.f120) (λc=>kh.L0 c (dn Q) (fv [a]) h b)
theorem sX.L0:F0 P Tryz.f121 sX.I:=λb Q s h a=>kD b 5 3 6 9 11 14 a
theorem sX.gg:sX.ej (AC P) N:=λa h Q b=>eF mixed (fn:=Tryz.f121) (λc=>sX.L0 c (dn Q) (fv [a]) h b)
theorem fg.L0:F0 P Tryz.f122 fg.I:=λb Q s h a=>kD b 5 3 6 9 11 14 a
theorem fg.gg:fg.ej (AC P) N:=λa h Q b=>eF mixed (fn:=Tryz.f122) (λc=>fg.L0 c (dn Q) (fv [a]) h b)
theorem tg.L0:F0 P Tryz.f123 tg.I:=λb Q s h a=>kD b 5 3 6 9 11 14 a
theorem tg.gg:tg.ej (AC P) N:=λa h Q b=>eF mixed (fn:=Tryz.f123) (λc=>tg.L0 c (dn Q) (fv [a]) h b)
theorem fe.L0:F0 P Tryz.f124 fe.I:=λb Q s h a=>kD b 5 3 6 9 11 14 a
theorem fe.gg:fe.ej (AC P) N:=λa h Q b=>eF mixed (fn:=Tryz.f124) (λc=>fe.L0 c (dn Q) (fv [a]) h b)
theorem eX.L0:F0 P Tryz.f125 eX.I:=λb Q s h a=>kD b 5 3 6 9 11 14 a
theorem eX.gg:eX.ej (AC P) N:=λa h Q b=>eF mixed (fn:=Tryz.f125) (λc=>eX.L0 c (dn Q) (fv [a]) h b)
theorem fa.L0:F0 P Tryz.f126 fa.I:=λb Q s h a=>kD b 5 3 6 9 11 14 a
theorem fa.gg:fa.ej (AC P) N:=λa h Q b=>eF mixed (fn:=Tryz.f126) (λc=>fa.L0 c (dn Q) (fv [a]) h b)
theorem eY.L0:F0 P Tryz.f127 eY.I:=λb Q s h a=>kD b 5 3 6 9 11 14 a
theorem eY.gg:eY.ej (AC P) N:=λa h Q b=>eF mixed (fn:=Tryz.f127) (λc=>eY.L0 c (dn Q) (fv [a]) h b)
theorem tr.L0:F0 P Tryz.f128 tr.I:=λb Q s h a=>kD b 5 3 6 9 11 14 a
theorem tr.gg:tr.ej (AC P) N:=λa h Q b=>eF mixed (fn:=Tryz.f128) (λc=>tr.L0 c (dn Q) (fv [a]) h b)
theorem eV.L0:F0 P Tryz.f129 eV.I:=λb Q s h a=>kD b 5 3 6 9 11 14 a
theorem eV.gg:eV.ej (AC P) N:=λa h Q b=>eF mixed (fn:=Tryz.f129) (λc=>eV.L0 c (dn Q) (fv [a]) h b)
theorem eQ.L0:F0 P Tryz.f130 eQ.I:=λb Q s h a=>kD b 5 3 6 9 11 14 a
theorem eQ.gg:eQ.ej (AC P) N:=λa h Q b=>eF mixed (fn:=Tryz.f130) (λc=>eQ.L0 c (dn Q) (fv [a]) h b)
theorem ff.L0:F0 P Tryz.f131 ff.I:=λb Q s h a=>kD b 5 3 6 9 11 14 a
theorem ff.gg:ff.ej (AC P) N:=λa h Q b=>eF mixed (fn:=Tryz.f131) (λc=>ff.L0 c (dn Q) (fv [a]) h b)
theorem th.L0:F0 P Tryz.f132 th.I:=λb Q s h a=>kD b 5 3 6 9 11 14 a
theorem th.gg:th.ej (AC P) N:=λa h Q b=>eF mixed (fn:=Tryz.f132) (λc=>th.L0 c (dn Q) (fv [a]) h b)
theorem tp.L0:F0 P Tryz.f133 tp.I:=λb Q s h a=>kD b 5 3 6 9 11 14 a
theorem tp.gg:tp.ej (AC P) N:=λa h Q b=>eF mixed (fn:=Tryz.f133) (λc=>tp.L0 c (dn Q) (fv [a]) h b)
theorem td.L0:F0 P Tryz.f134 td.I:=λb Q s h a=>kD b 5 3 6 9 11 14 a
theorem td.gg:td.ej (AC P) N:=λa h Q b=>eF mixed (fn:=Tryz.f134) (λc=>td.L0 c (dn Q) (fv [a]) h b)
theorem tl.L0:F0 P Tryz.f135 tl.I:=λb Q s h a=>kD b 5 3 6 9 11 14 a
theorem tl.gg:tl.ej (AC P) N:=λa h Q b=>eF mixed (fn:=Tryz.f135) (λc=>tl.L0 c (dn Q) (fv [a]) h b)
theorem ta.L0:F0 P Tryz.f136 ta.I:=λb Q s h a=>kD b 5 3 6 9 11 14 a
theorem ta.gg:ta.ej (AC P) N:=λa h Q b=>eF mixed (fn:=Tryz.f136) (λc=>ta.L0 c (dn Q) (fv [a]) h b)
theorem tj.L0:F0 P Tryz.f137 tj.I:=λb Q s h a=>kD b 5 3 6 9 11 14 a
theorem tj.gg:tj.ej (AC P) N:=λa h Q b=>eF mixed (fn:=Tryz.f137) (λc=>tj.L0 c (dn Q) (fv [a]) h b)
theorem ti.L0:F0 P Tryz.f138 ti.I:=λb Q s h a=>kD b 5 3 6 9 11 14 a
theorem ti.gg:ti.ej (AC P) N:=λa h Q b=>eF mixed (fn:=Tryz.f138) (λc=>ti.L0 c (dn Q) (fv [a]) h b)
end Go.Ab.B4
namespace Go.Ab
open List
variable{C:aC}{N:zN}
def ep:Nat:=140737488351232
def Bs(h:a9)(x:a7)(b:List UInt8):Prop:=(∃R,aJ h 1 x (b.map bc) R) /\ b.length <= ep
section
variable{h h':a9}{x:a7}{b:List UInt8}
theorem Bs.mono(hb:Bs h x b)(hle:h.le h'):Bs h' x b:=⟨hb.1.imp λ_ r=>r.mono hle,hb.2⟩
theorem Bs.aE(hb:Bs h x b):V.aE x=some (.int .i64 b.length):=by
 obtain⟨⟨R,r⟩,_⟩:=hb;simpa using r.aE
theorem Bs.aI(hb:Bs h x b):x.aI=true:=hb.1.elim λ_ r=>r.aI
end
theorem aJ.yU{h:a9}{es:Nat}{x:a7}{L R S:List (List a7)}(a:aJ h es x L (R++S)):aJ h es x L R:=by
 refine⟨λp c=>a.len p (by rcases mem_append.1 c with h|h;exact mem_append_left _ h;exact mem_append_right _ (mem_append_left _ h)),?_⟩;rcases a.at_ with⟨e,n,o⟩|⟨id,g,off,cp,b,hi,h1,fl,m,l,k,j,f⟩
 ·exact .inl ⟨e,(append_eq_nil_iff.1 n).1,o⟩
 ·have i:∀p∈L++R,p.length=es:=λp c=>a.len p (by rcases mem_append.1 c with h|h;exact mem_append_left _ h;exact mem_append_right _ (mem_append_left _ h))
  have d:=ve i;rw[length_append]at fl k f d;have hm:(L.length+R.length)*es <= (L.length+(R.length+S.length))*es:=Nat.mul_le_mul_right _ (by omega);refine .inr ⟨id,g,off,cp,b,hi,h1,by omega,m,l,by omega,j,?_⟩;have:((b.cells.drop off).take ((L.length+(R.length+S.length))*es)).take ((L.length+R.length)*es)=(L++R).flatten:=by
   rw[f,<-append_assoc,flatten_append (L₁:=L++R),take_append_of_le_length (by omega),take_of_length_le (by omega)]
  rw[<-this,take_take,Nat.min_eq_left hm]
abbrev rq(h:a9)(l:List Ob):Prop:=∀o∈l,o.at h
theorem rq.mono{h h':a9}{l:List Ob}(a:rq h l)(hle:h.le h'):rq h' l:=λo hm=>(a o hm).dQ λ_ _ _ e=>hle _ _ e
structure DK(T Ad:Type) where
 n:Nat
 bytes:Nat
 z:List a7
 pos:0<n
 small:bytes <= 1000
 mJ:z.length=n
 cells:T->Ad->List a7
 len:∀t a,(cells t a).length=n
 at_:a9->T->Ad->Prop
 mono:∀{h h':a9}{t:T}{a:Ad},h.le h'->at_ h t a->at_ h' t a
 ok:T->Prop
 xB:∀{h:a9}{t:T}{a:Ad},at_ h t a->ok t
 gy:Bool->T->Ad->List Ob
 mG:∀{b:Bool}{h:a9}{t:T}{a:Ad},ok t->rq h (gy b t a)->at_ h t a
section
variable{T Ad:Type}(K:DK T Ad)
abbrev DK.cs(p:T×Ad):List a7:=K.cells p.1 p.2
def DK.os(b:Bool)(P:List (T×Ad)):List Ob:=P.flatMap λp=>K.gy b p.1 p.2
def Dl(h:a9)(x:a7)(L:List T):Prop:=∃(P:List (T×Ad))(R:List (List a7)),P.map (·.1)=L /\ aJ h K.n x (P.map K.cs) R /\ ∀p∈P,K.at_ h p.1 p.2
structure Ek(h:a9)(x:a7)(i:Nat)(t:T)(a:Ad):Prop where
 idx:V.aM K.n x (.int .i64 (i:Int))=some (aV K.n x i 0)
 cR:A.fF h (aV K.n x i 0) K.n=some (.agg (K.cells t a))
 sV:∀f o,V.fieldAddr o (aV K.n x i f)=some (aV K.n x i (f+o))
 ld:∀f,f<K.n->A.bX h (aV K.n x i f)=(K.cells t a)[f]?
 at_:K.at_ h t a
variable{K}{h h' h0:a9}{x:a7}{L M:List T}
theorem vz{h:a9}{x:a7}{P:List (T×Ad)}{R:List (List a7)}(s:aJ h K.n x (P.map K.cs) R)(d:∀p∈P,K.at_ h p.1 p.2){i:Nat}{p:T×Ad}(hi:P[i]?=some p):Ek K h x i p.1 p.2:=by
 have a:(P.map K.cs)[i]?=some (K.cells p.1 p.2):=by rw[getElem?_map,hi];rfl
 have b:i<(P.map K.cs).length:=(List.getElem?_eq_some_iff.1 a).1;exact⟨s.dF b,s.elem a,λf o=>s.jF b f o,λf c=>s.bX a c,d p (mem_of_getElem? hi)⟩
theorem Dl.get(c:Dl K h x L){i:Nat}{t:T}(hi:L[i]?=some t):∃a,Ek K h x i t a:=by
 obtain⟨P,R,rfl,s,d⟩:=c;rw[getElem?_map]at hi;obtain⟨p,b,rfl⟩:=Option.map_eq_some_iff.1 hi;exact⟨p.2,vz s d b⟩
theorem Dl.mono(b:Dl K h x L)(hle:h.le h'):Dl K h' x L:=by
 obtain⟨P,R,e,s,c⟩:=b;exact⟨P,R,e,s.mono hle,λp a=>K.mono hle (c p a)⟩
theorem Dl.aE(a:Dl K h x L):V.aE x=some (.int .i64 L.length):=by
 obtain⟨P,R,rfl,s,b⟩:=a;simpa using s.aE
theorem Dl.aI(a:Dl K h x L):x.aI=true:=by
 obtain⟨P,R,rfl,s,b⟩:=a;exact s.aI
theorem Dl.aA(K:DK T Ad)(h:a9):Dl K h .aA []:=⟨[],[],rfl,aJ.aA h K.n,λ_ h=>by cases h⟩
theorem Dl.ok(c:Dl K h x L):∀t∈L,K.ok t:=by
 obtain⟨P,R,rfl,s,d⟩:=c;intro t a;obtain⟨p,b,rfl⟩:=mem_map.1 a;exact K.xB (d p b)
theorem yM{P:List (T×Ad)}{R:List (List a7)}{b:Bool}{l:List Ob}(a:∀p∈P,K.ok p.1)(d:rq h l)(h1: .sl K.n x (P.map K.cs) R∈l)(f:∀o∈K.os b P,o∈l):Dl K h x (P.map (·.1)):=⟨P,R,rfl,d _ h1,λp c=>K.mG (a p c) λo e=>d o (f o (mem_flatMap.2 ⟨p,c,e⟩))⟩
theorem DK.um(b:Bool)(P a:List (T×Ad)):K.os b (P++a)=K.os b P++K.os b a:=flatMap_append
theorem DK.v7(b:Bool)(p:T×Ad):K.os b [p]=K.gy b p.1 p.2:=by simp[DK.os]
abbrev Df(K:DK T Ad)(h0 h:a9)(x:a7)(P:List (T×Ad)):Prop:=aG h0 h (.sl K.n x (P.map K.cs) []::K.os false P)
theorem Df.dl{P:List (T×Ad)}(d:Df K h0 h x P)(a:∀p∈P,K.ok p.1):Dl K h x (P.map (·.1)):=yM (b:=false) a d.is (mem_cons_self ..) λo c=>mem_cons_of_mem _ c
def wG(K:DK T Ad)[DecidableEq T](C:aC)(f:Nat):Prop:=∀(t u:T)(a b:Ad)(h:a9)(Q:zQ),K.at_ h t a->K.at_ h u b->Q (.bool (decide (t=u))) h->C f [.agg (K.cells t a),.agg (K.cells u b)] h Q
def xI(K:DK T Ad)(b:Bool)(C:aC)(f:Nat):Prop:=∀(t:T)(a:Ad)(h:a9)(Q:zQ),K.at_ h t a->(∀c h',aG h h' (K.gy b t c)->Q (.agg (K.cells t c)) h')->C f [.agg (K.cells t a)] h Q
def DU(K:DK T Ad)[DecidableEq T](C:aC)(f:Nat):Prop:=∀(t u:T)(a b:Ad)(h:a9)(Q:zQ),K.ok t->rq h (K.gy true t a)->K.at_ h u b->Q (.bool (decide (t=u))) h->C f [.agg (K.cells t a),.agg (K.cells u b)] h Q
def wH(K:DK T Ad)(mk:Int->Int->T)(C:aC)(f:Nat):Prop:=∀(k i:Int)(h:a9)(Q:zQ),(∀a h',aG h h' (K.gy false (mk k i) a)->Q (.agg (K.cells (mk k i) a)) h')->C f [.int .i64 k,.int .i64 i] h Q
theorem vf(K:DK T Ad)(t:T)(a:Ad):bN [(0,some K.n,.agg (K.cells t a))] (bG 1 K.z)=some (K.cells t a):=by
 have b:bG 1 K.z=K.z:=by unfold bG;split<;>simp_all
 have h1:=K.len t a;rw[b];simp[h1,K.mJ]
@[simp] def x7.k1(C:aC)(n f:Nat)(Q:zQ)(Y1:zL)(v0 v1 v5:a7)(h:a9):Prop:=B.pv (V.aE v0) λj=>B.pv (V.bin .lss v5 j) λi=>B.cond i (B.pv (V.aM n v0 v5) λe=>B.cR h e n λv20=>B.pv (V.aM n v1 v5) λd=>B.cR h d n λc=>B.call C f [v20,c] h λb h=>B.pv (V.un .not b) λa=>B.cond a (Q (.bool false) h) (B.pv (V.bin .add v5 (.int .i64 1)) λg=>Y1 [g] h)) (Q (.bool true) h)
@[simp] def x7.l2(C:aC)(n f:Nat)(Q:zQ)(v0 v1:a7):zG|[v5],h,Y1=>x7.k1 C n f Q Y1 v0 v1 v5 h|_,_,_=>False
def x7(C:aC)(n f:Nat)(v0 v1:a7)(h:a9)(Q:zQ):Prop:=B.pv (V.aE v0) λb=>B.pv (V.aE v1) λa=>B.pv (V.bin .neq b a) λv10=>B.cond v10 (Q (.bool false) h) (aB (x7.l2 C n f Q v0 v1) [(.int .i64 0)] h)
theorem FK[DecidableEq T]{f:Nat}(p:wG K C f){y:a7}{Q:zQ}(hx:Dl K h x L)(o:Dl K h y M)(hlen:L.length<4611686018427387904)(c:Q (.bool (decide (L=M))) h):x7 C K.n f x y h Q:=by
 have d:=hx.aE;have i:=o.aE;simp -dsimp[x7,d,i];refine B.bF (λhb=>?_) (λhb=>?_)<;>simp -dsimp at hb ⊢
 ·rw[decide_eq_false λe=>hb (by rw[e])]at c
  exact c
 ·refine aB.intro (λn vs q=>∃k,k+n=L.length /\ vs=[.int .i64 k] /\ q=h /\ L.take k=M.take k) L.length ?_ ⟨0,by simp,by simp,rfl,by simp⟩
  rintro Y n vs _ ⟨k,s,rfl,rfl,he⟩ r;simp -dsimp[d];refine B.bF (λj=>?_) (λj=>?_)<;>simp -dsimp at j ⊢
  ·obtain⟨w,hw⟩:=dI j
   obtain⟨u,hu⟩:=dI (L:=M) (k:=k) (by omega);obtain⟨a,m⟩:=hx.get hw;obtain⟨b,l⟩:=o.get hu;simp -dsimp only[m.idx,m.cR,l.idx,l.cR,B.aK,B.iL];refine p _ _ _ _ _ _ m.at_ l.at_ ?_;simp -dsimp only[V.jq,B.aK];refine B.bF (λg=>?_) (λg=>?_)<;>simp -dsimp at g ⊢
   ·rw[decide_eq_false λe=>by subst e;rw[hw]at hu;cases hu;exact g rfl]at c
    exact c
   ·simp[fH (n:=k) (by omega)]
    refine r (L.length-(k+1)) _ _ (by omega) ⟨k+1,by omega,by simp,rfl,?_⟩;rw[take_succ hw,take_succ hu,he,g]
  ·rw[take_of_length_le (by omega),take_of_length_le (by omega)]at he
   rw[decide_eq_true he]at c;exact c
def pU(mk:Int->Int->T):List T:=(List.range 12).map fun(i:Nat)=>mk 1 (i:Int)
@[simp] def rS.k1(C:aC)(n bytes i:Nat)(z:List a7)(Q:zQ)(Y1:zL)(v0 g v6:a7)(h:a9):Prop:=B.pv (V.bin .lss v6 (.int .i64 12)) λf=>B.cond f (B.call C i [(.int .i64 1),v6] h λd h=>B.bL h (bN [(0,some n,d)] (bG 1 z)) λi33 h=>B.bO h n bytes g (.sl i33 0 0 1 n 1) λc h=>B.pv (V.bin .add v6 (.int .i64 1)) λe=>Y1 [c,e] h) (B.pv (V.aE v0) λb=>B.pv (V.dS n g none (some b)) λa=>Q a h)
@[simp] def rS.l2(C:aC)(n bytes b:Nat)(z:List a7)(Q:zQ)(v0:a7):zG|[a,v6],h,Y1=>rS.k1 C n bytes b z Q Y1 v0 a v6 h|_,_,_=>False
@[simp] def rS.k3(C:aC)(n bytes j k:Nat)(z:List a7)(Q:zQ)(Y2:zL)(v0 i v4:a7)(h:a9):Prop:=B.pv (V.aE v0) λg=>B.pv (V.bin .lss v4 g) λf=>B.cond f (B.pv (V.aM n v0 v4) λd=>B.cR h d n λv20=>B.call C k [v20] h λc h=>B.pv (V.bU 0 n c (.agg z)) λl=>B.pv (V.bM 0 n l) λb=>B.bL h (bN [(0,some n,b)] (bG 1 z)) λi24 h=>B.bO h n bytes i (.sl i24 0 0 1 n 1) λa h=>B.pv (V.bin .add v4 (.int .i64 1)) λe=>Y2 [a,e] h) (aB (rS.l2 C n bytes j z Q v0) [i,(.int .i64 0)] h)
@[simp] def rS.l4(C:aC)(n bytes b c:Nat)(z:List a7)(Q:zQ)(v0:a7):zG|[a,v4],h,Y2=>rS.k3 C n bytes b c z Q Y2 v0 a v4 h|_,_,_=>False
def rS(C:aC)(n bytes c d:Nat)(z:List a7)(v0:a7)(h:a9)(Q:zQ):Prop:=B.pv (V.aE v0) λb=>B.pv (V.bin .add b (.int .i64 12)) λa=>0<n /\ B.eO h bytes (some z) (.int .i64 0) a λv10 h=>aB (rS.l4 C n bytes c d z Q v0) [v10,(.int .i64 0)] h
theorem wW(K:DK T Ad)(t:T)(a:Ad):V.bU 0 K.n (.agg (K.cells t a)) (.agg K.z)=some (.agg (K.cells t a)):=by
 simp[K.len t a,K.mJ]
theorem xW(K:DK T Ad)(t:T)(a:Ad):V.bM 0 K.n (.agg (K.cells t a))=some (.agg (K.cells t a)):=by
 have:=K.len t a;simp[this];rw[<-this,take_length]
theorem FT{mk:Int->Int->T}{F G:Nat}(N:wH K mk C F)(sl:xI K true C G){Q:zQ}(hx:Dl K h x L)(hlen:L.length <= 100000000)
  (S:∀m (P c:List (T×Ad)) h',P.map (·.1)=L->c.map (·.1)=pU mk->aG h h' (.sl K.n m (P.map K.cs) (c.map K.cs)::(K.os true P++K.os false c))->Q m h'):rS C K.n K.bytes F G K.z x h Q:=by
 have g:=hx.aE;have hmul:∀n:Nat,n <= 100000100->n*K.bytes <= 140737488355328:=λn D=>by
  have:=Nat.mul_le_mul D K.small;omega
 have e1:IntKind.i64.wrap ((L.length:Int)+12)=(L.length:Int)+12:=wrap_i64 (by omega) (by omega);simp -dsimp[rS,g,e1];refine⟨K.pos,(aG.start h).eO (es:=K.n) K.mJ (by omega) (by omega) ?_ (by omega) λy h1 U=>?_⟩
 ·have:=hmul (L.length+12) (by omega)
  have e:((L.length:Int)+12)*K.bytes=((L.length+12)*K.bytes:Nat):=by simp
  rw[e];omega
 refine aB.intro (λn vs q=>∃(k:Nat)(y:a7)(P:List (T×Ad))(R:List (List a7)),k+n=L.length /\ vs=[y,.int .i64 k] /\ P.map (·.1)=L.take k /\ aG h q (.sl K.n y (P.map K.cs) R::K.os true P)) L.length ?_ ⟨0,y,[],_,by simp,by simp,by simp,by simpa[DK.os]using U⟩;rintro Y n vs q ⟨k,M,P,R3,D,rfl,r,f⟩ hY;have hPl:P.length=k:=by have:=congrArg List.length r;simp at this;omega
 simp -dsimp[g];refine B.bF (λt=>?_) (λt=>?_)<;>simp -dsimp at t ⊢
 ·obtain⟨w,hw⟩:=dI t
  obtain⟨a,v⟩:=(hx.mono f.le).get hw;simp -dsimp only[v.idx,v.cR,B.aK,B.iL];refine sl _ _ _ _ v.at_ λd u o=>?_;simp -dsimp only[wW K _ d,xW K _ d,vf K _ d,B.aK];refine(f.join o).push 0 rfl (K.len _ d) K.pos (by simp;exact hmul _ (by omega)) (by simp[maxLen];omega) λI h5 s _=>?_;simp -dsimp[fH (n:=k) (by omega)];refine hY (L.length-(k+1)) _ _ (by omega) ⟨k+1,I,P++[(w,d)],[],by omega,by simp,?_,?_⟩
  ·rw[take_succ hw,map_append,r];rfl
  ·rw[DK.um,DK.v7,map_append]
   simpa using s
 ·have hk:k=L.length:=by omega
  rw[hk,take_length]at r;refine aB.intro (λn vs q=>∃(j:Nat)(y:a7)(c:List (T×Ad))(R:List (List a7)),j+n=12 /\ vs=[y,.int .i64 j] /\ c.map (·.1)=(List.range j).map (fun(i:Nat)=>mk 1 (i:Int)) /\ aG h q (.sl K.n y (P.map K.cs++c.map K.cs) R::(K.os true P++K.os false c))) 12 ?_
   ⟨0,M,[],R3,by simp,by simp,by simp,by simpa[DK.os]using f⟩
  rintro Z n' vs u ⟨j,J,c,A,hj,rfl,l,o⟩ X;have hMl:c.length=j:=by have:=congrArg List.length l;simpa using this
  simp -dsimp only[rS.l2,rS.k1,V.mw,B.aK];refine B.bF (λE=>?_) (λE=>?_)<;>simp -dsimp at E
  ·refine N _ _ _ _ λd h5 s=>?_
   simp -dsimp only[vf K _ d];refine(o.join s).push 0 rfl (K.len _ d) K.pos (by simp;exact hmul _ (by omega)) (by simp[maxLen];omega) λH h6 O _=>?_;simp -dsimp[fH (n:=j) (by omega)];refine X (12-(j+1)) _ _ (by omega) ⟨j+1,H,c++[(mk 1 j,d)],[],by omega,by simp,?_,?_⟩
   ·rw[map_append,l,range_succ,map_append];rfl
   ·rw[DK.um,DK.v7,map_append]
    simpa using O
  ·have p:j=12:=by omega
   subst p;obtain⟨m,e2,e3,e4⟩:=(o.aP 0 rfl).slice K.pos (lo:=0) (hi:=L.length) (a:=none) (b:=some (.int .i64 L.length)) (.inl ⟨rfl,rfl⟩) (.inr ⟨_,rfl⟩) (by omega) (by simp;omega);simp -dsimp only[g,e2,B.aK];have h1:((P.map K.cs++c.map K.cs++A).take L.length).drop 0=P.map K.cs:=by
    rw[append_assoc,take_append_of_le_length (by simp;omega),take_of_length_le (by simp;omega),drop_zero]
   have h2:(P.map K.cs++c.map K.cs++A).drop L.length=c.map K.cs++A:=by
    rw[append_assoc,drop_append_of_le_length (by simp;omega),drop_of_length_le (by simp;omega),nil_append]
   rw[h1,h2]at e3;have e5:aJ u K.n m (P.map K.cs) (c.map K.cs):=e3.yU;refine S m P c u r l ?_;exact o.jB 0 rfl (o':= .sl K.n m (P.map K.cs) (c.map K.cs)) e5 (λid b W hb=>o.lg 0 rfl id b (by show cC J=some id;rw[<-e4];exact W) hb) (λj b hb _=>hb) (.inl e4)
def oZ(K:DK T Ad)(mk:Int->Int->T)(h:a9)(x:a7)(L:List T):Prop:=∃P a:List (T×Ad),P.map (·.1)=L /\ a.map (·.1)=pU mk /\ aJ h K.n x (P.map K.cs) (a.map K.cs) /\ rq h (K.os true P) /\ (∀p∈P,K.ok p.1) /\ ∀p∈a,K.at_ h p.1 p.2
theorem oZ.mono{mk:Int->Int->T}(b:oZ K mk h x L)(hle:h.le h'):oZ K mk h' x L:=by
 obtain⟨P,g,e1,c,s,e,f,d⟩:=b;exact⟨P,g,e1,c,s.mono hle,e.mono hle,f,λp a=>K.mono hle (d p a)⟩
theorem oZ.dl{mk:Int->Int->T}(c:oZ K mk h x L):Dl K h x L:=by
 obtain⟨P,i,e1,f,s,d,e,g⟩:=c;exact⟨P,_,e1,s,λp a=>K.mG (e p a) λo b=>d o (mem_flatMap.2 ⟨p,a,b⟩)⟩
theorem Oc{mk:Int->Int->T}{b:List (T×Ad)}(a:∀k i,K.ok (mk k i))(d:b.map (·.1)=pU mk):∀p∈b,K.ok p.1:=λp c=>by
 have:p.1∈b.map (·.1):=mem_map.2 ⟨p,c,rfl⟩
 rw[d,pU,mem_map]at this
 obtain⟨i,_,e⟩:=this
 rw[<-e];exact a _ _
theorem oZ.of{mk:Int->Int->T}{P b:List (T×Ad)}(e:∀k i,K.ok (mk k i))(c:∀t∈L,K.ok t)(e1:P.map (·.1)=L)(f:b.map (·.1)=pU mk)(d:aG h0 h (.sl K.n x (P.map K.cs) (b.map K.cs)::(K.os true P++K.os false b))):oZ K mk h x L:=⟨P,b,e1,f,d.aP 0 rfl,λo hm=>d.is o (mem_cons_of_mem _ (mem_append_left _ hm)),λp a=>c _ (e1 ▸ mem_map.2 ⟨p,a,rfl⟩),λp a=>K.mG (Oc e f p a) λo hm=>d.is o (mem_cons_of_mem _ (mem_append_right _ (mem_flatMap.2 ⟨p,a,hm⟩)))⟩
@[simp] def vG.k1(C:aC)(n N M fs:Nat)(Q:zQ)(Y1:zL)(v1 v5 v6:a7)(h:a9):Prop:=B.pv (V.aE v5) λL=>B.pv (V.bin .lss v6 L) λv20=>B.cond v20 (B.pv (V.aE v1) λI=>B.pv (V.bin .lss v6 I) λb=>B.gd h b true (λK=>K v5 h) λH h=>B.gd h b true (λK=>K v6 h) λG h=>B.gd h b true (λK=>B.pv (V.aM n H G) λv=>K v h) λv30 h=>B.gd h b true (λK=>B.cR h v30 n λv=>K v h) λF h=>B.gd h b true (λK=>K v1 h) λE h=>B.gd h b true (λK=>K v6 h) λD h=>B.gd h b true (λK=>B.pv (V.aM n E D) λv=>K v h) λA h=>B.gd h b true (λK=>B.cR h A n λv=>K v h) λz h=>B.gd h b true (λK=>B.call C N [F,z] h K) λy h=>B.gd h b true (λK=>B.pv (V.un .not y) λv=>K v h) λx h=>B.pick b x (.bool false) λc=>B.gd h c false (λK=>K v6 h) λw h=>B.gd h c false (λK=>K v1 h) λu h=>B.gd h c false (λK=>B.pv (V.aE u) λv=>K v h) λt h=>B.gd h c false (λK=>B.pv (V.bin .geq w t) λv=>K v h) λs h=>B.gd h c false (λK=>K s h) λa h=>B.gd h a true (λK=>K v5 h) λr h=>B.gd h a true (λK=>K v6 h) λq h=>B.gd h a true (λK=>B.pv (V.aM n r q) λv=>K v h) λd h=>B.gd h a true (λK=>B.cR h d n λv=>K v h) λp h=>B.gd h a true (λK=>K v6 h) λo h=>B.gd h a true (λK=>K v1 h) λm h=>B.gd h a true (λK=>B.pv (V.aE m) λv=>K v h) λl h=>B.gd h a true (λK=>B.pv (V.bin .sub o l) λv=>K v h) λk h=>B.gd h a true (λK=>B.call C M [(.int .i64 1),k] h (B.jV h [(d,some n)] K)) λj h=>B.gd h a true (λK=>B.call C fs [p,j] h K) λi h=>B.gd h a true (λK=>B.pv (V.un .not i) λv=>K v h) λg h=>B.gd h c false (λK=>B.pick a g (.bool false) λv=>K v h) λf h=>B.pick c (.bool true) f λe=>B.cond e (Q (.bool false) h) (B.pv (V.bin .add v6 (.int .i64 1)) λJ=>Y1 [J] h)) (Q (.bool true) h)
@[simp] def vG.l2(C:aC)(n b a fs:Nat)(Q:zQ)(v1 v5:a7):zG|[v6],h,Y1=>vG.k1 C n b a fs Q Y1 v1 v5 v6 h|_,_,_=>False
@[simp] def vG.k3(C:aC)(n e d fs:Nat)(Q:zQ)(v0 v1:a7)(h:a9):Prop:=B.pv (V.aE v1) λc=>B.pv (V.bin .add c (.int .i64 12)) λb=>B.pv (V.dS n v0 none (some b)) λa=>aB (vG.l2 C n e d fs Q v1 a) [(.int .i64 0)] h
def vG(C:aC)(n c b fs:Nat)(v0 v1:a7)(h:a9)(Q:zQ):Prop:=B.pv (V.aE v0) λa=>B.pv (V.aE v1) λv10=>B.pv (V.bin .neq a v10) λv11=>B.cond v11 (Q (.bool false) h) (vG.k3 C n c b fs Q v0 v1 h)
theorem FV[DecidableEq T]{mk:Int->Int->T}{W U fs:Nat}(G:∀k i,K.ok (mk k i))(sk:DU K C W)(Z:wH K mk C U)(X:wG K C fs){y:a7}{Q:zQ}(hx:oZ K mk h x L)(O:Dl K h y M)(hlen:L.length <= 100000000)
  (c:∀h',h.le h'->Q (.bool (decide (L=M))) h'):vG C K.n W U fs x y h Q:=by
 have H:=hx.dl.aE;have d:=O.aE;simp -dsimp[vG,H,d];refine B.bF (λhb=>?_) (λhb=>?_)<;>simp -dsimp at hb ⊢
 ·have c:=c h (a9.le_refl h)
  rw[decide_eq_false λe=>hb (by rw[e])]at c;exact c
 ·obtain⟨P,j,rfl,A,s,a1,a0,a2⟩:=hx
  have I:j.length=12:=by have:=congrArg List.length A;simpa[pU]using this
  rw[length_map]at hb hlen;have e1:IntKind.i64.wrap ((M.length:Int)+12)=((M.length+12:Nat):Int):=by rw[wrap_i64 (by omega) (by omega)];omega
  obtain⟨z,e2,e3,e4⟩:=s.slice K.pos (lo:=0) (hi:=M.length+12) (a:=none) (b:=some (.int .i64 ((M.length+12:Nat):Int))) (.inl ⟨rfl,rfl⟩) (.inr ⟨_,rfl⟩) (by omega) (by simp;omega);have h1:((P.map K.cs++j.map K.cs).take (M.length+12)).drop 0=(P++j).map K.cs:=by rw[drop_zero,take_of_length_le,map_append];simp;omega
  rw[h1]at e3;have t:=e3.aE;simp only[length_map,length_append,I]at t;simp only[d,V.fP,e1,e2,B.aK];refine aB.intro (λn vs E=>∃k,k+n=P.length+12 /\ vs=[.int .i64 k] /\ h.le E /\ (P.map (·.1)).take k=M.take k) (P.length+12) ?_ ⟨0,by simp,by simp,a9.le_refl h,by simp⟩;rintro Y n vs E ⟨k,hn,rfl,hle,he⟩ S;have e3:=e3.mono hle;simp -dsimp[t];refine B.bF (λR=>?_) (λR=>?_)<;>simp -dsimp at R ⊢
  ·by_cases w:k<P.length
   ·obtain⟨p,m⟩:=dI w
    have v:k<M.length:=by omega
    obtain⟨u,hu⟩:=dI v;obtain⟨b,J⟩:=(O.mono hle).get hu;have g:((P++j).map K.cs)[k]?=some (K.cells p.1 p.2):=by rw[getElem?_map,getElem?_append_left w,m];rfl
    have r:k<((P++j).map K.cs).length:=by simp;omega
    have F:=e3.elem g;have N:=e3.dF (k:= .i64) r;have hw:(P.map (·.1))[k]?=some p.1:=by rw[getElem?_map,m];rfl
    simp -dsimp only[d,V.mw,show ((k:Int)<(M.length:Int)) by omega,decide_true,B.mg,B.Hg,B.fN,vr,N,F,J.idx,J.cR,B.aK,B.iL];refine sk _ _ _ _ _ _ (a0 p (mem_of_getElem? m)) (rq.mono (l:=K.gy true p.1 p.2) (λo ho=>a1 o (mem_flatMap.2 ⟨p,mem_of_getElem? m,ho⟩)) hle) J.at_ ?_;simp -dsimp only[B.mg,B.fN,V.jq,B.aK,B.pR];by_cases f:p.1=u
    ·simp -dsimp only[f,decide_true,Bool.not_true,B.ia,Bool.not_false,B.fN,d,V.xw,show ¬ ((M.length:Int) <= (k:Int)) by omega,decide_false,B.mg,B.Aj,B.nJ,B.aK,B.cond_false,V.fP,fH (n:=k) (by omega)]
     refine S (P.length+12-(k+1)) _ _ (by omega) ⟨k+1,by omega,rfl,hle,?_⟩;rw[take_succ hw,take_succ hu,he,f]
    ·simp -dsimp only[f,decide_false,Bool.not_false,B.ia,Bool.not_true,B.Aj,B.pR,B.cond_true,B.Pt]
     have c:=c E hle;rw[decide_eq_false λe=>by rw[e,hu]at hw;cases hw;exact f rfl]at c;exact c
   ·have v:¬ k<M.length:=by omega
    obtain⟨p,m⟩:=dI (L:=j) (k:=k-P.length) (by omega);have g:((P++j).map K.cs)[k]?=some (K.cells p.1 p.2):=by rw[getElem?_map,getElem?_append_right (by omega),m];rfl
    have r:k<((P++j).map K.cs).length:=by simp;omega
    have F:=e3.elem g;have N:=e3.dF (k:= .i64) r;have hm:p.1=mk 1 ((k-M.length:Nat):Int):=by
     have:(j.map (·.1))[k-P.length]?=some p.1:=by rw[getElem?_map,m];rfl
     rw[A,pU,getElem?_map,getElem?_range (by omega)]at this;simp only[Option.map_some,Option.some.injEq]at this;rw[<-this];congr 2;omega
    have e7:IntKind.i64.wrap ((k:Int)-M.length)=((k-M.length:Nat):Int):=by rw[wrap_i64 (by omega) (by omega)];omega
    simp -dsimp only[d,V.mw,show ¬ ((k:Int)<(M.length:Int)) by omega,decide_false,B.mg,B.Hg,B.Aj,Og,B.nJ,B.ia,Bool.not_false,B.fN,vr,V.xw,show ((M.length:Int) <= (k:Int)) by omega,decide_true,N,F,V.nI,e7,B.aK,B.iL];refine Z _ _ _ _ λa' h5 D=>⟨?_,?_⟩
    ·intro q c
     rw[mem_singleton.1 c];exact⟨_,F,(e3.mono D.le).elem g⟩
    ·simp -dsimp only[vr,B.mg,B.fN,B.aK,decide_true]
     refine X _ _ _ _ _ _ (K.mono (a9.le_trans hle D.le) (a2 p (mem_of_getElem? m))) (K.mG (G _ _) D.is) ?_;simp -dsimp only[hm,vr,decide_true,decide_false,V.jq,Bool.not_true,Bool.not_false,B.mg,B.ia,B.fN,B.pR,B.nJ,B.aK,B.cond_false,V.fP,fH (n:=k) (by omega)];refine S (P.length+12-(k+1)) _ _ (by omega) ⟨k+1,by omega,rfl,a9.le_trans hle D.le,?_⟩;rw[take_of_length_le (by simp;omega),take_of_length_le (by omega)]at he ⊢;exact he
  ·have c:=c E hle
   rw[take_of_length_le (by simp;omega),take_of_length_le (by omega)]at he;rw[decide_eq_true he]at c;exact c
@[simp] def yN.k1(C:aC)(n bytes f:Nat)(z:List a7)(Q:zQ)(Y1:zL)(v0 e v4:a7)(h:a9):Prop:=B.pv (V.aE v0) λi=>B.pv (V.bin .lss v4 i) λg=>B.cond g (B.pv (V.aM n v0 v4) λd=>B.cR h d n λc=>B.call C f [c] h λb h=>B.pv (V.bU 0 n b (.agg z)) λj=>B.pv (V.bM 0 n j) λa=>B.bL h (bN [(0,some n,a)] (bG 1 z)) λi19 h=>B.bO h n bytes e (.sl i19 0 0 1 n 1) λv20 h=>B.pv (V.bin .add v4 (.int .i64 1)) λv11=>Y1 [v20,v11] h) (Q e h)
@[simp] def yN.l2(C:aC)(n bytes f:Nat)(z:List a7)(Q:zQ)(v0:a7):zG|[a,v4],h,Y1=>yN.k1 C n bytes f z Q Y1 v0 a v4 h|_,_,_=>False
def yN(C:aC)(n bytes f:Nat)(z:List a7)(v0:a7)(h:a9)(Q:zQ):Prop:=aB (yN.l2 C n bytes f z Q v0) [.aA,(.int .i64 0)] h
theorem Gh{f:Nat}(q:xI K false C f){Q:zQ}(hx:Dl K h x L)(hlen:L.length <= 100000000)(t:∀l (P:List (T×Ad)) h',P.map (·.1)=L->Df K h h' l P->Q l h'):yN C K.n K.bytes f K.z x h Q:=by
 have hmul:∀n:Nat,n <= 100000100->n*K.bytes <= 140737488355328:=λn m=>by
  have:=Nat.mul_le_mul m K.small;omega
 have e:=hx.aE;refine aB.intro (λn vs g=>∃(k:Nat)(y:a7)(P:List (T×Ad)),k+n=L.length /\ vs=[y,.int .i64 k] /\ P.map (·.1)=L.take k /\ Df K h g y P) L.length ?_ ⟨0,.aA,[],by simp,by simp,by simp,by simpa[Df,DK.os]using (aG.start h).aA K.n⟩;rintro Y n vs g ⟨k,p,P,m,rfl,d,b⟩ u;have v:P.length=k:=by have:=congrArg List.length d;simp at this;omega
 simp -dsimp[e];refine B.bF (λi=>?_) (λi=>?_)<;>simp -dsimp at i ⊢
 ·obtain⟨w,hw⟩:=dI i
  obtain⟨a,j⟩:=(hx.mono b.le).get hw;simp -dsimp only[j.idx,j.cR,B.aK,B.iL];refine q _ _ _ _ j.at_ λc D s=>?_;simp -dsimp only[wW K _ c,xW K _ c,vf K _ c,B.aK];refine(b.join s).push 0 rfl (K.len _ c) K.pos (by simp;exact hmul _ (by omega)) (by simp[maxLen];omega) λo A r _=>?_;simp -dsimp[fH (n:=k) (by omega)];refine u (L.length-(k+1)) _ _ (by omega) ⟨k+1,o,P++[(w,c)],by omega,by simp,?_,?_⟩
  ·rw[take_succ hw,map_append,d];rfl
  ·unfold Df
   rw[DK.um,DK.v7,map_append];simpa using r
 ·have hk:k=L.length:=by omega
  rw[hk,take_length]at d;exact t p P g d b
end
variable{C:aC}{N:zN}
structure en where
 Code:List UInt8
 jY:Int
 cO:List Part
 dL:List (List UInt8)
 deriving DecidableEq
def oh:Nat:=100000000
abbrev en.ok(t:en):Prop:=t.cO.length <= oh /\ t.dL.length <= oh
def u4(b:Bool)(x:a7)(l:List Part):Ob:= .sl 2 x (l.map Part.cs) (bif b then wa else [])
def uz(b:Bool)(x:a7)(l:List (List UInt8)):Ob:= .sl 1 x (l.map tc) (bif b then uX else [])
def bR:DK en (a7×a7) where
 n:=4
 bytes:=72
 z:=[.str [],.int .i64 0,.aA,.aA]
 pos:=by omega
 small:=by omega
 mJ:=rfl
 cells t a:=[.str t.Code,.int .i64 t.jY,a.1,a.2]
 len _ _:=rfl
 at_ h t a:=(∃R,aJ h 2 a.1 (t.cO.map Part.cs) R) /\ (∃R,aJ h 1 a.2 (t.dL.map tc) R) /\ t.ok
 mono hle c:=⟨c.1.imp λ_ r=>r.mono hle,c.2.1.imp λ_ r=>r.mono hle,c.2.2⟩
 ok:=en.ok
 xB c:=c.2.2
 gy b t a:=[u4 b a.1 t.cO,uz b a.2 t.dL]
 mG {b h t a} hk c:=⟨⟨_,show aJ h 2 a.1 (t.cO.map Part.cs) (bif b then wa else []) from c (u4 b a.1 t.cO) (by simp)⟩,⟨_,show aJ h 1 a.2 (t.dL.map tc) (bif b then uX else []) from c (uz b a.2 t.dL) (by simp)⟩,hk⟩
theorem en.eq_iff(t u:en):t=u↔((t.Code=u.Code /\ t.jY=u.jY) /\ t.cO=u.cO) /\ t.dL=u.dL:=by
 cases t;cases u;simp[en.mk.injEq,and_assoc]
def n7.Spec(C:aC)(N:zN):Prop:=wG bR C (N 110)
theorem n7.spec(i:n7.aD C N)(s1:pt.Spec C N)(s2:pr.Spec C N):n7.Spec C N:=by
 intro t u a b h Q d hb c;obtain⟨⟨R1,l⟩,⟨R2,k⟩,j,g⟩:(∃R,aJ h 2 a.1 (t.cO.map Part.cs) R) /\ (∃R,aJ h 1 a.2 (t.dL.map tc) R) /\ t.ok:=d;obtain⟨⟨p,f⟩,⟨o,e⟩,n,m⟩:(∃R,aJ h 2 b.1 (u.cO.map Part.cs) R) /\ (∃R,aJ h 1 b.2 (u.dL.map tc) R) /\ u.ok:=hb;unfold oh at j g;apply i;simp +contextual -dsimp[bR];refine B.gG (v:= .bool (decide (t.cO=u.cO))) (λ_ Q c=>s1 _ _ _ _ _ _ _ _ l f (by omega) c) ?_;simp +contextual -dsimp;refine B.gG (v:= .bool (decide (t.dL=u.dL))) (λ_ Q c=>s2 _ _ _ _ _ _ _ _ k e (by omega) c) ?_;simp -dsimp;refine aR ?_;have:decide (t=u)=(((decide (t.Code=u.Code)&&decide (t.jY=u.jY))&&decide (t.cO=u.cO))&&decide (t.dL=u.dL)):=by
  rw[Bool.eq_iff_iff];simp only[decide_eq_true_eq,Bool.and_eq_true];exact en.eq_iff t u
 rw[this]at c;exact c
def qG.Spec(C:aC)(N:zN):Prop:=xI bR true C (N 399)
theorem qG.spec(i:qG.aD C N)(s1:pB.Spec C N)(s2:pA.Spec C N):qG.Spec C N:=by
 intro t a h Q f e;obtain⟨⟨R1,o⟩,⟨R2,n⟩,m,l⟩:(∃R,aJ h 2 a.1 (t.cO.map Part.cs) R) /\ (∃R,aJ h 1 a.2 (t.dL.map tc) R) /\ t.ok:=f;apply i;simp -dsimp[bR];refine s1 _ _ _ _ _ o m λd h1 b=>?_;have k:=(b.aP 0 rfl).aI;simp -dsimp[k];refine s2 _ _ _ _ _ (n.mono b.le) l λc g o2=>?_;have j:=(o2.aP 0 rfl).aI;simp -dsimp[j];exact aR (e (d,c) g (b.join o2))
def qK.Spec(C:aC)(N:zN):Prop:=xI bR false C (N 361)
theorem qK.spec(i:qK.aD C N)(s1:qz.Spec C N)(s2:qx.Spec C N):qK.Spec C N:=by
 intro t a h Q f e;obtain⟨⟨R1,o⟩,⟨R2,n⟩,m,l⟩:(∃R,aJ h 2 a.1 (t.cO.map Part.cs) R) /\ (∃R,aJ h 1 a.2 (t.dL.map tc) R) /\ t.ok:=f;apply i;simp -dsimp[bR];refine s1 _ _ _ _ _ o m λd h1 b=>?_;have k:=(b.aP 0 rfl).aI;simp -dsimp[k];refine s2 _ _ _ _ _ (n.mono b.le) l λc g o2=>?_;have j:=(o2.aP 0 rfl).aI;simp -dsimp[j];exact aR (e (d,c) g (b.join o2))
def qI.Spec(C:aC)(N:zN):Prop:=DU bR C (N 400)
theorem qI.spec(i:qI.aD C N)(k:n7.Spec C N)(s1:mQ.Spec C N)(s2:mP.Spec C N):qI.Spec C N:=by
 intro t u a b h Q c f hb d;apply i;have e:=bR.mG c f;obtain⟨⟨o,j⟩,⟨n,g⟩,m,l⟩:(∃R,aJ h 2 b.1 (u.cO.map Part.cs) R) /\ (∃R,aJ h 1 b.2 (u.dL.map tc) R) /\ u.ok:=hb;have k1:aJ h 2 a.1 (t.cO.map Part.cs) wa:=f (u4 true a.1 t.cO) (by simp[bR]);have k2:aJ h 1 a.2 (t.dL.map tc) uX:=f (uz true a.2 t.dL) (by simp[bR]);simp -dsimp[bR];refine k t u a b h _ e ⟨⟨o,j⟩,⟨n,g⟩,m,l⟩ ?_;simp +contextual -dsimp;refine B.gG (v:= .bool (decide (t.cO=u.cO))) (λ_ Q d=>s1 _ _ _ _ _ _ _ k1 j c.1 d) ?_;simp +contextual -dsimp;refine B.gG (v:= .bool (decide (t.dL=u.dL))) (λ_ Q d=>s2 _ _ _ _ _ _ _ k2 g c.2 d) ?_;simp -dsimp;refine aR ?_;have:decide (t=u)=(decide (t=u)&&decide (t.cO=u.cO)&&decide (t.dL=u.dL)):=by
  by_cases h:t=u
  ·subst h;simp
  ·simp[h]
 rw[this]at d;exact d
def sm(k i:Int):en:=⟨[],mark k i,[],[]⟩
theorem C8(k i:Int):bR.ok (sm k i):=⟨by simp[sm],by simp[sm]⟩
def n6.Spec(C:aC)(N:zN):Prop:=wH bR sm C (N 109)
theorem n6.spec(i:n6.aD C N)(s1:lL.Spec C N):n6.Spec C N:=by
 intro k j h Q a;apply i;simp -dsimp;refine s1 _ _ _ _ ?_;simp -dsimp;exact aR (a (.aA,.aA) _ (by simpa[bR,sm,u4,uz]using ((aG.start h).aA 2).aA 1))
def lF.Spec(C:aC)(N:zN):Prop:=∀(x y:a7)(L M:List en)(h:a9)(Q:zQ),Dl bR h x L->Dl bR h y M->L.length<4611686018427387904->Q (.bool (decide (L=M))) h->C (N 134) [x,y] h Q
theorem lF.spec(i:lF.aD C N)(s1:n7.Spec C N):lF.Spec C N:=λx y L M h Q hx a c b=>i x y h Q (FK (K:=bR) s1 hx a c (aR b))
def jv.Spec(C:aC)(N:zN):Prop:=∀(x:a7)(L:List en)(h:a9)(Q:zQ),Dl bR h x L->L.length <= 100000000->(∀b P a h',P.map (·.1)=L->a.map (·.1)=pU sm->aG h h' (.sl 4 b (P.map bR.cs) (a.map bR.cs)::(bR.os true P++bR.os false a))->Q b h')->C (N 391) [x] h Q
theorem jv.spec(i:jv.aD C N)(s1:n6.Spec C N)(s2:qG.Spec C N):jv.Spec C N:=λx L h Q hx d b=>i x h Q (FT (K:=bR) s1 s2 hx d λa P f h' e1 e c=>aR (b a P f h' e1 e c))
def kj.Spec(C:aC)(N:zN):Prop:=∀(x y:a7)(L M:List en)(h:a9)(Q:zQ),oZ bR sm h x L->Dl bR h y M->L.length <= 100000000->Q (.bool (decide (L=M))) h->C (N 392) [x,y] h Q
theorem kj.spec(i:kj.aD C N)(s1:qI.Spec C N)(s2:n6.Spec C N)(a:n7.Spec C N):kj.Spec C N:=λx y L M h Q hx b d c=>i x y h Q (FV (K:=bR) C8 s1 s2 a hx b d λh' hle=>ln hle c)
def lG.Spec(C:aC)(N:zN):Prop:=∀(x:a7)(L:List en)(h:a9)(Q:zQ),Dl bR h x L->L.length <= 100000000->(∀a P h',P.map (·.1)=L->Df bR h h' a P->Q a h')->C (N 354) [x] h Q
theorem lG.spec(i:lG.aD C N)(s1:qK.Spec C N):lG.Spec C N:=λx L h Q hx c b=>i x h Q (Gh (K:=bR) s1 hx c λa P h' e o=>aR (b a P h' e o))
variable{C:aC}{N:zN}
structure Row where
 Key:List UInt8
 Value:List UInt8
 deriving DecidableEq
def gw(b:Bool)(x:a7)(s:List UInt8):Ob:= .sl 1 x (s.map bc) (bif b then GD else [])
theorem Bh{b:Bool}{h:a9}{x:a7}{s:List UInt8}(a:s.length <= ep)(c:(gw b x s).at h):Bs h x s:=⟨⟨_,c⟩,a⟩
abbrev Row.ok(r:Row):Prop:=r.Key.length <= ep /\ r.Value.length <= ep
def aQ:DK Row (a7×a7) where
 n:=2
 bytes:=48
 z:=[.aA,.aA]
 pos:=by omega
 small:=by omega
 mJ:=rfl
 cells _ a:=[a.1,a.2]
 len _ _:=rfl
 at_ h t a:=Bs h a.1 t.Key /\ Bs h a.2 t.Value
 mono hle c:=⟨c.1.mono hle,c.2.mono hle⟩
 ok:=Row.ok
 xB c:=⟨c.1.2,c.2.2⟩
 gy b t a:=[gw b a.1 t.Key,gw b a.2 t.Value]
 mG {b h t a} hk c:=⟨Bh (b:=b) hk.1 (c _ (by simp)),Bh (b:=b) hk.2 (c _ (by simp))⟩
def nw.jJ(C:aC)(N:zN):Prop:=∀(x y:a7)(s t:List UInt8)(h:a9)(Q:zQ),Bs h x s->Bs h y t->Q (.bool (decide (s=t))) h->C (N 34) [x,y] h Q
theorem nw.sT(i:nw.aD C N):nw.jJ C N:=λx y s t h Q ⟨⟨R,hx⟩,b⟩ ⟨⟨S,a⟩,d⟩ c=>
 i x y h Q (FJ bS hx a (by unfold ep at b;omega) (aR c))
def pD.jJ(C:aC)(N:zN):Prop:=∀(x:a7)(s:List UInt8)(h:a9)(Q:zQ),Bs h x s->(∀a h',aG h h' [gw true a s]->Q a h')->C (N 37) [x] h Q
theorem pD.sT(i:pD.aD C N)(s1:na.Spec C N):pD.jJ C N:=λx s h Q ⟨⟨R,hx⟩,a⟩ c=>
 i x h Q (F1 bS (z:= .int .u8 0) (m:=1) (mk:=nF 1) (s1 1) hx (by unfold ep at a;omega) (by unfold ep at a;omega) λb h' d=>aR (c b h' d))
def mU.jJ(C:aC)(N:zN):Prop:=∀(x y:a7)(s t:List UInt8)(h:a9)(Q:zQ),s.length <= ep->(gw true x s).at h->Bs h y t->Q (.bool (decide (s=t))) h->C (N 39) [x,y] h Q
theorem mU.sT(i:mU.aD C N)(s1:na.Spec C N):mU.jJ C N:=λx y s t h Q b hx ⟨⟨R,a⟩,d⟩ c=>
 i x y h Q (F2 bS (m:=1) (mk:=nF 1) (s1 1) hx a (by unfold ep at b;omega) (aR c))
def mV.jJ(C:aC)(N:zN):Prop:=∀(x:a7)(s:List UInt8)(h:a9)(Q:zQ),Bs h x s->(∀a h',aG h h' [gw false a s]->Q a h')->C (N 45) [x] h Q
theorem mV.sT(i:mV.aD C N):mV.jJ C N:=λx s h Q ⟨⟨R,hx⟩,a⟩ c=>
 i x h Q (Gg (by omega) hx (by simp;unfold ep at a;omega) (by simp;unfold ep at a;omega) λb h' d=>aR (c b h' d))
def nB.Spec(C:aC)(N:zN):Prop:=wG aQ C (N 118)
theorem nB.spec(i:nB.aD C N)(s1:nw.jJ C N):nB.Spec C N:=by
 intro t u a b h Q d hb c;obtain⟨j,g⟩:Bs h a.1 t.Key /\ Bs h a.2 t.Value:=d;obtain⟨f,e⟩:Bs h b.1 u.Key /\ Bs h b.2 u.Value:=hb;apply i;simp -dsimp[aQ];refine s1 _ _ _ _ _ _ j f ?_;simp +contextual -dsimp;refine B.gG (v:= .bool (decide (t.Value=u.Value))) (λ_ Q c=>s1 _ _ _ _ _ _ g e c) ?_;simp -dsimp;refine aR ?_;have:decide (t=u)=(decide (t.Key=u.Key)&&decide (t.Value=u.Value)):=by
  cases t;cases u;simp[Row.mk.injEq]
 rw[this]at c;exact c
def qP.Spec(C:aC)(N:zN):Prop:=xI aQ true C (N 271)
theorem qP.spec(i:qP.aD C N)(s1:pD.jJ C N):qP.Spec C N:=by
 intro t a h Q g f;obtain⟨k,j⟩:Bs h a.1 t.Key /\ Bs h a.2 t.Value:=g;apply i;simp -dsimp[aQ];refine s1 _ _ _ _ k λd h1 b=>?_;simp -dsimp[((b.is _ (mem_singleton_self _)):(gw true d t.Key).at h1).aI];refine s1 _ _ _ _ (j.mono b.le) λc e o2=>?_;simp -dsimp[((o2.is _ (mem_singleton_self _)):(gw true c t.Value).at e).aI];exact aR (f (d,c) e (b.join o2))
def qR.Spec(C:aC)(N:zN):Prop:=xI aQ false C (N 311)
theorem qR.spec(i:qR.aD C N)(s1:mV.jJ C N):qR.Spec C N:=by
 intro t a h Q g f;obtain⟨k,j⟩:Bs h a.1 t.Key /\ Bs h a.2 t.Value:=g;apply i;simp -dsimp[aQ];refine s1 _ _ _ _ k λd h1 b=>?_;simp -dsimp[((b.is _ (mem_singleton_self _)):(gw false d t.Key).at h1).aI];refine s1 _ _ _ _ (j.mono b.le) λc e o2=>?_;simp -dsimp[((o2.is _ (mem_singleton_self _)):(gw false c t.Value).at e).aI];exact aR (f (d,c) e (b.join o2))
def qQ.Spec(C:aC)(N:zN):Prop:=DU aQ C (N 280)
theorem qQ.spec(i:qQ.aD C N)(g:nB.Spec C N)(s1:mU.jJ C N):qQ.Spec C N:=by
 intro t u a b h Q c f hb d;apply i;have e:=aQ.mG c f;simp -dsimp[aQ];refine g t u a b h _ e hb ?_;simp +contextual -dsimp;refine B.gG (v:= .bool (decide (t.Key=u.Key))) (λ_ Q d=>s1 _ _ _ _ _ _ c.1 (f _ (by simp[aQ])) hb.1 d) ?_;simp +contextual -dsimp;refine B.gG (v:= .bool (decide (t.Value=u.Value))) (λ_ Q d=>s1 _ _ _ _ _ _ c.2 (f _ (by simp[aQ])) hb.2 d) ?_;simp -dsimp;refine aR ?_;have:decide (t=u)=(decide (t=u)&&decide (t.Key=u.Key)&&decide (t.Value=u.Value)):=by
  by_cases h:t=u
  ·subst h;simp
  ·simp[h]
 rw[this]at d;exact d
def vo(k i:Int):Row:=⟨[nF k i],[]⟩
theorem CI(k i:Int):aQ.ok (vo k i):=⟨by simp[vo,ep],by simp[vo]⟩
def n9.Spec(C:aC)(N:zN):Prop:=wH aQ vo C (N 117)
theorem n9.spec(i:n9.aD C N)(s1:na.Spec C N):n9.Spec C N:=by
 intro k j h Q b;apply i;simp -dsimp;refine s1 _ _ _ _ ?_;simp -dsimp;intro id a;simp -dsimp;have o:=(aG.start h).gU a (n:=1) (cp:=1) (es:=1) (cs:=[.int .u8 ((nF k j).toNat:Int)]) (L:=[nF k j].map bc) (R:=[]) (by simp) rfl (by simp) rfl;exact aR (b (.sl id 0 0 1 1 1,.aA) _ (by simpa[aQ,vo,gw]using o.aA 1))
def kW.Spec(C:aC)(N:zN):Prop:=∀(x y:a7)(L M:List Row)(h:a9)(Q:zQ),Dl aQ h x L->Dl aQ h y M->L.length<4611686018427387904->Q (.bool (decide (L=M))) h->C (N 263) [x,y] h Q
theorem kW.spec(i:kW.aD C N)(s1:nB.Spec C N):kW.Spec C N:=λx y L M h Q hx a c b=>i x y h Q (FK (K:=aQ) s1 hx a c (aR b))
def jN.Spec(C:aC)(N:zN):Prop:=∀(x y:a7)(L M:List Row)(h:a9)(Q:zQ),oZ aQ vo h x L->Dl aQ h y M->L.length <= 100000000->Q (.bool (decide (L=M))) h->C (N 258) [x,y] h Q
theorem jN.spec(i:jN.aD C N)(s1:qQ.Spec C N)(s2:n9.Spec C N)(a:nB.Spec C N):jN.Spec C N:=λx y L M h Q hx b d c=>i x y h Q (FV (K:=aQ) CI s1 s2 a hx b d λh' hle=>ln hle c)
def jO.Spec(C:aC)(N:zN):Prop:=∀(x:a7)(L:List Row)(h:a9)(Q:zQ),Dl aQ h x L->L.length <= 100000000->(∀a P h',P.map (·.1)=L->Df aQ h h' a P->Q a h')->C (N 306) [x] h Q
theorem jO.spec(i:jO.aD C N)(s1:qR.Spec C N):jO.Spec C N:=λx L h Q hx c b=>i x h Q (Gh (K:=aQ) s1 hx c λa P h' e o=>aR (b a P h' e o))
abbrev iC:List UInt8->List UInt8->Bool:=Op.bytesLess
theorem Nt(a:List UInt8):iC a []=false:=by cases a<;>rfl
theorem xk(a b:UInt8)(c bs:List UInt8):iC (a::c) (b::bs)=(decide (a<b)||(a==b&&iC c bs)):=rfl
theorem OY(a b:UInt8):a<b \/ a=b \/ b<a:=by
 simp only[UInt8.lt_iff_toNat_lt,<-UInt8.toNat_inj];omega
abbrev vK:=Lib.compareBytes
theorem GN:∀a b:List UInt8,vK a b=if iC a b then -1 else if iC b a then 1 else 0
 | [],[]=>rfl
 | [],_::_=>rfl
 | _::_,[]=>rfl
 | a::c,b::bs=>by
  have d:=GN c bs
  show (if a<b then -1 else if b<a then 1 else vK c bs)=_
  rw[d,xk,xk]
  rcases OY a b with h|rfl|h
  ·simp[h]
  ·have hi:¬ a<a:=by simp only[UInt8.lt_iff_toNat_lt];omega
   simp
  ·have h1:¬ a<b:=by simp only[UInt8.lt_iff_toNat_lt]at *;omega
   have g:a≠b:=λe=>by subst e;exact h1 h
   have f:(a==b)=false:=by simp[g]
   simp[h,h1,f]
theorem Oo{a b:List UInt8}:vK a b<0↔iC a b=true:=by
 rw[GN];split
 ·simp[*]
 ·split<;>simp[*]
section
variable{V:Type}
variable(E:V->List V)
variable{E}
variable{K:List V}{D:V->Option Nat}
end
def yv(x:en):List (List UInt8):=x.cO.map Part.Item
variable{C:aC}{N:zN}
def lT.right(w:lT):Bool:=decide (0 <= w.oe)&&decide (w.oe <= w.oY)&&decide (w.oY <= 4001)
def q9.Spec(C:aC)(N:zN):Prop:=∀(a b:Int)(h:a9)(Q:zQ),Q (.bool (lT.right ⟨a,b⟩)) h->C (N 5) [.agg [.int .i64 a,.int .i64 b]] h Q
theorem q9.spec(i:q9.aD C N):q9.Spec C N:=by
 intro a b h Q c;apply i;simp +contextual -dsimp;exact aR c
def lT.zero:lT:=⟨0,0⟩
variable{C:aC}{N:zN}
def kN(l:bZ):Bool:=decide (0<l.Id)&&eu l.Item&&lT.right ⟨l.oe,l.oY⟩&&decide (l.oe<l.oY)&&decide (0<l.ek)&&decide (l.ek <= 1073741824)
def ur(u:fA):Bool:=decide (0 <= u.Want)&&decide (1 <= u.bZ)&&decide (1 <= u.ek)
def pL.Spec(C:aC)(N:zN):Prop:=∀(l:bZ)(h:a9)(Q:zQ),Q (.bool (kN l)) h->C (N 52) [.agg l.cs] h Q
theorem pL.spec(i:pL.aD C N)(s1:iA.Spec C N)(s2:q9.Spec C N):pL.Spec C N:=by
 intro l h Q a;apply i;simp +contextual -dsimp;refine B.gG (λ_ _ a=>s1 _ _ _ a) ?_;simp +contextual -dsimp;refine B.gG (λ_ _ a=>s2 _ _ _ _ a) ?_;simp +contextual -dsimp;simp only[kN,Bool.and_assoc]at a;simp only[Bool.and_assoc];exact aR a
def pH.Spec(C:aC)(N:zN):Prop:=∀(l:bZ)(h:a9)(Q:zQ),Q (.bool (kN l)) h->C (N 60) [.agg l.cs] h Q
theorem pH.spec(i:pH.aD C N)(s1:iX.Spec C N):pH.Spec C N:=by
 intro l h Q c;apply i;simp +contextual -dsimp;refine B.gG (λ_ _ c=>s1 _ _ _ c) ?_;simp +contextual -dsimp;refine aR ?_;have:∀a b:Bool,a=b->Q (.bool b) h->Q (.bool a) h:=λa b e=>by rw[e];exact id
 refine this _ _ ?_ c;rw[Bool.eq_iff_iff];cases d:eu l.Item<;>simp[kN,lT.right,d];omega
def be(n:Int):Nat->List UInt8|0=>[]|k+1=>dN (n.fdiv (2 ^ (8*k)))::be n k
@[simp] theorem gr(n:Int):∀k,(be n k).length=k
 | 0=>rfl
 | k+1=>by simp[be,gr n k]
def lY.Spec(C:aC)(N:zN):Prop:=∀(h0 h:a9)(x:a7)(D:List UInt8)(n:Int)(k:Nat)(Q:zQ),aG h0 h [.sl 1 x (D.map bc) []]->k <= 8->D.length <= 100000000->(∀a h',aG h0 h' [.sl 1 a ((D++be n k).map bc) []]->Q a h')->C (N 50) [x,.int .i64 n,.int .i64 (k:Int)] h Q
theorem lY.spec(i:lY.aD C N):lY.Spec C N:=by
 intro h0 h x D n k Q a hk m f;apply i;have e0:IntKind.i64.wrap ((k:Int)-1)=(k:Int)-1:=wrap_i64 (by omega) (by omega);simp +contextual -dsimp[e0];refine aB.intro (λt vs d=>∃(x:a7)(pre:List UInt8),t <= k /\ vs=[x,.int .i64 ((t:Int)-1)] /\ pre++be n t=be n k /\ aG h0 d [.sl 1 x ((D++pre).map bc) []]) k ?_ ⟨x,[],Nat.le_refl _,rfl,rfl,by simpa using a⟩;rintro Y t vs d ⟨x,pre,l,rfl,he,a⟩ g;simp +contextual -dsimp;have b:=congrArg List.length he;simp only[length_append,gr]at b;refine B.bF (λhb=>?_) (λhb=>?_)<;>simp at hb
 ·obtain⟨t,rfl⟩:∃u,t=u+1:=⟨t-1,by omega⟩
  have e1:((t+1:Nat):Int)-1=(t:Int):=by omega
  have j:IntKind.i64.wrap (8*(t:Int))=8*(t:Int):=wrap_i64 (by omega) (by omega);have e3:V.bin .shr (.int .i64 n) (.int .i64 (8*(t:Int)))=some (.int .i64 (n.fdiv (2 ^ (8*t)))):=by
   rw[wz (by omega) (by simp[IntKind.bits];omega)];congr 4
  have e4:IntKind.i64.wrap ((t:Int)-1)=(t:Int)-1:=wrap_i64 (by omega) (by omega);rw[e1];simp +contextual -dsimp[j,e3,mz];refine a.push 0 rfl rfl (by omega) (by simp;omega) (by simp[maxLen];omega) λe h' c _=>?_;simp +contextual -dsimp[e4];refine g t _ _ (by omega) ⟨e,pre++[dN (n.fdiv (2 ^ (8*t)))],by omega,rfl,?_,?_⟩
  ·rw[<-he,be,append_assoc];rfl
  ·rw[<-append_assoc,map_append];exact c
 ·have:t=0:=by omega
  subst this;rw[be,append_nil]at he;subst he;exact aR (f _ _ a)
theorem A6(n:Int):∀t:Nat,t<8->((n % 18446744073709551616).fdiv (2 ^ (8*t))) % 256=(n.fdiv (2 ^ (8*t))) % 256
 | 0,_=>by rw[Int.fdiv_eq_ediv_of_nonneg _ (by omega),Int.fdiv_eq_ediv_of_nonneg _ (by omega)];omega
 | 1,_=>by rw[Int.fdiv_eq_ediv_of_nonneg _ (by omega),Int.fdiv_eq_ediv_of_nonneg _ (by omega)];omega
 | 2,_=>by rw[Int.fdiv_eq_ediv_of_nonneg _ (by omega),Int.fdiv_eq_ediv_of_nonneg _ (by omega)];omega
 | 3,_=>by rw[Int.fdiv_eq_ediv_of_nonneg _ (by omega),Int.fdiv_eq_ediv_of_nonneg _ (by omega)];omega
 | 4,_=>by rw[Int.fdiv_eq_ediv_of_nonneg _ (by omega),Int.fdiv_eq_ediv_of_nonneg _ (by omega)];omega
 | 5,_=>by rw[Int.fdiv_eq_ediv_of_nonneg _ (by omega),Int.fdiv_eq_ediv_of_nonneg _ (by omega)];omega
 | 6,_=>by rw[Int.fdiv_eq_ediv_of_nonneg _ (by omega),Int.fdiv_eq_ediv_of_nonneg _ (by omega)];omega
 | 7,_=>by rw[Int.fdiv_eq_ediv_of_nonneg _ (by omega),Int.fdiv_eq_ediv_of_nonneg _ (by omega)];omega
 | t+8,h=>by omega
def kV.Spec(C:aC)(N:zN):Prop:=∀(n:Int)(k:Nat)(h:a9)(Q:zQ),k <= 8->(∀a h',aG h h' [.sl 1 a ((be n k).map bc) []]->Q a h')->C (N 58) [.int .i64 n,.int .i64 (k:Int)] h Q
theorem kV.spec(i:kV.aD C N):kV.Spec C N:=by
 intro n k h Q hk f;apply i;have e0:IntKind.i64.wrap ((k:Int)-1)=(k:Int)-1:=wrap_i64 (by omega) (by omega);simp +contextual -dsimp[e0];refine aB.intro (λt vs d=>∃(x:a7)(pre:List UInt8),t <= k /\ vs=[x,.int .i64 ((t:Int)-1)] /\ pre++be n t=be n k /\ aG h d [.sl 1 x (pre.map bc) []]) k ?_ ⟨.aA,[],Nat.le_refl _,rfl,rfl,(aG.start h).aA 1⟩;rintro Y t vs d ⟨x,pre,o,rfl,he,c⟩ g;simp +contextual -dsimp;have a:=congrArg List.length he;simp only[length_append,gr]at a;refine B.bF (λhb=>?_) (λhb=>?_)<;>simp at hb
 ·obtain⟨t,rfl⟩:∃u,t=u+1:=⟨t-1,by omega⟩
  have e1:((t+1:Nat):Int)-1=(t:Int):=by omega
  have m:IntKind.i64.wrap (8*(t:Int))=8*(t:Int):=wrap_i64 (by omega) (by omega);have l:IntKind.u64.wrap (8*(t:Int))=8*(t:Int):=by rw[wrap_u64];omega
  have e3:V.bin .shr (.int .u64 (IntKind.u64.wrap n)) (.int .u64 (8*(t:Int)))=some (.int .u64 ((n % 18446744073709551616).fdiv (2 ^ (8*t)))):=by
   rw[wrap_u64,wz (by omega) (by simp[IntKind.bits];omega)];congr 4
  have j:dN ((n % 18446744073709551616).fdiv (2 ^ (8*t)))=dN (n.fdiv (2 ^ (8*t))):=Ao (A6 n t (by omega));have e4:IntKind.i64.wrap ((t:Int)-1)=(t:Int)-1:=wrap_i64 (by omega) (by omega);rw[e1];simp +contextual -dsimp[m,l,e3,mz,j];refine c.push 0 rfl rfl (by omega) (by simp;omega) (by simp[maxLen];omega) λe h' b _=>?_;simp +contextual -dsimp[e4];refine g t _ _ (by omega) ⟨e,pre++[dN (n.fdiv (2 ^ (8*t)))],by omega,rfl,?_,?_⟩
  ·rw[<-he,be,append_assoc];rfl
  ·rw[map_append];exact b
 ·have:t=0:=by omega
  subst this;rw[be,append_nil]at he;subst he;exact aR (f _ _ c)
theorem vh{f:Nat}{args:List a7}{h0 h:a9}{out:a7}{D M:List UInt8}{K:zQ}(s:∀Q:zQ,(∀a h',aG h h' [.sl 1 a (M.map bc) []]->Q a h')->C f args h Q)
  (d:aG h0 h [.sl 1 out (D.map bc) []]) (i:D.length+M.length <= 100000000) (e:∀out' h',aG h0 h' [.sl 1 out' ((D++M).map bc) []]->K out' h'):C f args h (λv h=>B.bO h 1 1 out v K):=by
 refine s _ λa h' c=>?_;refine(d.join c).bO 0 rfl (c.aP 0 rfl) (by omega) (by simp;omega) (by simp[maxLen];omega) λout' g b _=>e out' g ?_;rw[map_append];exact b.sub (by simp)
theorem yy{h0 h:a9}{out:a7}{D:List UInt8}{b:UInt8}{K:zQ}(d:aG h0 h [.sl 1 out (D.map bc) []])(f:D.length <= 100000000)(e:∀out' h',aG h0 h' [.sl 1 out' ((D++[b]).map bc) []]->K out' h'):
  B.bL h (some [.int .u8 (b.toNat:Int)]) λi h=>B.bO h 1 1 out (.sl i 0 0 1 1 1) K:=by
 refine d.push 0 rfl rfl (by omega) (by simp;omega) (by simp[maxLen];omega) λc h' a _=>e c h' ?_;rw[map_append];exact a
def cW.bare(t:cW):Bool:=decide (t.Id=0)&&decide (t.Day=0)&&decide (t.Code=[])&&decide (t.State=0)&&decide (t.bJ=[])&&decide (t.Uses=[])
def cW.head(t:cW):Bool:= !(decide (t.Id<0)||decide (t.Day< -1)||decide (4000<t.Day)|| !decide (t.Code=[])&& !eu t.Code||decide (3<(t.State.toNat:Int))||decide (300<(t.bJ.length:Int))||decide (2000<(t.Uses.length:Int)))
def cW.full(t:cW):Bool:=t.head&&t.bJ.all kN&&t.Uses.all ur
def km(t:cW):Bool:=decide (0 <= t.kE)&&decide (t.kE <= 999)&&if 0<t.kE then t.bare else t.full
theorem Hp(b:UInt8):decide ((b.toNat:Int)=0)=decide (b=0):=yE b 0
theorem xn{T:Type}{p:T->Bool}{L:List T}{k:Nat}{w:T}(h:(L.take k).all p=true)(hw:L[k]?=some w)(a:p w=true):(L.take (k+1)).all p=true:=by
 rw[take_succ hw,all_append,h];simp[a]
theorem xy{T:Type}{p:T->Bool}{L:List T}{k:Nat}{w:T}(hw:L[k]?=some w)(a:p w=false):L.all p=false:=by
 rw[<-Bool.not_eq_true,all_eq_true];intro h;rw[h w (mem_of_getElem? hw)]at a;cases a
def hJ.Spec(C:aC)(N:zN):Prop:=∀(t:cW)(x y:a7)(h:a9)(Q:zQ),kP h t x y->t.bJ.length <= 100000000->t.Uses.length <= 100000000->Q (.bool (km t)) h->C (N 29) [.agg (t.cs x y)] h Q
theorem hJ.spec(i:hJ.aD C N)(s1:pL.Spec C N)(s2:iA.Spec C N):hJ.Spec C N:=by
 intro t x y h Q v D A c;obtain⟨⟨R,hx⟩,⟨S,r⟩⟩:=v;apply i;have f:=hx.aE;have d:=r.aE;rw[length_map]at f d;have hw:IntKind.i64.wrap ((t.bJ.length:Int)+t.Uses.length)=(t.bJ.length:Int)+t.Uses.length:=wrap_i64 (by omega) (by omega);simp +contextual -dsimp[f,d,hw];refine B.bF (λh1=>?_) (λh1=>?_)
 ·have:km t=false:=by simp at h1;simp[km];omega
  rw[this]at c;exact aR c
 ·simp +contextual -dsimp
  refine B.bF (λq=>?_) (λq=>?_)
  ·have:∀a:Bool,km t=a->dn Q (.bool a) h:=λa e=>by rw[<-e];exact aR c
   refine this _ ?_;simp at h1 q;simp only[km,q,if_true,cW.bare,decide_eq_true h1.1,decide_eq_true h1.2,Bool.true_and];rw[Bool.eq_iff_iff];simp[<-Hp];have e:(t.bJ=[] /\ t.Uses=[])↔((t.bJ.length:Int)+t.Uses.length=0):=by rw[<-length_eq_zero_iff,<-length_eq_zero_iff];omega
   rw[and_assoc,e]
  ·simp +contextual -dsimp
   refine B.gG (λ_ _ c=>s2 _ _ _ c) ?_;simp +contextual -dsimp[f,d];have o:km t=t.full:=by
    simp at h1 q;simp only[km];rw[if_neg (by omega),decide_eq_true h1.1,decide_eq_true h1.2];rfl
   rw[o]at c;refine B.bF (λu=>?_) (λu=>?_)
   ·rw[show t.full=false by simp only[cW.full,cW.head,u];rfl]at c
    exact aR c
   ·have m:t.head=true:=by simp only[cW.head,u];rfl
    simp +contextual -dsimp[f,d];refine aB.intro (λn vs s=>∃k:Nat,k+n=t.bJ.length /\ vs=[.int .i64 k] /\ s=h /\ (t.bJ.take k).all kN=true) t.bJ.length ?_ ⟨0,by simp,by simp,rfl,by simp⟩;rintro Y n vs s ⟨k,z,rfl,rfl,g⟩ F;simp +contextual -dsimp;refine B.bF (λj=>?_) (λj=>?_)<;>simp at j
    ·obtain⟨w,hw⟩:=dI j
     have hk:k<(t.bJ.map bZ.cs).length:=by simpa using j
     simp +contextual -dsimp[hx.dF hk,hx.elem (get_map hw)];refine s1 w _ _ ?_;simp +contextual -dsimp;refine B.bF (λp=>?_) (λp=>?_)
     ·rw[show t.full=false by simp only[cW.full,xy hw (show kN w=false by simpa using p),Bool.and_false,Bool.false_and]]at c
      exact aR c
     ·simp +contextual -dsimp[fH (n:=k) (by omega)]
      exact F (n-1) _ _ (by omega) ⟨k+1,by omega,by simp,rfl,xn g hw (by simpa using p)⟩
    ·have l:k=t.bJ.length:=by omega
     subst l;rw[take_length]at g;simp +contextual -dsimp[f,d];refine aB.intro (λn vs q=>∃k:Nat,k+n=t.Uses.length /\ vs=[.int .i64 k] /\ q=s /\ (t.Uses.take k).all ur=true) t.Uses.length ?_ ⟨0,by simp,by simp,rfl,by simp⟩;rintro Z n vs q ⟨k,z,rfl,rfl,b⟩ E;simp +contextual -dsimp;refine B.bF (λj=>?_) (λj=>?_)<;>simp at j
     ·obtain⟨w,hw⟩:=dI j
      have hk:k<(t.Uses.map fA.cs).length:=by simpa using j
      simp +contextual -dsimp[r.dF hk,r.elem (get_map hw)];refine B.bF (λp=>?_) (λp=>?_)
      ·rw[show t.full=false by simp only[cW.full,xy hw (show ur w=false by simp at p;simp[ur];omega),Bool.and_false]]at c
       exact aR c
      ·simp +contextual -dsimp[fH (n:=k) (by omega)]
       exact E (n-1) _ _ (by omega) ⟨k+1,by omega,by simp,rfl,xn b hw (by simp at p;simp[ur];omega)⟩
     ·have l:k=t.Uses.length:=by omega
      subst l;rw[take_length]at b;rw[show t.full=true by simp only[cW.full,m,g,b];rfl]at c;exact aR c
def gP.Spec(C:aC)(N:zN):Prop:=∀(t:cW)(x y:a7)(h:a9)(Q:zQ),kP h t x y->t.bJ.length <= 100000000->t.Uses.length <= 100000000->Q (.bool (km t)) h->C (N 33) [.agg (t.cs x y)] h Q
theorem gP.spec(i:gP.aD C N)(s1:pH.Spec C N)(s2:iX.Spec C N):gP.Spec C N:=by
 intro t x y h Q v D A f;obtain⟨⟨R,hx⟩,⟨S,r⟩⟩:=v;apply i;have c:=hx.aE;have b:=r.aE;rw[length_map]at c b;have hw:IntKind.i64.wrap ((t.bJ.length:Int)+t.Uses.length)=(t.bJ.length:Int)+t.Uses.length:=wrap_i64 (by omega) (by omega);simp +contextual -dsimp[c,b,hw];refine B.bF (λh1=>?_) (λh1=>?_)
 ·have:km t=false:=by simp at h1;simp[km];omega
  rw[this]at f;exact aR f
 ·simp +contextual -dsimp[c,b,hw]
  refine B.bF (λq=>?_) (λq=>?_)
  ·simp +contextual -dsimp[c,b,hw]
   have:∀a:Bool,km t=a->dn Q (.bool a) h:=λa e=>by rw[<-e];exact aR f
   refine this _ ?_;simp at h1 q;simp only[km,show 0<t.kE by omega,if_true,cW.bare,decide_eq_true h1.1,decide_eq_true h1.2,Bool.true_and];rw[Bool.eq_iff_iff];simp[<-Hp];have e:(t.bJ=[] /\ t.Uses=[])↔((t.bJ.length:Int)+t.Uses.length=0):=by rw[<-length_eq_zero_iff,<-length_eq_zero_iff];omega
   rw[and_assoc,e]
  ·simp +contextual -dsimp[c,b]
   refine B.gG (λ_ _ f=>s2 _ _ _ f) ?_;simp +contextual -dsimp[c,b];have o:km t=t.full:=by
    simp at h1 q;simp only[km];rw[if_neg (by omega),decide_eq_true h1.1,decide_eq_true h1.2];rfl
   rw[o]at f;refine B.bF (λu=>?_) (λu=>?_)
   ·rw[show t.full=false by simp only[cW.full,cW.head,u];rfl]at f
    exact aR f
   ·have m:t.head=true:=by simp only[cW.head,u];rfl
    refine aB.intro (λn vs s=>∃k:Nat,k+n=t.bJ.length /\ vs=[.int .i64 k] /\ s=h /\ (t.bJ.take k).all kN=true) t.bJ.length ?_ ⟨0,by simp,by simp,rfl,by simp⟩;rintro Y n vs s ⟨k,z,rfl,rfl,g⟩ F;simp +contextual -dsimp[c,b];refine B.bF (λj=>?_) (λj=>?_)<;>simp at j
    ·obtain⟨w,hw⟩:=dI j
     have hk:k<(t.bJ.map bZ.cs).length:=by simpa using j
     simp +contextual -dsimp[hx.dF hk,hx.elem (get_map hw)];refine s1 w _ _ ?_;simp +contextual -dsimp;refine B.bF (λp=>?_) (λp=>?_)
     ·rw[show t.full=false by simp only[cW.full,xy hw (show kN w=false by simpa using p),Bool.and_false,Bool.false_and]]at f
      exact aR f
     ·simp +contextual -dsimp[fH (n:=k) (by omega)]
      exact F (n-1) _ _ (by omega) ⟨k+1,by omega,by simp,rfl,xn g hw (by simpa using p)⟩
    ·have l:k=t.bJ.length:=by omega
     subst l;rw[take_length]at g;refine aB.intro (λn vs q=>∃k:Nat,k+n=t.Uses.length /\ vs=[.int .i64 k] /\ q=s /\ (t.Uses.take k).all ur=true) t.Uses.length ?_ ⟨0,by simp,by simp,rfl,by simp⟩;rintro Z n vs q ⟨k,z,rfl,rfl,d⟩ E;simp +contextual -dsimp[c,b];refine B.bF (λj=>?_) (λj=>?_)<;>simp at j
     ·obtain⟨w,hw⟩:=dI j
      have hk:k<(t.Uses.map fA.cs).length:=by simpa using j
      simp +contextual -dsimp[r.dF hk,r.jF hk,r.bX (get_map hw)];refine B.bF (λp=>?_) (λp=>?_)
      ·rw[show t.full=false by simp only[cW.full,xy hw (show ur w=false by simp at p;simp[ur];omega),Bool.and_false]]at f
       exact aR f
      ·simp +contextual -dsimp[fH (n:=k) (by omega)]
       exact E (n-1) _ _ (by omega) ⟨k+1,by omega,by simp,rfl,xn d hw (by simp at p;simp[ur];omega)⟩
     ·have l:k=t.Uses.length:=by omega
      subst l;rw[take_length]at d;rw[show t.full=true by simp only[cW.full,m,g,d];rfl]at f;exact aR f
variable{C:aC}{N:zN}
def sn(l:bZ):List UInt8:=be l.Id 8++fO l.Item++be l.oe 2++be l.oY 2++be l.ek 8++be (bif l.rH then 1 else 0) 1
def uu(u:fA):List UInt8:=be u.Want 8++be u.bZ 8++be u.ek 8
def vX(t:cW):List UInt8:=be t.kE 2++be t.Id 8++be (t.Day+1) 2++fO t.Code++[t.State]++be t.bJ.length 2++t.bJ.flatMap sn++be t.Uses.length 2++t.Uses.flatMap uu
def fX(t:cW):List UInt8×Int:=if km t=false then ([],2) else if 0<t.kE then (be t.kE 2,0) else (vX t,0)
theorem Ln(l:bZ):(sn l).length <= 34:=by
 have:=kl l.Item;simp[sn];omega
theorem Lb(u:fA):(uu u).length=24:=by simp[uu]
theorem ui{T:Type}{f:T->List UInt8}{m:Nat}(b:∀x,(f x).length <= m):∀L:List T,(L.flatMap f).length <= L.length*m
 | []=>by simp
 | a::r=>by
  have:=ui b r
  have:=b a
  simp only[flatMap_cons,length_append,length_cons,Nat.add_mul,Nat.one_mul];omega
theorem Dm(L:List bZ)(k:Nat)(h:L.length <= 300):((L.take k).flatMap sn).length <= 10200:=by
 have h1:=ui Ln (L.take k);have a:(L.take k).length <= 300:=by simp;omega
 have:=Nat.mul_le_mul_right 34 a;omega
theorem Dd(L:List fA)(k:Nat)(h:L.length <= 2000):((L.take k).flatMap uu).length <= 48000:=by
 have h1:=ui (λu=>Nat.le_of_eq (Lb u)) (L.take k);have a:(L.take k).length <= 2000:=by simp;omega
 have:=Nat.mul_le_mul_right 24 a;omega
theorem Ak{T:Type}{f:T->List UInt8}{L:List T}{k:Nat}{w:T}(hw:L[k]?=some w):(L.take (k+1)).flatMap f=(L.take k).flatMap f++f w:=by
 rw[take_succ hw,flatMap_append];simp
theorem zB{t:cW}(h:km t=true):0 <= t.kE /\ t.kE <= 999 /\ (¬ 0<t.kE->t.head=true /\ t.bJ.length <= 300 /\ t.Uses.length <= 2000 /\ -1 <= t.Day /\ t.Day <= 4000):=by
 simp only[km,Bool.and_eq_true,decide_eq_true_eq]at h;refine⟨h.1.1,h.1.2,λc=>?_⟩;have a:=h.2;rw[if_neg c]at a;simp only[cW.full,Bool.and_eq_true]at a;have b:=a.1.1;refine⟨b,?_⟩;simp[cW.head]at b;omega
def fW.Spec(C:aC)(N:zN):Prop:=∀(t:cW)(x y:a7)(h:a9)(Q:zQ),kP h t x y->t.bJ.length <= 100000000->t.Uses.length <= 100000000->(∀a h',aG h h' [.sl 1 a ((fX t).1.map bc) []]->Q (.bI [a,.int .i64 (fX t).2]) h')->C (N 28) [.agg (t.cs x y)] h Q
theorem fW.spec(i:fW.aD C N)(s1:hJ.Spec C N)(s2:lY.Spec C N)(O:nf.Spec C N):fW.Spec C N:=by
 intro t x y h Q A L K r;apply i;simp +contextual -dsimp;refine s1 t x y _ _ A L K ?_;simp +contextual -dsimp;refine B.bF (λq=>?_) (λq=>?_)<;>simp at q
 ·rw[show fX t=([],2) by simp[fX,q]]at r
  exact aR (r _ _ ((aG.start h).aA 1))
 ·obtain⟨f1,f2,f3⟩:=zB q
  have hc:=kl t.Code;simp +contextual -dsimp;refine s2 h h _ [] t.kE 2 _ ((aG.start h).aA 1) (by omega) (by simp) λz h1 a=>?_;simp +contextual -dsimp;refine B.bF (λhe=>?_) (λhe=>?_)<;>simp at he
  ·rw[show fX t=(be t.kE 2,0) by simp[fX,q,he]]at r
   exact aR (r _ _ a)
  ·obtain⟨f4,f5,f6,f7,f8⟩:=f3 (by omega)
   rw[show fX t=(vX t,0) by simp[fX,q];omega]at r;have ed:IntKind.i64.wrap (t.Day+1)=t.Day+1:=wrap_i64 (by omega) (by omega);simp +contextual -dsimp;refine s2 h h1 _ _ t.Id 8 _ a (by omega) (by simp) λo2 p d=>?_;simp +contextual -dsimp[ed];refine s2 h p _ _ (t.Day+1) 2 _ d (by omega) (by simp) λI E b=>?_;simp +contextual -dsimp;refine vh (O t.Code E) b (by simp only[length_append,gr,length_cons,length_nil];omega) λU T j=>?_;simp +contextual -dsimp;refine yy j (by simp only[length_append,gr,length_cons,length_nil];omega) λP D f=>?_;obtain⟨⟨R,hx⟩,⟨S,u⟩⟩:=A.mono f.le;have e:=hx.aE;rw[length_map]at e;simp +contextual -dsimp[e];refine s2 h D _ _ t.bJ.length 2 _ f (by omega) (by simp only[length_append,gr,length_cons,length_nil];omega) λH h6 c=>?_;simp +contextual -dsimp[e];simp only[nil_append,append_assoc]at c;refine aB.intro (λn vs s=>∃(k:Nat)(o:a7),k+n=t.bJ.length /\ vs=[o,.int .i64 k] /\ aG h s [.sl 1 o ((be t.kE 2++(be t.Id 8++(be (t.Day+1) 2++(fO t.Code++([t.State]++(be t.bJ.length 2++(t.bJ.take k).flatMap sn)))))).map bc) []]) t.bJ.length ?_ ⟨0,H,by simp,by simp,by simpa using c⟩;rintro Y n vs s ⟨k,o,hn,rfl,g⟩ hY;obtain⟨⟨R,hx⟩,⟨S,u⟩⟩:=A.mono g.le;have e:=hx.aE;have l:=u.aE;rw[length_map]at e l;have J:=Dm t.bJ k f5;simp +contextual -dsimp;refine B.bF (λhb=>?_) (λhb=>?_)<;>simp at hb
   ·obtain⟨w,hw⟩:=dI hb
    have hk:k<(t.bJ.map bZ.cs).length:=by simpa using hb
    have hcw:=kl w.Item;simp +contextual -dsimp[hx.dF hk,hx.elem (get_map hw)];refine s2 h s _ _ w.Id 8 _ g (by omega) (by simp only[length_append,gr,length_cons,length_nil];omega) λz h1 a=>?_;simp +contextual -dsimp;refine vh (O w.Item h1) a (by simp only[length_append,gr,length_cons,length_nil];omega) λo2 p d=>?_;simp +contextual -dsimp;refine s2 h p _ _ w.oe 2 _ d (by omega) (by simp only[length_append,gr,length_cons,length_nil];omega) λI E b=>?_;simp +contextual -dsimp;refine s2 h E _ _ w.oY 2 _ b (by omega) (by simp only[length_append,gr,length_cons,length_nil];omega) λU T j=>?_;simp +contextual -dsimp;refine s2 h T _ _ w.ek 8 _ j (by omega) (by simp only[length_append,gr,length_cons,length_nil];omega) λP D f=>?_;simp +contextual -dsimp
    have fin:∀v:Int,v=(bif w.rH then 1 else 0)->C (N 50) [P,.int .i64 v,.int .i64 1] D λG h=>B.pv (V.bin .add (.int .i64 (k:Int)) (.int .i64 1)) λF=>Y [G,F] h:=λv W=>by
     refine s2 h D _ _ v 1 _ f (by omega) (by simp only[length_append,gr,length_cons,length_nil];omega) λH h6 c=>?_;simp +contextual -dsimp[fH (n:=k) (by omega)];refine hY (n-1) _ _ (by omega) ⟨k+1,H,by omega,by simp,?_⟩;rw[Ak hw];simp only[sn,<-W,append_assoc]at c ⊢;exact c
    refine B.bF (λM=>?_) (λM=>?_)
    ·exact fin 1 (by rw[M];rfl)
    ·exact fin 0 (by rw[M];rfl)
   ·have m:k=t.bJ.length:=by omega
    subst m;rw[take_length]at g J;simp +contextual -dsimp[l];refine s2 h s _ _ t.Uses.length 2 _ g (by omega) (by simp only[length_append,gr,length_cons,length_nil];omega) λz h1 a=>?_;simp +contextual -dsimp[l];simp only[append_assoc]at a;refine aB.intro (λn vs s=>∃(k:Nat)(o:a7),k+n=t.Uses.length /\ vs=[o,.int .i64 k] /\ aG h s [.sl 1 o ((be t.kE 2++(be t.Id 8++(be (t.Day+1) 2++(fO t.Code++([t.State]++(be t.bJ.length 2++(t.bJ.flatMap sn++(be t.Uses.length 2++(t.Uses.take k).flatMap uu)))))))).map bc) []]) t.Uses.length ?_ ⟨0,z,by simp,by simp,by simpa using a⟩;rintro Z n vs p ⟨k,o,hn,rfl,g⟩ hZ;obtain⟨⟨R,hx⟩,⟨S,u⟩⟩:=A.mono g.le;have X:=Dd t.Uses k f6;simp +contextual -dsimp;refine B.bF (λhb=>?_) (λhb=>?_)<;>simp at hb
    ·obtain⟨w,hw⟩:=dI hb
     have hk:k<(t.Uses.map fA.cs).length:=by simpa using hb
     simp +contextual -dsimp[u.dF hk,u.elem (get_map hw)];refine s2 h p _ _ w.Want 8 _ g (by omega) (by simp only[length_append,gr,length_cons,length_nil];omega) λz h1 a=>?_;simp +contextual -dsimp;refine s2 h h1 _ _ w.bZ 8 _ a (by omega) (by simp only[length_append,gr,length_cons,length_nil];omega) λo2 p d=>?_;simp +contextual -dsimp;refine s2 h p _ _ w.ek 8 _ d (by omega) (by simp only[length_append,gr,length_cons,length_nil];omega) λI E b=>?_;simp +contextual -dsimp[fH (n:=k) (by omega)];refine hZ (n-1) _ _ (by omega) ⟨k+1,I,by omega,by simp,?_⟩;rw[Ak hw];simp only[uu,append_assoc]at b ⊢;exact b
    ·have m:k=t.Uses.length:=by omega
     subst m;rw[take_length]at g;refine aR (r _ _ ?_);simp only[vX,append_assoc];exact g
def fI.Spec(C:aC)(N:zN):Prop:=∀(t:cW)(x y:a7)(h:a9)(Q:zQ),kP h t x y->t.bJ.length <= 100000000->t.Uses.length <= 100000000->(∀a h',aG h h' [.sl 1 a ((fX t).1.map bc) []]->Q (.bI [a,.int .i64 (fX t).2]) h')->C (N 32) [.agg (t.cs x y)] h Q
theorem sA(s2:kV.Spec C N){h0 h:a9}{out:a7}{D:List UInt8}{n:Int}{k:Nat}{K:zQ}(b:aG h0 h [.sl 1 out (D.map bc) []])(hk:k <= 8)(d:D.length <= 10000000)
  (c:∀out' h',aG h0 h' [.sl 1 out' ((D++be n k).map bc) []]->K out' h'):C (N 58) [.int .i64 n,.int .i64 (k:Int)] h (λv h=>B.bO h 1 1 out v K):=
 vh (λQ a=>s2 n k h Q hk a) b (by simp only[length_append,gr,length_cons,length_nil];omega) c
theorem Oe(b:Bool):be (bif b then 1 else 0) 1=[bif b then 1 else 0]:=by cases b<;>rfl
theorem fI.spec(i:fI.aD C N)(s1:gP.Spec C N)(s2:kV.Spec C N)(M:nE.Spec C N):fI.Spec C N:=by
 intro t x y h Q q I H s;apply i;simp +contextual -dsimp;refine s1 t x y _ _ q I H ?_;simp +contextual -dsimp;refine B.bF (λr=>?_) (λr=>?_)<;>simp at r
 ·rw[show fX t=([],2) by simp[fX,r]]at s
  exact aR (s _ _ ((aG.start h).aA 1))
 ·obtain⟨f1,f2,f3⟩:=zB r
  have hc:=kl t.Code;simp +contextual -dsimp;refine s2 t.kE 2 h _ (by omega) λu h1 a=>?_;simp +contextual -dsimp;refine B.bF (λhe=>?_) (λhe=>?_)<;>simp at he
  ·rw[show fX t=(be t.kE 2,0) by simp[fX,r];omega]at s
   exact aR (s _ _ a)
  ·obtain⟨f4,f5,f6,f7,f8⟩:=f3 (by omega)
   rw[show fX t=(vX t,0) by simp[fX,r];omega]at s;have ed:IntKind.i64.wrap (t.Day+1)=t.Day+1:=wrap_i64 (by omega) (by omega);simp +contextual -dsimp;refine sA s2 (k:=8) a (by omega) (by simp only[length_append,gr,length_cons,length_nil];omega) λo2 L d=>?_;simp +contextual -dsimp[ed];refine sA s2 (k:=2) d (by omega) (by simp only[length_append,gr,length_cons,length_nil];omega) λF K c=>?_;simp +contextual -dsimp;refine vh (M t.Code K) c (by simp only[length_append,gr,length_cons,length_nil];omega) λT h4 m=>?_;simp +contextual -dsimp;refine yy m (by simp only[length_append,gr,length_cons,length_nil];omega) λO P j=>?_;obtain⟨⟨R,hx⟩,⟨S,b⟩⟩:=q.mono j.le;have g:=hx.aE;rw[length_map]at g;simp +contextual -dsimp[g];refine sA s2 (k:=2) j (by omega) (by simp only[length_append,gr,length_cons,length_nil];omega) λE h6 e=>?_;simp only[append_assoc]at e;refine aB.intro (λn vs z=>∃(k:Nat)(o:a7),k+n=t.bJ.length /\ vs=[o,.int .i64 k] /\ aG h z [.sl 1 o ((be t.kE 2++(be t.Id 8++(be (t.Day+1) 2++(fO t.Code++([t.State]++(be t.bJ.length 2++(t.bJ.take k).flatMap sn)))))).map bc) []]) t.bJ.length ?_ ⟨0,E,by simp,by simp,by simpa using e⟩;rintro Y n vs z ⟨k,o,X,rfl,l⟩ hY;obtain⟨⟨R,hx⟩,⟨S,b⟩⟩:=q.mono l.le;have g:=hx.aE;have f:=b.aE;rw[length_map]at g f;have G:=Dm t.bJ k f5;simp +contextual -dsimp[g];refine B.bF (λhb=>?_) (λhb=>?_)<;>simp at hb
   ·obtain⟨w,hw⟩:=dI hb
    have hk:k<(t.bJ.map bZ.cs).length:=by simpa using hb
    have hcw:=kl w.Item;simp +contextual -dsimp[hx.dF hk,hx.elem (get_map hw)];refine sA s2 (k:=8) l (by omega) (by simp only[length_append,gr,length_cons,length_nil];omega) λu h1 a=>?_;simp +contextual -dsimp;refine vh (M w.Item h1) a (by simp only[length_append,gr,length_cons,length_nil];omega) λo2 L d=>?_;simp +contextual -dsimp;refine sA s2 (k:=2) d (by omega) (by simp only[length_append,gr,length_cons,length_nil];omega) λF K c=>?_;simp +contextual -dsimp;refine sA s2 (k:=2) c (by omega) (by simp only[length_append,gr,length_cons,length_nil];omega) λT h4 m=>?_;simp +contextual -dsimp;refine sA s2 (k:=8) m (by omega) (by simp only[length_append,gr,length_cons,length_nil];omega) λO P j=>?_;simp +contextual -dsimp
    have fin:∀v:UInt8,v=(bif w.rH then 1 else 0)->B.bL P (some [.int .u8 (v.toNat:Int)]) λi h=>B.bO h 1 1 O (.sl i 0 0 1 1 1) λA h=>B.pv (V.bin .add (.int .i64 (k:Int)) (.int .i64 1)) λD=>Y [A,D] h:=λv U=>by
     refine yy j (by simp only[length_append,gr,length_cons,length_nil];omega) λE h6 e=>?_;simp +contextual -dsimp[fH (n:=k) (by omega)];refine hY (n-1) _ _ (by omega) ⟨k+1,E,by omega,by simp,?_⟩;rw[Ak hw];simp only[sn,Oe,<-U,append_assoc]at e ⊢;exact e
    refine B.bF (λJ=>?_) (λJ=>?_)
    ·simp +contextual -dsimp
     exact fin 1 (by rw[J];rfl)
    ·simp +contextual -dsimp
     exact fin 0 (by rw[J];rfl)
   ·have p:k=t.bJ.length:=by omega
    subst p;rw[take_length]at l G;simp +contextual -dsimp[f];refine sA s2 (k:=2) l (by omega) (by simp only[length_append,gr,length_cons,length_nil];omega) λu h1 a=>?_;simp only[append_assoc]at a;refine aB.intro (λn vs z=>∃(k:Nat)(o:a7),k+n=t.Uses.length /\ vs=[o,.int .i64 k] /\ aG h z [.sl 1 o ((be t.kE 2++(be t.Id 8++(be (t.Day+1) 2++(fO t.Code++([t.State]++(be t.bJ.length 2++(t.bJ.flatMap sn++(be t.Uses.length 2++(t.Uses.take k).flatMap uu)))))))).map bc) []]) t.Uses.length ?_ ⟨0,u,by simp,by simp,by simpa using a⟩;rintro Z n vs L ⟨k,o,X,rfl,l⟩ hZ;obtain⟨⟨R,hx⟩,⟨S,b⟩⟩:=q.mono l.le;have f:=b.aE;rw[length_map]at f;have W:=Dd t.Uses k f6;simp +contextual -dsimp[f];refine B.bF (λhb=>?_) (λhb=>?_)<;>simp at hb
    ·obtain⟨w,hw⟩:=dI hb
     have hk:k<(t.Uses.map fA.cs).length:=by simpa using hb
     simp +contextual -dsimp[b.dF hk,b.jF hk,b.bX (get_map hw)];refine sA s2 (k:=8) l (by omega) (by simp only[length_append,gr,length_cons,length_nil];omega) λu h1 a=>?_;obtain⟨⟨R,hx⟩,⟨S,b⟩⟩:=q.mono a.le;simp +contextual -dsimp[b.dF hk,b.jF hk,b.bX (get_map hw)];refine sA s2 (k:=8) a (by omega) (by simp only[length_append,gr,length_cons,length_nil];omega) λo2 L d=>?_;obtain⟨⟨R,hx⟩,⟨S,b⟩⟩:=q.mono d.le;simp +contextual -dsimp[b.dF hk,b.jF hk,b.bX (get_map hw)];refine sA s2 (k:=8) d (by omega) (by simp only[length_append,gr,length_cons,length_nil];omega) λF K c=>?_;simp +contextual -dsimp[fH (n:=k) (by omega)];refine hZ (n-1) _ _ (by omega) ⟨k+1,F,by omega,by simp,?_⟩;rw[Ak hw];simp only[uu,append_assoc]at c ⊢;exact c
    ·have p:k=t.Uses.length:=by omega
     subst p;rw[take_length]at l;refine aR (s _ _ ?_);simp only[vX,append_assoc];exact l
variable{C:aC}{N:zN}
def tick(L:List lT)(j:Nat):Int:=((L.countP λw=>decide (w.oe=(j:Int)):Nat):Int)-((L.countP λw=>decide (w.oY=(j:Int)):Nat):Int)
def yZ(L:List lT):Nat->Int|0=>0|d+1=>yZ L d+tick L d
def O7(L:List lT)(out:List lT)(d:Nat):List lT:=if yZ L d=0 /\ 0<yZ L (d+1) then out++[⟨d,0⟩] else if 0<yZ L d /\ yZ L (d+1)=0 then out.dropLast++[⟨(out.getLast?.getD .zero).oe,d⟩] else out
def HJ(L:List lT):Nat->List lT|0=>[]|d+1=>O7 L (HJ L d) d
def rows(L:List lT):List lT:=if L.all lT.right then HJ L 4002 else []
section
variable{T:Type}{less:T->T->Bool}
end
variable{C:aC}{N:zN}
theorem PX{a b:Nat}(h:a+b<4611686018427387904):V.bin .add (.int .i64 (a:Int)) (.int .i64 (b:Int))=some (.int .i64 ((a+b:Nat):Int)):=by
 rw[V.fP,wrap_i64 (by omega) (by omega)];simp
theorem eG{a:Nat}(h:a<4611686018427387904):V.bin .add (.int .i64 (a:Int)) (.int .i64 1)=some (.int .i64 ((a+1:Nat):Int)):=by
 rw[V.fP,wrap_i64 (by omega) (by omega)];simp
theorem vJ{a:Nat}(h:1 <= a)(b:a<4611686018427387904):V.bin .sub (.int .i64 (a:Int)) (.int .i64 1)=some (.int .i64 ((a-1:Nat):Int)):=by
 rw[V.nI,wrap_i64 (by omega) (by omega)];congr 2;omega
theorem gH{a b:Nat}:V.bin .lss (.int .i64 (a:Int)) (.int .i64 (b:Int))=some (.bool (decide (a<b))):=by rw[V.mw];congr 3;exact propext (by omega)
theorem DZ{a b:Nat}:V.bin .leq (.int .i64 (a:Int)) (.int .i64 (b:Int))=some (.bool (decide (a <= b))):=by rw[V.AQ];congr 3;exact propext (by omega)
section
variable{E:fi}{X:Type}{cs:X->List a7}{v:X->a7}{h0 h:a9}{x:a7}{G:List X}{R:List (List a7)}
end
section
variable{E:fi}{T:Type}{cs:T->List a7}{v:T->a7}{c:T->T->Int}{h0 h:a9}{x f:a7}{R:List (List a7)}{Q:zQ}
end
variable{C:aC}{N:zN}
section
variable{E:fi}{X:Type}{cs:X->List a7}{v:X->a7}{h0 h:a9}{x f:a7}{R:List (List a7)}{Q:zQ}
end
variable{C:aC}{N:zN}
section
variable{E:fi}{T:Type}{cs:T->List a7}{v:T->a7}{c:T->T->Int}{h0 h:a9}{x f:a7}{R:List (List a7)}{Q:zQ}
end
variable{C:aC}{N:zN}
section
variable{E:fi}{T:Type}{cs:T->List a7}{v:T->a7}{c:T->T->Int}{h0 h:a9}{x f:a7}{R:List (List a7)}{Q:zQ}
end
variable{C:aC}{N:zN}
section
variable{E:fi}{T:Type}{cs:T->List a7}{v:T->a7}{c:T->T->Int}{h0 h:a9}{x f:a7}{R:List (List a7)}{Q:zQ}
end
variable{C:aC}{N:zN}
section
variable{E:fi}{T:Type}{cs:T->List a7}{v:T->a7}{c:T->T->Int}{h0 h:a9}{x f:a7}{R:List (List a7)}{Q:zQ}
end
variable{C:aC}{N:zN}
section
variable{E:fi}{T:Type}{cs:T->List a7}{v:T->a7}{c:T->T->Int}{h0 h:a9}{x f:a7}{R:List (List a7)}{Q:zQ}
end
variable{C:aC}{N:zN}
section
variable{E:fi}{T:Type}{cs:T->List a7}{v:T->a7}{c:T->T->Int}{h0 h:a9}{x f:a7}{R:List (List a7)}{Q:zQ}
end
section
variable{T:Type}{c:T->T->Int}
end
variable{C:aC}{N:zN}
theorem Da{α:Type}{n:Nat}:∀{css:List (List α)},(∀cs∈css,cs.length=n)->∀k:Nat,(css.take k).flatten=css.flatten.take (k*n)
 | [],_,k=>by simp
 | c::css,a,0=>by simp
 | c::css,a,k+1=>by
  have d:c.length=n:=a c (by simp)
  rw[take_succ_cons,flatten_cons,flatten_cons,Da (λp b=>a p (by simp[b])) k,Nat.add_mul,Nat.one_mul,show k*n+n=c.length+k*n by omega,take_length_add_append]
theorem GI{α:Type}{n:Nat}:∀{css:List (List α)},(∀cs∈css,cs.length=n)->∀k:Nat,(css.drop k).flatten=css.flatten.drop (k*n)
 | [],_,k=>by simp
 | c::css,a,0=>by simp
 | c::css,a,k+1=>by
  have d:c.length=n:=a c (by simp)
  rw[drop_succ_cons,flatten_cons,GI (λp b=>a p (by simp[b])) k,Nat.add_mul,Nat.one_mul,show k*n+n=c.length+k*n by omega,drop_length_add_append]
section
variable{h h0:a9}{es:Nat}{x:a7}{L R:List (List a7)}{l:List Ob}
def Exact(x:a7):Prop:=x= .aA \/ x= .sz \/ ∃id g off len es,x= .sl id g off len es 0
theorem aJ.PU(c:aJ h es x L R){k:Nat}{j1 j2 j3:IntKind}(hk:k <= L.length):
  ∃a,V.nX es x (.int j1 0) (.int j2 (k:Int)) (.int j3 (k:Int))=some a /\ aJ h es a (L.take k) [] /\ (cC a=cC x \/ cC a=none /\ k=0) /\ Exact a /\ (k=0->a= .aA \/ a= .sz):=by
 rcases c.at_ with⟨e,l,d⟩|⟨id,g,off,cp,m,j,k1,f,k2,k3,k4,k5,k6⟩
 ·subst e l
  simp only[length_nil,Nat.le_zero_eq]at hk;subst hk;rcases d with rfl|rfl
  ·exact⟨.aA,rfl,⟨by simp,.inl ⟨rfl,rfl,.inl rfl⟩⟩,.inl rfl,.inl rfl,λ_=> .inl rfl⟩
  ·exact⟨.sz,rfl,⟨by simp,.inl ⟨rfl,rfl,.inr rfl⟩⟩,.inl rfl,.inr (.inl rfl),λ_=> .inr rfl⟩
 ·subst k1
  have h1:(0:Int) <= (k:Int):=by omega
  by_cases b:k=0
  ·subst b
   refine⟨.sz,?_,aJ.sz h es,.inr ⟨rfl,rfl⟩,.inr (.inl rfl),λ_=> .inr rfl⟩;simp only[V.nX,V.asNat,Int.le_refl,if_true,Int.toNat_natCast,show ((0:Nat):Int)=0 from rfl,show (0:Int).toNat=0 from rfl];rw[if_pos ⟨Nat.le_refl _,Nat.le_refl _,by omega,trivial⟩]
  refine⟨.sl id g off k es 0,?_,⟨λp i=>c.len p (mem_append_left _ (mem_of_mem_take (by simpa using i))),.inr ⟨id,g,off,0,m,j,?_,?_,k2,k3,?_,k5,?_⟩⟩,.inl rfl,.inr (.inr ⟨_,_,_,_,_,rfl⟩),λh=>absurd h b⟩
  ·simp only[V.nX,V.asNat,Int.le_refl,if_true,h1,Int.toNat_natCast,show (0:Int).toNat=0 from rfl]
   rw[if_pos ⟨by omega,Nat.le_refl _,by omega,trivial⟩,if_neg b];simp
  ·simp;omega
  ·simp only[length_take,length_nil];omega
  ·have:k*es <= (L.length+R.length)*es:=Nat.mul_le_mul_right _ (by omega)
   simp only[length_take,length_nil,Nat.min_eq_left hk,Nat.add_zero];omega
  ·have:k*es <= (L.length+R.length)*es:=Nat.mul_le_mul_right _ (by omega)
   simp only[length_take,length_nil,Nat.min_eq_left hk,Nat.add_zero,append_nil];have e1:(L.take k).flatten=(L++R).flatten.take (k*es):=by
    rw[<-Da c.len,take_append_of_le_length hk]
   rw[e1,<-k6,take_take,Nat.min_eq_left this]
end
variable{C:aC}{N:zN}
def kL(l:dC):Bool:=decide (0<l.Id)&&eu l.Item&&decide (0<l.ek /\ l.ek <= 1073741824 /\ 0 <= l.tR /\ l.tR <= 4000 /\ 0 <= l.pe /\ l.pe <= 99 /\ (1:Int) <= l.State.toNat /\ (l.State.toNat:Int) <= 3)&&bif decide (l.Day= -1) then decide (l.Code=[])&& !decide ((l.State.toNat:Int)=2) else decide (0 <= l.Day /\ l.Day <= 4000)&&eu l.Code&& !decide ((l.State.toNat:Int)=3)
def qT.Spec(C:aC)(N:zN):Prop:=∀(l:dC)(h:a9)(Q:zQ),Q (.bool (kL l)) h->C (N 179) [.agg l.cs] h Q
theorem qT.spec(i:qT.aD C N)(s1:iA.Spec C N):qT.Spec C N:=by
 intro l h Q a;apply i;have e:∀b,kL l=b->dn Q (.bool b) h:=λb hb=>by rw[<-hb];exact aR a
 simp +contextual -dsimp;refine B.gG (λ_ _ a=>s1 _ _ _ a) ?_;simp +contextual -dsimp;refine B.bF (λh1=>?_) (λh1=>?_)
 ·refine e _ ?_
  simp at h1;unfold kL;cases c:eu l.Item
  ·simp
  ·simp[c]at h1 ⊢;omega
 simp +contextual -dsimp;refine B.bF (λg=>?_) (λg=>?_)
 ·refine e _ ?_
  simp at g;unfold kL;simp;omega
 simp +contextual -dsimp
 have j:∀b,(bif decide (l.Day= -1) then decide (l.Code=[])&& !decide ((l.State.toNat:Int)=2) else decide (0 <= l.Day /\ l.Day <= 4000)&&eu l.Code&& !decide ((l.State.toNat:Int)=3))=b->dn Q (.bool b) h:=λb hb=>by
  refine e _ ?_;rw[<-hb];unfold kL;simp at h1 g;cases c:eu l.Item
  ·simp[c]at h1
  ·simp[c]at h1 ⊢
   intro;omega
 refine B.bF (λf=>?_) (λf=>?_)
 ·simp +contextual -dsimp
  refine j _ ?_;rw[f];simp
 ·have d:decide (l.Day= -1)=false:=f
  simp +contextual -dsimp;refine B.gG (λ_ _ a=>s1 _ _ _ a) ?_;simp +contextual -dsimp;refine j _ ?_;rw[d];simp[Bool.decide_and,Bool.and_assoc]
def qN.Spec(C:aC)(N:zN):Prop:=∀(l:dC)(h:a9)(Q:zQ),Q (.bool (kL l)) h->C (N 180) [.agg l.cs] h Q
theorem qN.spec(i:qN.aD C N)(s1:iX.Spec C N):qN.Spec C N:=by
 intro l h Q c;apply i;have e:∀b,kL l=b->dn Q (.bool b) h:=λb hb=>by rw[<-hb];exact aR c
 simp +contextual -dsimp;refine B.gG (λ_ _ c=>s1 _ _ _ c) ?_;simp +contextual -dsimp;refine B.bF (λh1=>?_) (λh1=>?_)
 ·refine e _ ?_
  simp at h1;unfold kL;cases a:eu l.Item
  ·simp
  ·simp[a]at h1 ⊢;omega
 simp +contextual -dsimp;refine B.gG (λ_ _ c=>s1 _ _ _ c) ?_;simp +contextual -dsimp
 have k:∀b,(decide ((1:Int) <= l.State.toNat /\ (l.State.toNat:Int) <= 3)&&bif decide (l.Day= -1) then decide (l.Code=[])&& !decide ((l.State.toNat:Int)=2) else decide (0 <= l.Day /\ l.Day <= 4000)&&eu l.Code&& !decide ((l.State.toNat:Int)=3))=b->dn Q (.bool b) h:=λb hb=>by
  refine e _ ?_;rw[<-hb];unfold kL;simp at h1;cases a:eu l.Item
  ·simp[a]at h1
  ·simp[a]at h1
   have o:decide (0<l.Id)=true:=by rw[decide_eq_true_eq];omega
   have n:decide (0<l.ek /\ l.ek <= 1073741824 /\ 0 <= l.tR /\ l.tR <= 4000 /\ 0 <= l.pe /\ l.pe <= 99 /\ (1:Int) <= l.State.toNat /\ (l.State.toNat:Int) <= 3)=decide ((1:Int) <= l.State.toNat /\ (l.State.toNat:Int) <= 3):=by
    rw[decide_eq_decide];omega
   rw[o,n];rfl
 have m:l.Code=[]->eu l.Code=false:=λe=>by rw[e];rfl
 refine B.bF (λj=>?_) (λj=>?_)
 ·simp +contextual -dsimp
  refine k _ ?_;simp at j;by_cases d:l.Day= -1<;>by_cases a:l.Code=[]<;>simp[j,d,a,m,Bool.decide_and]
 simp +contextual -dsimp;simp at j;refine B.bF (λg=>?_) (λg=>?_)
 ·simp +contextual -dsimp
  refine k _ ?_;simp at g;by_cases d:l.Day= -1<;>by_cases a:l.Code=[]<;>simp[g,d,a,m,Bool.decide_and]
 simp +contextual -dsimp;simp at g;refine B.bF (λf=>?_) (λf=>?_)
 ·simp +contextual -dsimp
  refine k _ ?_;simp at f;by_cases d:l.Day= -1<;>by_cases a:l.Code=[]<;>simp[f,d,a,m,Bool.decide_and]
 ·simp at f
  refine k _ ?_;have:decide ((1:Int) <= l.State.toNat /\ (l.State.toNat:Int) <= 3)=false:=by rw[decide_eq_false_iff_not];omega
  rw[this];rfl
structure dV where
 ju:Int
 jo:Int
 jl:Int
 cK:List en
 bJ:List bZ
 cE:List dC
 deriving DecidableEq
def rm(most:Nat)(l:List (List UInt8)):Bool:=l.all eu&&(decide l.Nodup&&decide (l.length <= most))
def xE(x:en):Bool:=x.cO.all λp=>decide (1 <= p.ek)&&decide (p.ek <= 1073741824)
def iQ(x:en):Bool:=rm 5 (x.Code::x.dL)&&bif decide (x.cO=[]) then decide (0<x.jY)&&decide (x.jY <= 2000) else xE x&&(decide (x.jY=0)&&rm 8 (yv x))
def jT{T:Type}(lt:T->T->Bool)(x:T):Option T->Bool|some y=>lt y x|none=>true
def hV{T:Type}(ok:T->Bool)(lt:T->T->Bool):Option T->List T->Bool|_,[]=>true|p,x::r=>(ok x&&jT lt x p)&&hV ok lt (some x) r
def w9(l:List en):Bool:=hV iQ (λa b=>iC a.Code b.Code) none l
def yK(l:List bZ):Bool:=hV kN (λa b=>decide (a.Id<b.Id)) none l
def yB(l:List dC):Bool:=hV kL (λa b=>decide (a.Id<b.Id)) none l
def uG(s:dV):Bool:=(((((decide (0 <= s.ju)&&decide (s.ju <= 4000))&&decide (0<s.jo))&&decide (s.jo <= 4611686018427387904))&&decide (0<s.jl))&&decide (s.jl <= 4611686018427387904))
def jz(s:dV):Bool:=uG s&&(w9 s.cK&&(yK s.bJ&&yB s.cE))
def u6(x:en):List UInt8:=be x.jY 2++(dN x.cO.length::((x.cO.flatMap λp=>fO p.Item++be p.ek 4)++(dN x.dL.length::x.dL.flatMap fO)))
def Ba(l:bZ):List UInt8:=fO l.Item++(be l.oe 2++(be l.oY 2++(be l.ek 4++[bif l.rH then 1 else 0])))
def AL(l:dC):List UInt8:=fO l.Item++(be l.ek 4++(be l.tR 2++([dN l.pe,l.State]++(be (l.Day+1) 2++fO l.Code))))
def tE(x:en):Row:=⟨105::x.Code,u6 x⟩
def rk(l:bZ):Row:=⟨108::be l.Id 8,Ba l⟩
def rh(l:dC):Row:=⟨111::be l.Id 8,AL l⟩
def qV(s:dV):List Row:=[⟨[42,100,97,121],be s.ju 2⟩,⟨[42,108,105,110,101],be s.jl 8⟩,⟨[42,108,111,116],be s.jo 8⟩]
def vj(s:dV):List Row:=qV s++(s.cK.map tE++(s.bJ.map rk++s.cE.map rh))
def allRows(s:dV):List Row:=bif jz s then vj s else []
variable{C:aC}{N:zN}
section
variable{E:fi}{T:Type}{cs:T->List a7}{v:T->a7}
end
variable{C:aC}
section
variable{E:fi}{X:Type}{cs:X->List a7}{v:X->a7}{h0 h:a9}{x f:a7}{G:List X}{R:List (List a7)}{c:X->X->Int}
theorem sI{a b:Nat}(h:a+b<4611686018427387904):V.bin .add (.int .i64 (a:Int)) (.int .i64 (b:Int))=some (.int .i64 ((a+b:Nat):Int)):=by
 rw[V.fP,show (a:Int)+(b:Int)=((a+b:Nat):Int) by simp,wrap_i64 (by omega) (by omega)]
theorem DP{a b:Nat}(h:b <= a)(c:a<4611686018427387904):V.bin .sub (.int .i64 (a:Int)) (.int .i64 (b:Int))=some (.int .i64 ((a-b:Nat):Int)):=by
 rw[V.nI,show (a:Int)-(b:Int)=((a-b:Nat):Int) by omega,wrap_i64 (by omega) (by omega)]
end
variable{C:aC}
section
variable{E:fi}{X:Type}{cs:X->List a7}{v:X->a7}{h0 h:a9}{x f:a7}{G:List X}{R:List (List a7)}{c:X->X->Int}{Q:zQ}{Y1:zL}{a b i j:Nat}
end
variable{C:aC}
section
variable{E:fi}{X:Type}{cs:X->List a7}{v:X->a7}{h0 h:a9}{x f:a7}{G:List X}{R:List (List a7)}{c:X->X->Int}{Q:zQ}{a b i j:Nat}
end
variable{C:aC}
section
variable{E:fi}{X:Type}{cs:X->List a7}{v:X->a7}{h0 h:a9}{x f:a7}{G:List X}{R:List (List a7)}{c:X->X->Int}{Q:zQ}{Y1:zL}{a b i j:Nat}
end
section
variable{X:Type}{c:X->X->Int}{a n lo r ch:Nat}{G:List X}
end
variable{C:aC}
section
variable{E:fi}{X:Type}{cs:X->List a7}{v:X->a7}{h0 h:a9}{x f:a7}{G:List X}{R:List (List a7)}{c:X->X->Int}{Q:zQ}{Y1:zL}{a n lo r ch:Nat}
end
section
variable{X:Type}{c:X->X->Int}{a b n lo:Nat}{G G':List X}
end
variable{C:aC}
section
variable{E:fi}{X:Type}{cs:X->List a7}{v:X->a7}{h0 h:a9}{x f:a7}{G:List X}{R:List (List a7)}{c:X->X->Int}{Q:zQ}{a b:Nat}
end
variable{C:aC}
section
variable{X:Type}{c:X->X->Int}{A B j:Nat}{G:List X}
end
section
variable{E:fi}{X:Type}{cs:X->List a7}{v:X->a7}{h0 h:a9}{x f:a7}{G:List X}{R:List (List a7)}{c:X->X->Int}{Q:zQ}{Y1:zL}{a b i s:Nat}
end
variable{C:aC}{N:zN}
structure dE where
 at_:Nat
 bad:Bool
def gL(l:List UInt8):Nat:=l.foldl (λn c=>256*n+c.toNat) 0
theorem zZ(l:List UInt8)(c:UInt8):gL (l++[c])=256*gL l+c.toNat:=by simp[gL]
def aL(b:List UInt8)(k:Nat)(r:dE):Int×dE:=if r.bad=true \/ b.length-r.at_<k then (0,⟨r.at_,true⟩) else (IntKind.i64.wrap (gL ((b.drop r.at_).take k)),⟨r.at_+k,false⟩)
def cT(b:List UInt8)(r:dE):List UInt8×dE:=if r.bad then ([],r) else ((ik (b.drop r.at_)).1,⟨r.at_+(ik (b.drop r.at_)).2.1, !(ik (b.drop r.at_)).2.2⟩)
theorem gV{b:List UInt8}{k:Nat}{r:dE}(h:r.at_ <= b.length):(aL b k r).2.at_ <= b.length:=by
 unfold aL;split
 ·exact h
 ·rename_i a;simp only[not_or]at a;simp only;omega
theorem zY:∀b:List UInt8,(ik b).2.1 <= b.length
 | []=>by simp[ik]
 | c::r=>by rw[ug];split<;>simp;rename_i a;simp only[not_or]at a;omega
theorem wh{b:List UInt8}{r:dE}(h:r.at_ <= b.length):(cT b r).2.at_ <= b.length:=by
 unfold cT;split
 ·exact h
 ·have:=zY (b.drop r.at_);simp at this ⊢;omega
abbrev od(h0 h:a9)(p x:a7)(r:dE):Prop:=aG h0 h [.box p [x,.int .i64 (r.at_:Int),.bool r.bad]]
theorem HL(n c:Int)(a:0 <= c)(e:c<256):V.bin .or (.int .i64 (IntKind.i64.wrap (n*256))) (.int .i64 c)=some (.int .i64 (IntKind.i64.wrap (256*n+c))):=by
 have key:(BitVec.ofInt 64 (IntKind.i64.wrap (n*256)) ||| BitVec.ofInt 64 c)=BitVec.ofInt 64 (256*n+c):=by
  have e1:BitVec.ofInt 64 (IntKind.i64.wrap (n*256))=BitVec.ofInt 64 n <<< 8:=by
   apply BitVec.eq_of_toInt_eq;rw[IntKind.wrap_i64,BitVec.toInt_shiftLeft,BitVec.toInt_ofInt,BitVec.toNat_ofInt];simp only[Int.bmod,Nat.shiftLeft_eq];omega
  have d:BitVec.ofInt 64 (256*n+c)=(BitVec.ofInt 64 n <<< 8)+BitVec.ofInt 64 c:=by
   apply BitVec.eq_of_toInt_eq;rw[BitVec.toInt_add,BitVec.toInt_shiftLeft,BitVec.toInt_ofInt,BitVec.toInt_ofInt,BitVec.toNat_ofInt];simp only[Int.bmod,Nat.shiftLeft_eq];omega
  rw[e1,d]
  symm
  apply BitVec.add_eq_or_of_and_eq_zero;apply BitVec.eq_of_getLsbD_eq;intro i hi;simp only[BitVec.getLsbD_and,BitVec.getLsbD_shiftLeft,BitVec.getLsbD_zero];by_cases b:i<8
  ·simp[b]
  ·have:(BitVec.ofInt 64 c).getLsbD i=false:=by
    rw[BitVec.getLsbD,BitVec.toNat_ofInt];apply Nat.testBit_lt_two_pow;have h1:(c % ((2 ^ 64:Nat):Int)).toNat=c.toNat:=by omega
    rw[h1];have f:2 ^ 8 <= 2 ^ i:=Nat.pow_le_pow_right (by omega) (by omega);omega
   rw[this,Bool.and_false]
 simp only[V.bin,V.arith,if_true];show some (a7.int .i64 (IntKind.i64.wrap ((BitVec.ofInt 64 (IntKind.i64.wrap (n*256)) ||| BitVec.ofInt 64 c).toNat:Int)))=_;rw[key];congr 2;rw[IntKind.wrap_i64,IntKind.wrap_i64,BitVec.toNat_ofInt];omega
theorem H8{k j:IntKind}{a b:Int}(h0:0 <= b)(h1:b<k.bits):V.bin .shl (.int k a) (.int j b)=some (.int k (k.wrap (a*2 ^ b.toNat))):=by
 simp only[V.bin,V.shift];rw[if_neg (by omega),Nat.min_eq_left (by omega)]
theorem wrap_wrap(n c:Int):IntKind.i64.wrap (256*IntKind.i64.wrap n+c)=IntKind.i64.wrap (256*n+c):=by
 simp only[IntKind.wrap_i64];omega
def ig.Spec(C:aC)(N:zN):Prop:=∀(h0 h:a9)(p x:a7)(b:List UInt8)(R:List (List a7))(r:dE)(k:Nat)(Q:zQ),aJ h0 1 x (b.map bc) R->b.length<4611686018427387904->r.at_ <= b.length->k <= 8->od h0 h p x r->(∀h',od h0 h' p x (aL b k r).2->Q (.int .i64 (aL b k r).1) h')->C (N 65) [p,.int .i64 (k:Int)] h Q
theorem ig.spec(i:ig.aD C N):ig.Spec C N:=by
 intro h0 h p x b R r k Q hx hb X hk v q;apply i;obtain⟨id,rfl,A⟩:=v.fE 0 rfl;have t:=hx.mono v.le;have o:=t.aE;rw[length_map]at o;have P:IntKind.i64.wrap ((b.length:Int)-r.at_)=(b.length:Int)-r.at_:=wrap_i64 (by omega) (by omega);simp +contextual -dsimp[e9 A,o,P];refine v.jW 0 rfl rfl (by simp) λh1 g _=>?_;obtain⟨H,e,f⟩:=g.fE 0 rfl;cases e;have s:=hx.mono g.le;simp +contextual -dsimp[e9 f];refine B.bF (λl=>?_) (λl=>?_)
 ·have e1:aL b k r=(0,⟨r.at_,true⟩):=by unfold aL;rw[if_pos];cases d:r.bad<;>simp[d]at l ⊢;omega
  rw[e1]at q;refine aR (q _ ?_);simpa[l]using g
 ·have d:r.bad=false:=by cases d:r.bad<;>simp[d]at l ⊢
  have I:r.at_+k <= b.length:=by simp[d]at l;omega
  have e1:aL b k r=(IntKind.i64.wrap (gL ((b.drop r.at_).take k)),⟨r.at_+k,false⟩):=by unfold aL;rw[if_neg];simp[d];omega
  rw[e1]at q;have G:IntKind.i64.wrap ((r.at_:Int)+k)=((r.at_+k:Nat):Int):=by rw[wrap_i64 (by omega) (by omega)];omega
  obtain⟨z,R',W,e3,_⟩:=s.kY (by omega) (lo:=r.at_) (hi:=r.at_+k) (a:=some (.int .i64 (r.at_:Int))) (b:=some (.int .i64 ((r.at_+k:Nat):Int))) (.inr ⟨_,rfl⟩) (.inr ⟨_,rfl⟩) (by omega) (by omega);have e4:(b.take (r.at_+k)).drop r.at_=(b.drop r.at_).take k:=by rw[drop_take];congr 1;omega
  rw[e4]at e3;have m:=e3.aE;have w:((b.drop r.at_).take k).length=k:=by simp;omega
  rw[length_map,w]at m;simp -dsimp only[ig.k4,B.mZ,V.mW,B.aK,B.fw,e9 f,Nat.zero_add,getElem?_cons_zero,List.set,getElem?_cons_succ,V.fP,G,W,m];refine aB.intro (λn vs D=>∃j:Nat,j+n=k /\ vs=[.int .i64 (IntKind.i64.wrap (gL (((b.drop r.at_).take k).take j))),.int .i64 j] /\ D=h1) k ?_ ⟨0,by simp,by simp[gL];rfl,rfl⟩;rintro Y n vs D ⟨j,Z,rfl,rfl⟩ M;simp +contextual -dsimp;refine B.bF (λF=>?_) (λF=>?_)<;>simp at F
  ·obtain⟨c,E⟩:=dI (L:=(b.drop r.at_).take k) (k:=j) (by omega)
   have J:j<(((b.drop r.at_).take k).map bc).length:=by rw[length_map];omega
   have K:=wA c;have S:IntKind.i64.wrap (c.toNat:Int)=c.toNat:=wrap_i64 (by omega) (by omega);have U:=e3.cell (get_map E);have T:bS.c c= .int .u8 c.toNat:=rfl;simp +contextual -dsimp[e3.dF J,U,T,H8 (k:= .i64) (j:= .u64) (b:=8) (by omega) (by simp[IntKind.bits]),S];rw[HL _ _ (by omega) (by omega)];simp +contextual -dsimp[fH (n:=j) (by omega)];refine M (n-1) _ _ (by omega) ⟨j+1,by omega,?_,rfl⟩;rw[take_succ E,zZ,wrap_wrap];simp
  ·have y:j=k:=by omega
   subst y;rw[take_take,Nat.min_self];simp -dsimp only[ig.k1,B.mZ,V.mW,B.aK,B.fw,e9 f,Nat.zero_add,getElem?_cons_zero,List.set,getElem?_cons_succ,V.fP,G];refine g.jW 0 rfl rfl (by simp) λO u _=>aR (q _ ?_);show aG h0 O [.box _ [x,.int .i64 ((r.at_+j:Nat):Int),.bool false]];simpa[l]using u
def iy.Spec(C:aC)(N:zN):Prop:=∀(h0 h:a9)(p x:a7)(b:List UInt8)(R:List (List a7))(r:dE)(k:Nat)(Q:zQ),aJ h0 1 x (b.map bc) R->b.length<4611686018427387904->r.at_ <= b.length->k <= 8->od h0 h p x r->(∀h',od h0 h' p x (aL b k r).2->Q (.int .i64 (aL b k r).1) h')->C (N 71) [p,.int .i64 (k:Int)] h Q
theorem iy.spec(i:iy.aD C N):iy.Spec C N:=by
 intro h0 h p x b R r k Q hx hb O hk l g;apply i;obtain⟨id,rfl,e⟩:=l.fE 0 rfl;have d:=hx.mono l.le;have f:=d.aE;rw[length_map]at f;have F:IntKind.i64.wrap ((b.length:Int)-r.at_)=(b.length:Int)-r.at_:=wrap_i64 (by omega) (by omega);simp +contextual -dsimp[e9 e,f,F];refine B.bF (λm=>?_) (λm=>?_)
 ·have e1:aL b k r=(0,⟨r.at_,true⟩):=by unfold aL;rw[if_pos];cases a:r.bad<;>simp[a]at m ⊢;omega
  rw[e1]at g;simp +contextual -dsimp;refine l.jW 0 rfl rfl (by simp) λh1 q _=>aR (g _ ?_);simpa using q
 ·have a:r.bad=false:=by cases a:r.bad<;>simp[a]at m ⊢
  have y:r.at_+k <= b.length:=by simp[a]at m;omega
  have e1:aL b k r=(IntKind.i64.wrap (gL ((b.drop r.at_).take k)),⟨r.at_+k,false⟩):=by unfold aL;rw[if_neg];simp[a];omega
  rw[e1]at g;have H:IntKind.i64.wrap ((r.at_:Int)+k)=((r.at_+k:Nat):Int):=by rw[wrap_i64 (by omega) (by omega)];omega
  refine aB.intro (λn vs v=>∃j:Nat,j+n=k /\ vs=[.int .u64 (IntKind.u64.wrap (gL (((b.drop r.at_).take k).take j))),.int .i64 j] /\ v=h) k ?_ ⟨0,by simp,by simp[gL];rfl,rfl⟩;rintro Y n vs v ⟨j,P,rfl,rfl⟩ D;simp +contextual -dsimp;refine B.bF (λu=>?_) (λu=>?_)<;>simp at u
  ·obtain⟨c,w⟩:=dI (L:=b) (k:=r.at_+j) (by omega)
   have t:((b.drop r.at_).take k)[j]?=some c:=by rw[getElem?_take_of_lt u,getElem?_drop];exact w
   have z:r.at_+j<(b.map bc).length:=by rw[length_map];omega
   have A:=wA c;have G:IntKind.u64.wrap (c.toNat:Int)=c.toNat:=by rw[wrap_u64];omega
   have M:=d.cell (get_map w);have K:bS.c c= .int .u8 c.toNat:=rfl;have J:IntKind.i64.wrap ((r.at_:Int)+j)=((r.at_+j:Nat):Int):=by rw[wrap_i64 (by omega) (by omega)];omega
   simp -dsimp only[B.mZ,V.mW,B.aK,B.fw,e9 e,Nat.zero_add,getElem?_cons_zero,getElem?_cons_succ,V.fP,V.yz,V.toInt_int,J,d.dF z,M,K,G,fH (n:=j) (by omega)];refine D (n-1) _ _ (by omega) ⟨j+1,by omega,?_,rfl⟩;rw[take_succ t,zZ];simp only[wrap_u64];congr 2;omega
  ·have s:j=k:=by omega
   subst s;rw[take_take,Nat.min_self];simp -dsimp only[iy.k1,B.mZ,V.mW,B.aK,B.fw,e9 e,Nat.zero_add,getElem?_cons_zero,getElem?_cons_succ,V.fP,H,V.toInt_int];refine l.jW 0 rfl rfl (by simp) λE o _=>aR ?_;have I:IntKind.i64.wrap (IntKind.u64.wrap (gL ((b.drop r.at_).take j)))=IntKind.i64.wrap (gL ((b.drop r.at_).take j)):=by simp only[wrap_u64,IntKind.wrap_i64];omega
   rw[I];exact g _ (by show aG h0 E [.box _ [x,.int .i64 ((r.at_+j:Nat):Int),.bool false]];simpa[a]using o)
def pq.Spec(C:aC)(N:zN):Prop:=∀(h0 h:a9)(p x:a7)(b:List UInt8)(R:List (List a7))(r:dE)(Q:zQ),aJ h0 1 x (b.map bc) R->b.length<4611686018427387904->r.at_ <= b.length->od h0 h p x r->(∀h',od h0 h' p x (cT b r).2->Q (.str (cT b r).1) h')->C (N 66) [p] h Q
theorem pq.spec(i:pq.aD C N)(s1:pO.Spec C N):pq.Spec C N:=by
 intro h0 h p x b R r Q hx hb s j g;apply i;obtain⟨id,rfl,f⟩:=j.fE 0 rfl;have k:=hx.mono j.le;simp +contextual -dsimp[e9 f];refine B.bF (λm=>?_) (λm=>?_)
 ·rw[show cT b r=([],r) by simp[cT,m]]at g
  exact aR (g _ j)
 ·rw[show cT b r=((ik (b.drop r.at_)).1,⟨r.at_+(ik (b.drop r.at_)).2.1, !(ik (b.drop r.at_)).2.2⟩) by simp[cT,m]]at g
  obtain⟨z,R',q,e3,_⟩:=k.kY (by omega) (lo:=r.at_) (hi:=b.length) (a:=some (.int .i64 (r.at_:Int))) (b:=none) (.inr ⟨_,rfl⟩) (.inl ⟨rfl,rfl⟩) (by omega) (by omega);rw[take_length]at e3;have hle:=zY (b.drop r.at_);rw[length_drop]at hle;simp +contextual -dsimp[e9 f,q];refine s1 z _ _ _ _ e3 (by simp;omega) ?_;simp +contextual -dsimp;refine j.jW 0 rfl rfl (by simp) λh1 c _=>?_;obtain⟨n,e,d⟩:=c.fE 0 rfl;cases e;have o:IntKind.i64.wrap ((r.at_:Int)+(ik (b.drop r.at_)).2.1)=((r.at_+(ik (b.drop r.at_)).2.1:Nat):Int):=by rw[wrap_i64 (by omega) (by omega)];omega
  simp -dsimp only[B.mZ,V.mW,B.aK,B.fw,e9 d,Nat.zero_add,getElem?_cons_zero,getElem?_cons_succ,List.set,V.fP,o];exact c.jW 0 rfl rfl (by simp) λt l _=>aR (g _ l)
def nr.Spec(C:aC)(N:zN):Prop:=∀(h0 h:a9)(p x:a7)(b:List UInt8)(R:List (List a7))(r:dE)(Q:zQ),aJ h0 1 x (b.map bc) R->b.length<4611686018427387904->r.at_ <= b.length->od h0 h p x r->(∀h',od h0 h' p x (cT b r).2->Q (.str (cT b r).1) h')->C (N 73) [p] h Q
theorem nr.spec(i:nr.aD C N)(s1:qU.Spec C N):nr.Spec C N:=by
 intro h0 h p x b R r Q hx hb s j g;apply i;obtain⟨id,rfl,f⟩:=j.fE 0 rfl;have k:=hx.mono j.le;simp +contextual -dsimp[e9 f];refine B.bF (λm=>?_) (λm=>?_)
 ·rw[show cT b r=([],r) by simp[cT,m]]at g
  exact aR (g _ j)
 ·rw[show cT b r=((ik (b.drop r.at_)).1,⟨r.at_+(ik (b.drop r.at_)).2.1, !(ik (b.drop r.at_)).2.2⟩) by simp[cT,m]]at g
  obtain⟨z,R',q,e3,_⟩:=k.kY (by omega) (lo:=r.at_) (hi:=b.length) (a:=some (.int .i64 (r.at_:Int))) (b:=none) (.inr ⟨_,rfl⟩) (.inl ⟨rfl,rfl⟩) (by omega) (by omega);rw[take_length]at e3;have hle:=zY (b.drop r.at_);rw[length_drop]at hle;simp +contextual -dsimp[e9 f,q];refine s1 z _ _ _ _ e3 (by simp;omega) ?_;simp +contextual -dsimp;refine j.jW 0 rfl rfl (by simp) λh1 c _=>?_;obtain⟨n,e,d⟩:=c.fE 0 rfl;cases e;have o:IntKind.i64.wrap ((r.at_:Int)+(ik (b.drop r.at_)).2.1)=((r.at_+(ik (b.drop r.at_)).2.1:Nat):Int):=by rw[wrap_i64 (by omega) (by omega)];omega
  simp -dsimp only[B.mZ,V.mW,B.aK,B.fw,e9 d,Nat.zero_add,getElem?_cons_zero,getElem?_cons_succ,List.set,V.fP,o];exact c.jW 0 rfl rfl (by simp) λt l _=>aR (g _ l)
def fR(b:List UInt8)(r:dE):bZ×dE:=
 let a:=aL b 8 r
 let c:=cT b a.2
 let f:=aL b 2 c.2
 let u:=aL b 2 f.2
 let q:=aL b 8 u.2
 let e:=aL b 1 q.2
 (⟨a.1,c.1,f.1,u.1,q.1,decide (e.1=1)⟩,⟨e.2.at_,e.2.bad||decide (1<e.1)⟩)
theorem AG{b:List UInt8}{r:dE}(h:r.at_ <= b.length):(fR b r).2.at_ <= b.length:=gV (gV (gV (gV (wh (gV h)))))
def il(b:List UInt8)(r:dE):fA×dE:=
 let a:=aL b 8 r
 let c:=aL b 8 a.2
 let f:=aL b 8 c.2
 (⟨a.1,c.1,f.1⟩,f.2)
theorem Ht{b:List UInt8}{r:dE}(h:r.at_ <= b.length):(il b r).2.at_ <= b.length:=gV (gV (gV h))
def qh.Spec(C:aC)(N:zN):Prop:=∀(h0 h:a9)(p x:a7)(b:List UInt8)(R:List (List a7))(r:dE)(Q:zQ),aJ h0 1 x (b.map bc) R->b.length<4611686018427387904->r.at_ <= b.length->od h0 h p x r->(∀h',od h0 h' p x (fR b r).2->Q (.agg (fR b r).1.cs) h')->C (N 67) [p] h Q
theorem qh.spec(i:qh.aD C N)(s1:ig.Spec C N)(s2:pq.Spec C N):qh.Spec C N:=by
 intro h0 h p x b R r Q hx hb m o n;apply i;simp +contextual -dsimp;refine s1 h0 h p x b R r 8 _ hx hb m (by omega) o λh1 j=>?_;have l1:=gV (k:=8) m;refine s2 h0 h1 p x b R _ _ hx hb l1 j λu g=>?_;have l2:=wh l1;simp +contextual -dsimp;refine s1 h0 u p x b R _ 2 _ hx hb l2 (by omega) g λt f=>?_;have l3:=gV (k:=2) l2;refine s1 h0 t p x b R _ 2 _ hx hb l3 (by omega) f λs e=>?_;have l4:=gV (k:=2) l3;simp +contextual -dsimp;refine s1 h0 s p x b R _ 8 _ hx hb l4 (by omega) e λq d=>?_;have l5:=gV (k:=8) l4;simp +contextual -dsimp;refine s1 h0 q p x b R _ 1 _ hx hb l5 (by omega) d λw a=>?_;obtain⟨id,rfl,l⟩:=a.fE 0 rfl;simp +contextual -dsimp[e9 l];refine a.jW 0 rfl rfl (by simp) λv c _=>?_;simp +contextual -dsimp;exact aR (n _ c)
def pK.Spec(C:aC)(N:zN):Prop:=∀(h0 h:a9)(p x:a7)(b:List UInt8)(R:List (List a7))(r:dE)(Q:zQ),aJ h0 1 x (b.map bc) R->b.length<4611686018427387904->r.at_ <= b.length->od h0 h p x r->(∀h',od h0 h' p x (fR b r).2->Q (.agg (fR b r).1.cs) h')->C (N 72) [p] h Q
theorem pK.spec(i:pK.aD C N)(s1:iy.Spec C N)(s2:nr.Spec C N):pK.Spec C N:=by
 intro h0 h p x b R r Q hx hb m o n;apply i;simp +contextual -dsimp;refine s1 h0 h p x b R r 8 _ hx hb m (by omega) o λh1 j=>?_;have l1:=gV (k:=8) m;simp +contextual -dsimp;refine s2 h0 h1 p x b R _ _ hx hb l1 j λu g=>?_;have l2:=wh l1;simp +contextual -dsimp;refine s1 h0 u p x b R _ 2 _ hx hb l2 (by omega) g λt f=>?_;have l3:=gV (k:=2) l2;simp +contextual -dsimp;refine s1 h0 t p x b R _ 2 _ hx hb l3 (by omega) f λs e=>?_;have l4:=gV (k:=2) l3;simp +contextual -dsimp;refine s1 h0 s p x b R _ 8 _ hx hb l4 (by omega) e λq d=>?_;have l5:=gV (k:=8) l4;simp +contextual -dsimp;refine s1 h0 q p x b R _ 1 _ hx hb l5 (by omega) d λw a=>?_;obtain⟨id,rfl,l⟩:=a.fE 0 rfl;simp +contextual -dsimp[e9 l];refine a.jW 0 rfl rfl (by simp) λv c _=>?_;simp +contextual -dsimp;exact aR (n _ c)
def qg.Spec(C:aC)(N:zN):Prop:=∀(h0 h:a9)(p x:a7)(b:List UInt8)(R:List (List a7))(r:dE)(Q:zQ),aJ h0 1 x (b.map bc) R->b.length<4611686018427387904->r.at_ <= b.length->od h0 h p x r->(∀h',od h0 h' p x (il b r).2->Q (.agg (il b r).1.cs) h')->C (N 69) [p] h Q
theorem qg.spec(i:qg.aD C N)(s1:ig.Spec C N):qg.Spec C N:=by
 intro h0 h p x b R r Q hx hb e g f;apply i;simp +contextual -dsimp;refine s1 h0 h p x b R r 8 _ hx hb e (by omega) g λh1 d=>?_;have l1:=gV (k:=8) e;refine s1 h0 h1 p x b R _ 8 _ hx hb l1 (by omega) d λj c=>?_;have l2:=gV (k:=8) l1;refine s1 h0 j p x b R _ 8 _ hx hb l2 (by omega) c λl a=>?_;simp +contextual -dsimp;exact aR (f _ a)
variable{C:aC}{N:zN}
section
variable{E:fi}{X:Type}{cs:X->List a7}{v:X->a7}{h0 h:a9}{x f:a7}{G:List X}{R:List (List a7)}{Q:zQ}{a b:Nat}
end
variable{C:aC}
section
variable{X:Type}{c:X->X->Int}{a b m A0 Z0:Nat}{G G':List X}
end
abbrev I5(F:a7->a7->a7->a7->a7->a9->(zQ)->Prop)(C:aC)(n:Nat):Prop:=∀(v0 v1 v2 a v4:a7)(h:a9)(Q:zQ),F v0 v1 v2 a v4 h (dn Q)->C n [v0,v1,v2,a,v4] h Q
abbrev I4(F:a7->a7->a7->a7->a9->(zQ)->Prop)(C:aC)(n:Nat):Prop:=∀(v0 v1 v2 a:a7)(h:a9)(Q:zQ),F v0 v1 v2 a h (dn Q)->C n [v0,v1,v2,a] h Q
section
variable{E:fi}{X:Type}{cs:X->List a7}{v:X->a7}{h0 h:a9}{x f:a7}{G:List X}{R:List (List a7)}{c:X->X->Int}{Q:zQ}{Y:zL}{f1 f2 f3 f4 f5 f6 f7 f8 f9 g1 g2 g3 g4 g5 g6:Nat}
end
end Go.Ab
namespace Go.Ab.Ord
open List
open Go.Ab
variable{C C0:aC}{fL:Nat}
variable{C C0:aC}{fL:Nat}{N:zN}
section
variable{E:fi}{X:Type}{cs:X->List a7}{v:X->a7}{h0 h:a9}{x:a7}{G:List X}{R:List (List a7)}
end
section
variable{E:fi}{T:Type}{cs:T->List a7}{v:T->a7}{c:T->T->Int}{h0 h:a9}{x f:a7}{R:List (List a7)}{Q:zQ}
end
section
variable{E:fi}{X:Type}{cs:X->List a7}{v:X->a7}{h0 h:a9}{x f:a7}{G:List X}{R:List (List a7)}{c:X->X->Int}
end
section
variable{E:fi}{X:Type}{cs:X->List a7}{v:X->a7}{h0 h:a9}{x f:a7}{G:List X}{R:List (List a7)}{c:X->X->Int}{Q:zQ}{Y1:zL}{a b i j:Nat}
end
section
variable{E:fi}{X:Type}{cs:X->List a7}{v:X->a7}{h0 h:a9}{x f:a7}{G:List X}{R:List (List a7)}{c:X->X->Int}{Q:zQ}{a b i j:Nat}
end
section
variable{E:fi}{X:Type}{cs:X->List a7}{v:X->a7}{h0 h:a9}{x f:a7}{G:List X}{R:List (List a7)}{c:X->X->Int}{Q:zQ}{Y1:zL}{a b i j:Nat}
end
section
variable{X:Type}{c:X->X->Int}{a n lo r ch:Nat}{G:List X}
end
section
variable{E:fi}{X:Type}{cs:X->List a7}{v:X->a7}{h0 h:a9}{x f:a7}{G:List X}{R:List (List a7)}{c:X->X->Int}{Q:zQ}{Y1:zL}{a n lo r ch:Nat}
end
section
variable{X:Type}{c:X->X->Int}{a b n lo:Nat}{G G':List X}
end
section
variable{E:fi}{X:Type}{cs:X->List a7}{v:X->a7}{h0 h:a9}{x f:a7}{G:List X}{R:List (List a7)}{c:X->X->Int}{Q:zQ}{a b:Nat}
end
section
variable{X:Type}{c:X->X->Int}{A B j:Nat}{G:List X}
end
section
variable{E:fi}{X:Type}{cs:X->List a7}{v:X->a7}{h0 h:a9}{x f:a7}{G:List X}{R:List (List a7)}{c:X->X->Int}{Q:zQ}{Y1:zL}{a b i s:Nat}
end
variable{C C0:aC}{fL:Nat}{N:zN}
section
variable{E:fi}{X:Type}{cs:X->List a7}{v:X->a7}{h0 h:a9}{x f:a7}{G:List X}{R:List (List a7)}{Q:zQ}{a b:Nat}
end
section
variable{X:Type}{c:X->X->Int}{a b m A0 Z0:Nat}{G G':List X}
end
section
variable{E:fi}{X:Type}{cs:X->List a7}{v:X->a7}{h0 h:a9}{x f:a7}{G:List X}{R:List (List a7)}{c:X->X->Int}{Q:zQ}{Y:zL}{f1 f2 f3 f4 f5 f6 f7 f8 f9 g1 g2 g3 g4 g5 g6:Nat}
end
end Go.Ab.Ord
namespace Go.Ab
open List
def Ix(C:aC):aC:=λf args h Q=>C f args.dropLast h Q
abbrev J4(F:a7->a7->a7->a7->a9->(zQ)->Prop)(C:aC)(n:Nat):Prop:=∀(v0 v1 v2 a:a7)(h:a9)(Q:zQ),F v0 v1 v2 a h (dn Q)->C n [v0,v1,v2,a] h Q
abbrev J3(F:a7->a7->a7->a9->(zQ)->Prop)(C:aC)(n:Nat):Prop:=∀(v0 v1 v2:a7)(h:a9)(Q:zQ),F v0 v1 v2 h (dn Q)->C n [v0,v1,v2] h Q
theorem e4{F:a7->a7->a7->a7->a7->a9->(zQ)->Prop}{G:a7->a7->a7->a7->a9->(zQ)->Prop}{C:aC}{f:Nat}(i:J4 G C f)(e:∀v0 v1 v2 a v4 h Q,F v0 v1 v2 a v4 h Q=G v0 v1 v2 a h Q):I5 F (Ix C) f:=
 λv0 v1 v2 a v4 h Q x=>i v0 v1 v2 a h Q (by rw[<-e v0 v1 v2 a v4];exact x)
theorem e3{F:a7->a7->a7->a7->a9->(zQ)->Prop}{G:a7->a7->a7->a9->(zQ)->Prop}{C:aC}{f:Nat}(i:J3 G C f)(e:∀v0 v1 v2 a h Q,F v0 v1 v2 a h Q=G v0 v1 v2 h Q):I4 F (Ix C) f:=
 λv0 v1 v2 a h Q x=>i v0 v1 v2 h Q (by rw[<-e v0 v1 v2 a];exact x)
section
variable{C:aC}{E:fi}{fL e p q s r v b k n ad md o2 sd nx pw:Nat}
end
variable{C:aC}
def Iter(C:aC)(g:Nat)(first gX:List a7)(D:a9->Prop)(xs:List (List a7)):Prop:=∀(id:Nat)(I:Nat->a9->Prop)(Z:a9->Prop)(h:a9)(Q:zQ),(∀k h,I k h->D h)->(∀k x h,xs[k]?=some x->I k h->C sy (vO id::x) h λv h'=>(v= .bool true /\ I (k+1) h') \/ (v= .bool false /\ Z h'))->I 0 h->(∀h,I xs.length h->Q (.bI []) h)->(∀h,Z h->Q (.bI []) h)->C g (first++[.qb id]++gX) h Q
theorem Ms{g:Nat}{first gX:List a7}{D:a9->Prop}{xs:List (List a7)}{W:List a7->a9->(Nat->a9->Prop)->Prop}{h:a9}{K:Nat->a9->Prop}(hi:Iter C g first gX D xs)(o:∀h h',h.le h'->D h->D h')
  (J X:Nat->a9->Prop) (n:∀k h,J k h->D h) (round:∀k x h E,xs[k]?=some x->J k h->(∀h',J (k+1) h'->E 0 h')->(∀j h',X j h'->E (j+1) h')->W x h E)
  (h0:J 0 h) (b:∀h,J xs.length h->K 0 h) (m:∀j h,X j h->K (j+1) h):x5 C (.fn g first gX) W h K:=by
 intro mk _ id f hround;refine hi id (λk i=>∃h1:a9,h1 id=none /\ i=bQ h1 id (mk 0) /\ J k h1) (λi=>∃(j:Nat)(h1:a9),h1 id=none /\ i=bQ h1 id (mk (j+1)) /\ X j h1) _ _ ?_ ?_ ⟨h,f,rfl,h0⟩ ?_ ?_
 ·rintro k _ ⟨h1,e,rfl,a⟩
  exact o _ _ (hU _ e) (n k h1 a)
 ·rintro k x _ hx ⟨h1,e,rfl,a⟩
  exact hround x h1 _ e (round k x h1 _ hx a (λh' d=>⟨h',a9.le_refl h',λl=> .inl ⟨rfl,h',l,rfl,d⟩⟩) λj h' c=>⟨h',a9.le_refl h',λl=> .inr ⟨rfl,j,h',l,rfl,c⟩⟩)
 ·rintro _ ⟨h1,e,rfl,a⟩
  exact⟨0,h1,e,a9.le_refl _,b h1 a⟩
 ·rintro _ ⟨j,h1,e,rfl,hx⟩
  exact⟨j+1,h1,e,a9.le_refl _,m j h1 hx⟩
theorem RK.here{k:Nat}{p:a9->Prop}{r:List (Nat×(a9->Prop))}{h:a9}(x:p h):RK ((k,p)::r) k h:= .inl ⟨rfl,x⟩
theorem B.N5{id:Nat}{args:List a7}{h:a9}{K:zQ}:B.ks h C (.qb id) args K=C sy (vO id::args) h K:=rfl
def disown(h:a9)(ids:List Nat):a9:=⟨λi=>bif dK ids i then (h i).map λb=>{ b with own:=false } else h i,by
 obtain⟨N,k⟩:=h.2
 refine⟨N,λi hi=>?_⟩
 have e:h i=none:=k i hi
 show (bif dK ids i then (h i).map _ else h i)=none
 rw[e];cases dK ids i<;>rfl⟩
theorem xa{h:a9}{ids:List Nat}{i:Nat}(hi:dK ids i=false):disown h ids i=h i:=by
 show (bif dK ids i then _ else h i)=h i;rw[hi];rfl
theorem Al{h:a9}{ids:List Nat}{i:Nat}(hi:dK ids i=true):disown h ids i=(h i).map λb=>{ b with own:=false }:=by
 show (bif dK ids i then _ else h i)=_;rw[hi];rfl
theorem xb{h:a9}{ids:List Nat}{i:Nat}{b:fB}(hb:disown h ids i=some b):∃c,h i=some c /\ b.cells=c.cells /\ b.eE=c.eE /\ b.next=c.next /\ b.obj=c.obj /\ (b.own=true->c.own=true):=by
 cases hm:dK ids i with
 | false=>rw[xa hm]at hb;exact⟨b,hb,rfl,rfl,rfl,rfl,id⟩
 | true=>
  rw[Al hm]at hb;cases a:h i with
  | none=>rw[a]at hb;cases hb
  | some c=>rw[a]at hb;cases hb;exact⟨c,rfl,rfl,rfl,rfl,rfl,λh=>by cases h⟩
theorem R.disown{w0:World}{ρ:bP}{H:a9}{w:World}(h:R w0 ρ H w)(ids:List Nat):R w0 ρ (Ab.disown H ids) w where
 below:=h.below
 fin:=by
  obtain⟨N,k⟩:=h.fin;refine⟨N,λi hi=>⟨?_,(k i hi).2⟩⟩;cases e:Ab.disown H ids i with
  | none=>rfl
  | some b=>obtain⟨c,n,_⟩:=xb e;rw[(k i hi).1]at n;cases n
 bT:=λid b hb=>by
  obtain⟨c,n,e1,m,e3,e4,u⟩:=xb hb;have k:=h.bT id c n;refine⟨by rw[e3];exact k.qc,λg hi hm=>?_,λg hi g' dZ hm q=>k.align g hi g' dZ (by rw[<-m];exact hm) (by rw[<-m];exact q),λo a=>by rw[m];exact k.obj o (by rw[<-e4];exact a)⟩;obtain⟨F,L,arr,e,fr,E,D,C,B,A,z⟩:=k.gen g hi (by rw[<-m];exact hm);exact⟨by rw[e1];exact F,L,arr,e,fr,E,D,C,B,λa=>A (u a),by rw[e1];exact z⟩
 sep:=λi j bi bj d hi r a gi t gj s=>by
  obtain⟨ci,l,_,m,_,_,u⟩:=xb hi;obtain⟨y,f,_,x,_,_,_⟩:=xb r;exact h.sep i j ci y d l f (u a) gi (by rw[<-m];exact t) gj (by rw[<-x];exact s)
 nT:=λi j bi bj d hi r a p=>by
  obtain⟨ci,l,_,_,_,e4,_⟩:=xb hi;obtain⟨y,f,_,_,_,v,_⟩:=xb r;exact h.nT i j ci y d l f (by rw[<-e4];exact a) (by rw[<-v];exact p)
def B6(C:aC):Prop:=∀f args (h:a9) (ids:List Nat) (K:zQ),(∀i,dK ids i=true->∃b,h i=some b)->C f args (disown h ids) K->C f args h K
theorem P5(P:Program):B6 (AC P):=by
 intro f args h ids K hk x w0 ρ H w va h1 j g;have hle:(disown h ids).le (disown H ids):=λi b hb=>by
  cases hm:dK ids i with
  | false=>rw[xa hm]at hb ⊢;exact h1 i b hb
  | true=>
   rw[Al hm]at hb ⊢;cases d:h i with
   | none=>rw[d]at hb;cases hb
   | some c=>rw[d]at hb;rw[h1 i c d];exact hb
 refine(x w0 ρ _ w va hle (j.disown ids) g).mono λe w' ⟨v,e1,k⟩=>⟨v,e1,?_⟩;obtain⟨a,ρ',h',H',k1,k2,k3,k4,k5,k6⟩:=k.ex;refine⟨⟨a,ρ',h',H',k1,k2,k3,k4,λi hi b hb=>?_,k6⟩⟩;have hm:dK ids i=false:=by
  cases hm:dK ids i with
  | false=>rfl
  | true=>obtain⟨c,d⟩:=hk i hm;rw[hi]at d;cases d
 exact k5 i (by rw[xa hm];exact hi) b (by rw[xa hm];exact hb)
theorem aJ.disown{h:a9}{es:Nat}{x:a7}{L R:List (List a7)}(a:aJ h es x L R)(ids:List Nat):aJ (Ab.disown h ids) es x L R:=by
 refine⟨a.len,?_⟩;rcases a.at_ with e|⟨id,g,off,cp,b,hi,h1,fl,c,j,d,f,i⟩
 ·exact .inl e
 ·refine .inr ⟨id,g,off,cp,(bif dK ids id then { b with own:=false } else b),hi,h1,fl,?_,?_,d,?_,?_⟩
  ·cases hm:dK ids id with
   | false=>rw[xa hm];exact c
   | true=>rw[Al hm,c];rfl
  all_goals cases dK ids id<;>assumption
theorem aJ.Qm{h:a9}{es bytes:Nat}{x y:a7}{L R M R':List (List a7)}{K:zQ}(u:aJ h es x L R)(he:Exact x)(l:L=[]->x= .aA \/ x= .sz)(o:∀id b,cC x=some id->h id=some b->b.own=false)(m:aJ h es y M R')(i:0<es)(G:M≠[])(hb:(L.length+M.length)*bytes <= 140737488355328)(hm:L.length+M.length <= maxLen)
  (hk:∀t h',aG h h' [.sl es t (L++M) []]->K t h'):A.bO h es bytes x y K:=by
 unfold A.bO;rw[m.jR];simp only;rw[m.rdv];have j:∀p∈M,p.length=es:=λp a=>m.len p (mem_append_left _ a);have v:=ve j;have w:M.flatten.length / es=M.length:=by rw[v,Nat.mul_div_cancel _ i]
 have k:0<M.length:=length_pos_iff.2 G;have q:M.flatten.length≠0:=by
  rw[v];have:=Nat.mul_pos k i;omega
 have c:∀p∈(L++M)++[],p.length=es:=λp a=>by
  rw[append_nil]at a;rcases mem_append.1 a with a|a
  ·exact u.len p (mem_append_left _ a)
  ·exact j p a
 have h0:=u.cut;rcases h0.at_ with⟨e,_,I⟩|⟨id,g,off,cp,b,hi,h1,fl,D,H,C,F,B⟩
 ·subst e
  simp only[length_nil,Nat.zero_add]at hb hm
  rcases I with rfl|rfl<;>simp only[A.app,q,if_false,w]<;>exact⟨hb,hm,λid d=>hk _ _ (by
   have:=(aG.start h).gU (es:=es) (L:=M) (R:=[]) (cp:=M.length) (n:=M.length) d (by simpa using c) rfl (by simp) (cs:=M.flatten) (by simp);simpa using this)⟩
 ·have f:=o id b (by rw[h1];rfl) D
  subst h1;have r:cp=0:=by
   rcases he with e|e|⟨_,_,_,_,_,e⟩<;>cases e;rfl
  simp only[length_nil,Nat.add_zero,append_nil]at C B;by_cases z:L=[]
  ·rcases l z with e|e<;>cases e
  ·have s:0<L.length:=length_pos_iff.2 z
   simp only[A.app,D,H,w,f,cond_false];refine⟨⟨trivial,r,s,k,C,F,hb,hm⟩,λE d=>hk _ _ ?_⟩;rw[B];have:=(aG.start h).gU (es:=es) (L:=L++M) (R:=[]) (cp:=L.length+M.length) (n:=L.length+M.length) d c (by simp) (by simp) (cs:=L.flatten++M.flatten) (by simp);simpa using this
variable{C:aC}{N:zN}
theorem aG.PS{h0 h:a9}{es:Nat}{x:a7}{L R:List (List a7)}(c:aG h0 h [.sl es x L R])(d:0<es){k:Nat}(hk:k <= L.length):∃y,V.dS es x none (some (.int .i64 (k:Int)))=some y /\ aG h0 h [.sl es y (L.take k) (L.drop k++R)]:=by
 obtain⟨y,h1,f,e⟩:=(c.aP 0 rfl).slice d (a:=none) (b:=some (.int .i64 (k:Int))) (lo:=0) (hi:=k) (.inl ⟨rfl,rfl⟩) (.inr ⟨_,rfl⟩) (by omega) (by omega);rw[drop_zero,take_append_of_le_length hk,drop_append_of_le_length hk]at f;refine⟨y,h1,?_⟩;have:=c.jB (h':=h) 0 rfl (o':= .sl es y (L.take k) (L.drop k++R)) f (λid b g hb=>c.lg 0 rfl id b (by rw[show Ob.cC (.sl es x L R)=cC x from rfl,<-e];exact g) hb) (λ_ _ h _=>h) (.inl (by rw[show Ob.cC (.sl es y _ _)=cC y from rfl,e];rfl));simpa using this
variable{C:aC}{N:zN}
section
variable{α:Type}[DecidableEq α]
end
variable{C:aC}{N:zN}
theorem V.Ot(a b:List UInt8):V.bin .lss (.str a) (.str b)=some (.bool (iC a b)):=rfl
theorem GS:∀(n:Nat)(v:a7),bG n [v]=List.replicate n v|0,_=>rfl|n+1,v=>(congrArg (v:: ·) (GS n v)).trans rfl
theorem Cz{α:Type}{L:List (List α)}{k:Nat}(hk:k<L.length):((L.take (k+1)).flatten).length=(L.take k).flatten.length+L[k].length:=by
 rw[take_add_one,getElem?_eq_getElem hk];simp only[Option.toList_some,flatten_append,length_append,flatten_singleton]
theorem CQ{α:Type}(L:List (List α))(k:Nat):((L.take k).flatten).length <= L.flatten.length:=by
 conv=>rhs;rw[<-take_append_drop k L]
 simp only[flatten_append,length_append];omega
variable{C:aC}{N:zN}
def iY.Spec(C:aC)(N:zN):Prop:=∀(n:Int)(k:Nat)(h:a9)(Q:zQ),k <= 8->(∀a h',aG h h' [.sl 1 a ((be n k).map bc) []]->Q a h')->C (N 423) [.int .i64 n,.int .i64 (k:Int)] h Q
theorem iY.spec(i:iY.aD C N):iY.Spec C N:=by
 intro n k h Q hk D;apply i;simp -dsimp only[iY.aY];refine⟨by omega,?_⟩;refine(aG.start h).eO (bytes:=1) (es:=1) rfl (by omega) (by omega) (by omega) (by omega) λx h1 p=>?_;simp only[Int.toNat_natCast,Nat.sub_self,CM]at p;have q:=p.aP 0 rfl;have r:V.aE x=some (.int .i64 (k:Int)):=by simpa using q.aE
 simp -dsimp only[r,B.aK];refine aB.intro (λt vs w=>∃(j:Nat)(pre:List UInt8)(z:List (List a7)),j+t=k /\ vs=[.int .i64 (j:Int)] /\ pre.length=j /\ z.length=t /\ pre++be n t=be n k /\ aG h w [.sl 1 x (pre.map bc++z) []]) k ?_ ⟨0,[],_,by omega,rfl,rfl,by simp,rfl,p⟩;rintro Y t vs w ⟨j,pre,z,I,rfl,f,d,g,o⟩ F;simp -dsimp only[iY.l2,iY.k1,gH,B.aK];refine B.bF (λhb=>?_) (λhb=>?_)
 ·rw[decide_eq_true_eq]at hb
  obtain⟨t,rfl⟩:∃u,t=u+1:=⟨t-1,by omega⟩;have e1:V.bin .sub (.int .i64 (k:Int)) (.int .i64 1)=some (.int .i64 ((k-1:Nat):Int)):=DP (b:=1) (by omega) (by omega);have H:V.bin .sub (.int .i64 ((k-1:Nat):Int)) (.int .i64 (j:Int))=some (.int .i64 (t:Int)):=by
   rw[DP (by omega) (by omega)];congr 3;omega
  have e3:V.bin .mul (.int .i64 8) (.int .i64 (t:Int))=some (.int .i64 (8*(t:Int))):=by rw[V.yz,wrap_i64 (by omega) (by omega)]
  have e4:V.bin .shr (.int .i64 n) (.int .i64 (8*(t:Int)))=some (.int .i64 (n.fdiv (2 ^ (8*t)))):=by
   rw[wz (by omega) (by simp[IntKind.bits];omega)];congr 4
  have G:V.toInt .u8 (.int .i64 (n.fdiv (2 ^ (8*t))))=some (.int .u8 ((dN (n.fdiv (2 ^ (8*t)))).toNat:Int)):=by
   simp -dsimp[mz]
  obtain⟨c,a,rfl⟩:∃c a,z=c::a:=by
   cases z with
   | nil=>simp at d
   | cons c a=>exact⟨c,a,rfl⟩
  have l:=o.aP 0 rfl;have s:j<(pre.map bc++c::a).length:=by simp;omega
  have m:V.aM 1 x (.int .i64 (j:Int))=some (aV 1 x j 0):=l.dF s;have E:(pre.map bc++c::a)[j]?=some c:=by
   rw[getElem?_append_right (by simp;omega)];simp[f]
  have v:c.length=1:=l.len c (by simp);obtain⟨u,rfl⟩:=length_eq_one_iff.1 v;simp -dsimp only[e1,H,e3,e4,G,m,B.aK];refine o.st 0 rfl E (by omega) rfl λJ y _=>?_;simp -dsimp only[eG (show j<4611686018427387904 by omega),B.aK];refine F t _ _ (by omega) ⟨j+1,pre++[dN (n.fdiv (2 ^ (8*t)))],a,by omega,rfl,by simp[f],by simpa using d,?_,?_⟩
  ·rw[<-g,be,append_assoc];rfl
  ·have e:(pre.map bc++[u]::a).set j (([u]:List a7).set 0 (.int .u8 ((dN (n.fdiv (2 ^ (8*t)))).toNat:Int)))=(pre++[dN (n.fdiv (2 ^ (8*t)))]).map bc++a:=by
    rw[set_append_right _ _ (by simp;omega)];simp[f];rfl
   rw[<-e];exact y
 ·rw[decide_eq_false_iff_not]at hb
  have:t=0:=by omega
  subst this;rw[be,append_nil]at g;have A:z=[]:=length_eq_zero_iff.1 d;subst A g;rw[append_nil]at o;exact aR (D _ _ o)
variable{C:aC}{N:zN}
def cP{T:Type}(one:dE->T×dE):Nat->dE->List T×dE|0,r=>([],r)|n+1,r=>if r.bad then ([],r) else ((one r).1::(cP one n (one r).2).1,(cP one n (one r).2).2)
theorem Di{T:Type}{one:dE->T×dE}{m:Nat}(h1:∀r:dE,r.at_ <= m->(one r).2.at_ <= m):∀(n:Nat)(r:dE),r.at_ <= m->(cP one n r).2.at_ <= m
 | 0,_,h=>h
 | n+1,r,h=>by
  rw[cP];split
  ·exact h
  ·exact Di h1 n _ (h1 r h)
theorem tu{T:Type}(one:dE->T×dE):∀(n:Nat)(r:dE),(cP one n r).1.length <= n
 | 0,_=>by simp[cP]
 | n+1,r=>by
  rw[cP];split
  ·simp
  ·have:=tu one n (one r).2;simp;omega
theorem A8:∀(n:Nat)(l:List UInt8),l.length=n->gL l<256 ^ n
 | 0,l,h=>by rw[length_eq_zero_iff.1 h];simp[gL]
 | n+1,l,h=>by
  have b:l≠[]:=λe=>by rw[e]at h;cases h
  obtain⟨a,c,rfl⟩:∃a c,l=a++[c]:=⟨l.dropLast,l.getLast b,(dropLast_concat_getLast b).symm⟩
  rw[zZ]
  have h1:=A8 n a (by simp at h;exact h)
  have d:=wA c
  rw[Nat.pow_succ]
  omega
theorem rJ(b:List UInt8)(r:dE):0 <= (aL b 2 r).1 /\ (aL b 2 r).1 <= 65535:=by
 unfold aL;split
 ·simp
 ·rename_i h
  simp only[not_or]at h;have:=A8 2 ((b.drop r.at_).take 2) (by simp;omega);rw[wrap_i64 (by omega) (by omega)];omega
structure tG(h0:a9)(x:a7)(b:List UInt8):Prop where
 is:∃R,aJ h0 1 x (b.map bc) R
 lt:b.length<4611686018427387904
theorem tG.mono{h0 h:a9}{x:a7}{b:List UInt8}(d:tG h0 x b)(hle:h0.le h):tG h x b:=by
 obtain⟨⟨R,a⟩,c⟩:=d;exact⟨⟨R,a.mono hle⟩,c⟩
def lE.Spec(C:aC)(N:zN):Prop:=∀(h0 h:a9)(p x:a7)(b:List UInt8)(r:dE)(Q:zQ),tG h0 x b->r.at_ <= b.length->od h0 h p x r->(∀y h',aG h0 h' [.sl 6 y ((cP (fR b) (aL b 2 r).1.toNat (aL b 2 r).2).1.map bZ.cs) [],.box p [x,.int .i64 ((cP (fR b) (aL b 2 r).1.toNat (aL b 2 r).2).2.at_:Int),.bool (cP (fR b) (aL b 2 r).1.toNat (aL b 2 r).2).2.bad]]->Q y h')->C (N 68) [p,.fn (N 67) [p] []] h Q
theorem lE.spec(i:lE.aD C N)(s1:ig.Spec C N)(s2:qh.Spec C N):lE.Spec C N:=by
 intro h0 h p x b r Q hx d f m;apply i;obtain⟨⟨R,c⟩,hb⟩:=hx
 try simp +contextual -dsimp
 refine s1 h0 h p x b R r 2 _ c hb d (by omega) f λh1 e=>?_;have l1:=gV (k:=2) d;obtain⟨n1,n2⟩:=rJ b r;generalize aL b 2 r=a at *;obtain⟨z,l⟩:=a;simp only at n1 n2 l1 m e ⊢;refine aB.intro (λt vs v=>∃(o:a7)(acc:List bZ)(r:dE),vs=[o,.int .i64 (t:Int)] /\ t <= 65535 /\ acc.length+t <= 65535 /\ r.at_ <= b.length /\ acc++(cP (fR b) t r).1=(cP (fR b) z.toNat l).1 /\ (cP (fR b) t r).2=(cP (fR b) z.toNat l).2 /\
   aG h0 v [.sl 6 o (acc.map bZ.cs) [],.box p [x,.int .i64 (r.at_:Int),.bool r.bad]]) z.toNat ?_ ⟨.aA,[],l,by rw[Int.toNat_of_nonneg n1],by omega,by simp;omega,l1,rfl,rfl,(e.aA 6).perm (List.Perm.swap ..)⟩
 rintro Y t vs v ⟨o,acc,r,rfl,F,D,d,e1,j,f⟩ E;obtain⟨id,rfl,w⟩:=f.fE 1 rfl;simp +contextual -dsimp[e9 w];refine B.bF (λg=>?_) (λg=>?_)<;>simp at g
 ·obtain⟨t,rfl⟩:∃u,t=u+1:=⟨t-1,by omega⟩
  simp only[cP,g.2,Bool.false_eq_true,if_false]at e1 j;obtain⟨y,A⟩:=f.out (l1:=[_]) (l2:=[_])
  try simp +contextual -dsimp
  refine s2 _ v _ x b R r _ (c.mono y.le) hb d A λH s=>?_;have q:=y.join s
  try simp +contextual -dsimp
  refine q.push 0 rfl rfl (by omega) (by simp;omega) (by simp[maxLen];omega) λo' G n _=>?_;have e4:IntKind.i64.wrap (((t+1:Nat):Int)-1)=(t:Int):=by rw[wrap_i64 (by omega) (by omega)];omega
  simp -dsimp only[V.nI,e4,B.aK];refine E t _ _ (by omega) ⟨o',acc++[(fR b r).1],(fR b r).2,rfl,by omega,by simp;omega,AG d,?_,j,?_⟩
  ·rw[<-e1,append_assoc];rfl
  ·rw[map_append];exact n
 ·have:(cP (fR b) t r)=([],r):=by
   cases t with
   | zero=>rfl
   | succ t=>simp[cP,g (by omega)]
  rw[this,append_nil]at e1;rw[this]at j;subst e1;rw[<-j]at m;exact aR (m _ _ f)
def lD.Spec(C:aC)(N:zN):Prop:=∀(h0 h:a9)(p x:a7)(b:List UInt8)(r:dE)(Q:zQ),tG h0 x b->r.at_ <= b.length->od h0 h p x r->(∀y h',aG h0 h' [.sl 3 y ((cP (il b) (aL b 2 r).1.toNat (aL b 2 r).2).1.map fA.cs) [],.box p [x,.int .i64 ((cP (il b) (aL b 2 r).1.toNat (aL b 2 r).2).2.at_:Int),.bool (cP (il b) (aL b 2 r).1.toNat (aL b 2 r).2).2.bad]]->Q y h')->C (N 70) [p,.fn (N 69) [p] []] h Q
theorem lD.spec(i:lD.aD C N)(s1:ig.Spec C N)(s2:qg.Spec C N):lD.Spec C N:=by
 intro h0 h p x b r Q hx d f m;apply i;obtain⟨⟨R,c⟩,hb⟩:=hx
 try simp +contextual -dsimp
 refine s1 h0 h p x b R r 2 _ c hb d (by omega) f λh1 e=>?_;have l1:=gV (k:=2) d;obtain⟨n1,n2⟩:=rJ b r;generalize aL b 2 r=a at *;obtain⟨z,l⟩:=a;simp only at n1 n2 l1 m e ⊢;refine aB.intro (λt vs v=>∃(o:a7)(acc:List fA)(r:dE),vs=[o,.int .i64 (t:Int)] /\ t <= 65535 /\ acc.length+t <= 65535 /\ r.at_ <= b.length /\ acc++(cP (il b) t r).1=(cP (il b) z.toNat l).1 /\ (cP (il b) t r).2=(cP (il b) z.toNat l).2 /\
   aG h0 v [.sl 3 o (acc.map fA.cs) [],.box p [x,.int .i64 (r.at_:Int),.bool r.bad]]) z.toNat ?_ ⟨.aA,[],l,by rw[Int.toNat_of_nonneg n1],by omega,by simp;omega,l1,rfl,rfl,(e.aA 3).perm (List.Perm.swap ..)⟩
 rintro Y t vs v ⟨o,acc,r,rfl,F,D,d,e1,j,f⟩ E;obtain⟨id,rfl,w⟩:=f.fE 1 rfl;simp +contextual -dsimp[e9 w];refine B.bF (λg=>?_) (λg=>?_)<;>simp at g
 ·obtain⟨t,rfl⟩:∃u,t=u+1:=⟨t-1,by omega⟩
  simp only[cP,g.2,Bool.false_eq_true,if_false]at e1 j;obtain⟨y,A⟩:=f.out (l1:=[_]) (l2:=[_])
  try simp +contextual -dsimp
  refine s2 _ v _ x b R r _ (c.mono y.le) hb d A λH s=>?_;have q:=y.join s
  try simp +contextual -dsimp
  refine q.push 0 rfl rfl (by omega) (by simp;omega) (by simp[maxLen];omega) λo' G n _=>?_;have e4:IntKind.i64.wrap (((t+1:Nat):Int)-1)=(t:Int):=by rw[wrap_i64 (by omega) (by omega)];omega
  simp -dsimp only[V.nI,e4,B.aK];refine E t _ _ (by omega) ⟨o',acc++[(il b r).1],(il b r).2,rfl,by omega,by simp;omega,Ht d,?_,j,?_⟩
  ·rw[<-e1,append_assoc];rfl
  ·rw[map_append];exact n
 ·have:(cP (il b) t r)=([],r):=by
   cases t with
   | zero=>rfl
   | succ t=>simp[cP,g (by omega)]
  rw[this,append_nil]at e1;rw[this]at j;subst e1;rw[<-j]at m;exact aR (m _ _ f)
def pN(b:List UInt8)(e:Int)(r:dE):cW×dE:=
 let i:=aL b 8 r
 let d:=aL b 2 i.2
 let c:=cT b d.2
 let s:=aL b 1 c.2
 let nl:=aL b 2 s.2
 let ls:=cP (fR b) nl.1.toNat nl.2
 let a:=aL b 2 ls.2
 let us:=cP (il b) a.1.toNat a.2
 (⟨e,i.1,d.1-1,c.1,dN s.1,ls.1,us.1⟩,us.2)
def mr(b:List UInt8):cW×dE:=if (aL b 2 ⟨0,false⟩).1=0 then pN b (aL b 2 ⟨0,false⟩).1 (aL b 2 ⟨0,false⟩).2 else (⟨(aL b 2 ⟨0,false⟩).1,0,0,[],0,[],[]⟩,(aL b 2 ⟨0,false⟩).2)
def pM:cW:=⟨0,0,0,[],0,[],[]⟩
def fY(b:List UInt8):cW×Nat×Int:=if (mr b).2.bad|| !km (mr b).1 then (pM,0,4) else ((mr b).1,(mr b).2.at_,0)
theorem aG.yD{h0 h:a9}{l:List Ob}(d:aG h0 h l)(k:Nat){id n:Nat}{cs xs:List a7}{K:a9->Prop}(hk:l[k]?=some (.box (.ptr id 0 0) cs))(g:xs.length=n)(m:cs.length=n)
  (o:∀h',aG h0 h' (l.set k (.box (.ptr id 0 0) xs))->iH (.ptr id 0 0) h h'->K h'):A.gp h (.ptr id 0 0) n (.agg xs) K:=by
 obtain⟨f,e,hb⟩:=d.fE k hk;cases e;rw[Pb hb g (by omega)];have e1:cs.take 0++xs++cs.drop (0+n)=xs:=by simp[<-m]
 rw[e1];have a:iH (.ptr id 0 0) h (bQ h id (cG xs)):=λj b e1 p=>by rw[cQ];exact e1;intro e;subst e;exact p rfl
 exact o _ (d.jB k hk ⟨id,rfl,dR ..⟩ (λj b i c=>by cases i;rw[dR]at c;cases c;rfl) a (.inl rfl)) a
def mb(t:cW)(r:dE):cW×Nat×Int:=if r.bad|| !km t then (pM,0,4) else (t,r.at_,0)
theorem zM(b:List UInt8):fY b=mb (mr b).1 (mr b).2:=rfl
@[simp] def cW.val(g:cW×Nat×Int)(x y:a7):a7:= .bI [.agg (g.1.cs x y),.int .i64 (g.2.1:Int),.int .i64 g.2.2]
theorem iZ.fin(s:hJ.Spec C N){h u:a9}{i2:Nat}{p x:a7}{cs2:List a7}{t:cW}{r:dE}{k j:a7}{Q:zQ}(g:aG h u [.box (.ptr i2 0 0) cs2,.box p [x,.int .i64 (r.at_:Int),.bool r.bad],.sl 6 k (t.bJ.map bZ.cs) [],.sl 3 j (t.Uses.map fA.cs) []])
  (v:cs2.length=7) (y:t.bJ.length <= 65535) (w:t.Uses.length <= 65535)
  (b:∀o n h',aG h h' [.sl 6 o ((mb t r).1.bJ.map bZ.cs) [],.sl 3 n ((mb t r).1.Uses.map fA.cs) []]->Q (cW.val (mb t r) o n) h'):iZ.k1 C N (dn Q) (.ptr i2 0 0) p (.agg (t.cs k j)) u:=by
 obtain⟨id,rfl,c⟩:=g.fE 1 rfl;simp +contextual -dsimp[e9 c];refine B.gG (λ_ _ b=>s t k j _ _ ⟨⟨_,g.aP 2 rfl⟩,⟨_,g.aP 3 rfl⟩⟩ (by omega) (by omega) b) ?_;simp +contextual -dsimp;refine B.bF (λh1=>?_) (λh1=>?_)
 ·have e:mb t r=(pM,0,4):=by unfold mb;rw[if_pos];simpa using h1
  rw[e]at b
  try simp +contextual -dsimp
  refine g.yD 0 rfl rfl v λm a _=>?_;obtain⟨f,i,d⟩:=a.fE 0 rfl;cases i;simp -dsimp[xu d];refine aR (b .aA .aA m ?_);exact((aG.nil a.le).aA 6).aA 3
 ·have e:mb t r=(t,r.at_,0):=by unfold mb;rw[if_neg];simpa using h1
  rw[e]at b
  try simp +contextual -dsimp
  simp -dsimp[e9 c];refine g.yD 0 rfl rfl v λm a _=>?_;obtain⟨f,i,d⟩:=a.fE 0 rfl;cases i;obtain⟨f,i,l⟩:=a.fE 1 rfl;cases i;refine⟨λq b=>?_,?_⟩
  ·rw[mem_singleton.1 b]
   exact⟨.int .i64 (r.at_:Int),by rw[e9 c];rfl,by rw[e9 l];rfl⟩
  ·simp -dsimp[xu d]
   exact aR (b k j m (a.sub (by simp)))
theorem fj.fin(s:gP.Spec C N){h u:a9}{i2:Nat}{p x:a7}{cs2:List a7}{t:cW}{r:dE}{k j:a7}{Q:zQ}(g:aG h u [.box (.ptr i2 0 0) cs2,.box p [x,.int .i64 (r.at_:Int),.bool r.bad],.sl 6 k (t.bJ.map bZ.cs) [],.sl 3 j (t.Uses.map fA.cs) []])
  (v:cs2.length=7) (y:t.bJ.length <= 65535) (w:t.Uses.length <= 65535)
  (b:∀o n h',aG h h' [.sl 6 o ((mb t r).1.bJ.map bZ.cs) [],.sl 3 n ((mb t r).1.Uses.map fA.cs) []]->Q (cW.val (mb t r) o n) h'):fj.k1 C N (dn Q) (.ptr i2 0 0) p (.agg (t.cs k j)) u:=by
 obtain⟨id,rfl,c⟩:=g.fE 1 rfl;simp +contextual -dsimp[e9 c];refine B.gG (λ_ _ b=>s t k j _ _ ⟨⟨_,g.aP 2 rfl⟩,⟨_,g.aP 3 rfl⟩⟩ (by omega) (by omega) b) ?_;simp +contextual -dsimp;refine B.bF (λh1=>?_) (λh1=>?_)
 ·have e:mb t r=(pM,0,4):=by unfold mb;rw[if_pos];simpa using h1
  rw[e]at b
  try simp +contextual -dsimp
  refine g.yD 0 rfl rfl v λm a _=>?_;obtain⟨f,i,d⟩:=a.fE 0 rfl;cases i;simp -dsimp[xu d];refine aR (b .aA .aA m ?_);exact((aG.nil a.le).aA 6).aA 3
 ·have e:mb t r=(t,r.at_,0):=by unfold mb;rw[if_neg];simpa using h1
  rw[e]at b
  try simp +contextual -dsimp
  simp -dsimp[e9 c];refine g.yD 0 rfl rfl v λm a _=>?_;obtain⟨f,i,d⟩:=a.fE 0 rfl;cases i;obtain⟨f,i,l⟩:=a.fE 1 rfl;cases i;refine⟨λq b=>?_,?_⟩
  ·rw[mem_singleton.1 b]
   exact⟨.int .i64 (r.at_:Int),by rw[e9 c];rfl,by rw[e9 l];rfl⟩
  ·simp -dsimp[xu d]
   exact aR (b k j m (a.sub (by simp)))
def iZ.Spec(C:aC)(N:zN):Prop:=∀(x:a7)(b:List UInt8)(h:a9)(Q:zQ),tG h x b->(∀c a h',aG h h' [.sl 6 c ((fY b).1.bJ.map bZ.cs) [],.sl 3 a ((fY b).1.Uses.map fA.cs) []]->Q (cW.val (fY b) c a) h')->C (N 38) [x] h Q
theorem iZ.spec(i:iZ.aD C N)(s1:ig.Spec C N)(s2:pq.Spec C N)(z:lE.Spec C N)(y:lD.Spec C N)(u:hJ.Spec C N):iZ.Spec C N:=by
 intro x b h Q hx d;apply i;rw[zM]at d;obtain⟨⟨R,j⟩,hb⟩:=hx;have l:=j.aI
 try simp -dsimp[l]
 intro i2 p;simp -dsimp[l];intro i9 o;have m:=(aG.start h).ni p [.int .i64 0,.int .i64 0,.int .i64 0,.str [],.int .u8 0,.aA,.aA];have o2:=(aG.start _).ni o [x,.int .i64 0,.bool false];simp only[nil_append]at m o2;have c:=j.mono m.le;refine s1 _ _ (.ptr i9 0 0) x b R ⟨0,false⟩ 2 _ c hb (by simp) (by omega) o2 λW n=>?_;have l3:=gV (b:=b) (r:=⟨0,false⟩) (k:=2) (by simp);simp -dsimp;refine B.bF (λf=>?_) (λf=>?_)
 ·rw[decide_eq_true_eq]at f
  rw[show mr b=pN b (aL b 2 ⟨0,false⟩).1 (aL b 2 ⟨0,false⟩).2 by unfold mr;rw[if_pos f]]at d;generalize aL b 2 ⟨0,false⟩=g3 at *;obtain⟨e,a⟩:=g3;simp only at f l3 n d ⊢
  try simp +contextual -dsimp
  refine s1 _ _ (.ptr i9 0 0) x b R a 8 _ c hb l3 (by omega) n λU H=>?_;have l5:=gV (k:=8) l3
  try simp +contextual -dsimp
  refine s1 _ _ (.ptr i9 0 0) x b R _ 2 _ c hb l5 (by omega) H λT G=>?_;have l6:=gV (k:=2) l5;obtain⟨n1,n2⟩:=rJ b (aL b 8 a).2;have K:IntKind.i64.wrap ((aL b 2 (aL b 8 a).2).1-1)=(aL b 2 (aL b 8 a).2).1-1:=wrap_i64 (by omega) (by omega);simp +contextual -dsimp[K];refine s2 _ _ (.ptr i9 0 0) x b R _ _ c hb l6 G λS F=>?_;have l7:=wh l6
  try simp +contextual -dsimp
  refine s1 _ _ (.ptr i9 0 0) x b R _ 1 _ c hb l7 (by omega) F λP E=>?_;have l8:=gV (k:=1) l7;simp +contextual -dsimp[mz];refine z _ _ (.ptr i9 0 0) x b _ _ ⟨⟨R,c⟩,hb⟩ l8 E λM O w=>?_;have l9:=Di (one:=fR b) (λr I=>AG I) (aL b 2 (aL b 1 (cT b (aL b 2 (aL b 8 a).2).2).2).2).1.toNat _ (gV (k:=2) l8);have len1:=tu (fR b) (aL b 2 (aL b 1 (cT b (aL b 2 (aL b 8 a).2).2).2).2).1.toNat (aL b 2 (aL b 1 (cT b (aL b 2 (aL b 8 a).2).2).2).2).2;have m1:=rJ b (aL b 1 (cT b (aL b 2 (aL b 8 a).2).2).2).2;have s:=(w.aP 0 rfl).aI;simp +contextual -dsimp[s];obtain⟨v,A⟩:=w.out (l1:=[_]) (l2:=[_]);refine y _ _ (.ptr i9 0 0) x b _ _ (tG.mono ⟨⟨R,c⟩,hb⟩ v.le) l9 A λL J g=>?_;have q:=(g.aP 0 rfl).aI;simp -dsimp only[B.eJ,V.Dg,V.CW,q,cond_true,length_set,length_cons,length_nil,List.set,C5,B.aK,if_true,show 6<0+1+1+1+1+1+1+1 by omega];have len2:=tu (il b) (aL b 2 (cP (fR b) (aL b 2 (aL b 1 (cT b (aL b 2 (aL b 8 a).2).2).2).2).1.toNat (aL b 2 (aL b 1 (cT b (aL b 2 (aL b 8 a).2).2).2).2).2).2).1.toNat (aL b 2 (cP (fR b) (aL b 2 (aL b 1 (cT b (aL b 2 (aL b 8 a).2).2).2).2).1.toNat (aL b 2 (aL b 1 (cT b (aL b 2 (aL b 8 a).2).2).2).2).2).2).2;have m2:=rJ b (cP (fR b) (aL b 2 (aL b 1 (cT b (aL b 2 (aL b 8 a).2).2).2).2).1.toNat (aL b 2 (aL b 1 (cT b (aL b 2 (aL b 8 a).2).2).2).2).2).2;have D:=m.join (v.join g);refine iZ.fin u (x:=x) (cs2:=[.int .i64 0,.int .i64 0,.int .i64 0,.str [],.int .u8 0,.aA,.aA]) (t:=(pN b e a).1) (r:=(pN b e a).2) (D.perm ?_) rfl (by simp only[pN];omega) (by simp only[pN];omega) d;exact List.Perm.cons _ (perm_append_comm (l₁:=[_,_]) (l₂:=[_]))
 ·rw[decide_eq_false_iff_not]at f
  rw[show mr b=(⟨(aL b 2 ⟨0,false⟩).1,0,0,[],0,[],[]⟩,(aL b 2 ⟨0,false⟩).2) by unfold mr;rw[if_neg f]]at d;exact iZ.fin u (t:=⟨(aL b 2 ⟨0,false⟩).1,0,0,[],0,[],[]⟩) (((m.join n).aA 6).aA 3) rfl (by simp) (by simp) d
theorem fj.sK(s1:iy.Spec C N){b:List UInt8}{x l:a7}{i2:Nat}{p:a7}{bs g:a9}{Q:zQ}{e i d:Int}{c:List UInt8}{s:UInt8}{z:Nat}{a:dE}(hx:tG bs x b)(J:l.aI=true)(M:z <= 65535)(v:a.at_ <= b.length)
  (j:aG bs g [.box p [x,.int .i64 (a.at_:Int),.bool a.bad]])
  (hk:∀o h',aG bs h' [.sl 3 o ((cP (il b) z a).1.map fA.cs) [],.box p [x,.int .i64 ((cP (il b) z a).2.at_:Int),.bool (cP (il b) z a).2.bad]]->fj.k1 C N Q (.ptr i2 0 0) p (.agg [.int .i64 e,.int .i64 i,.int .i64 d,.str c,.int .u8 (s.toNat:Int),l,o]) h'):
  aB (fj.l3 C N Q (.ptr i2 0 0) p) [.int .i64 (z:Int),.agg [.int .i64 e,.int .i64 i,.int .i64 d,.str c,.int .u8 (s.toNat:Int),l,.aA]] g:=by
 obtain⟨⟨R,q⟩,hb⟩:=hx;refine aB.intro (λt vs g=>∃(o:a7)(acc:List fA)(r:dE),vs=[.int .i64 (t:Int),.agg [.int .i64 e,.int .i64 i,.int .i64 d,.str c,.int .u8 (s.toNat:Int),l,o]] /\ t <= 65535 /\ acc.length+t <= 65535 /\ r.at_ <= b.length /\ acc++(cP (il b) t r).1=(cP (il b) z a).1 /\ (cP (il b) t r).2=(cP (il b) z a).2 /\
   aG bs g [.sl 3 o (acc.map fA.cs) [],.box p [x,.int .i64 (r.at_:Int),.bool r.bad]]) z ?_ ⟨.aA,[],a,rfl,by omega,by simp;omega,v,rfl,rfl,(j.aA 3).perm (List.Perm.swap ..)⟩
 rintro Y t vs g ⟨o,acc,r,rfl,O,K,w,e1,n,j⟩ L;obtain⟨id,rfl,G⟩:=j.fE 1 rfl;simp +contextual -dsimp[e9 G];refine B.bF (λm=>?_) (λm=>?_)<;>simp at m
 ·obtain⟨t,rfl⟩:∃u,t=u+1:=⟨t-1,by omega⟩
  simp only[cP,m.2,Bool.false_eq_true,if_false]at e1 n;obtain⟨H,I⟩:=j.out (l1:=[_]) (l2:=[_]);have f:=q.mono H.le
  try simp +contextual -dsimp
  refine s1 _ g _ x b R r 8 _ f hb w (by omega) I λU E=>?_;have l3:=gV (k:=8) w
  try simp +contextual -dsimp
  refine s1 _ _ _ x b R _ 8 _ f hb l3 (by omega) E λT D=>?_;have l4:=gV (k:=8) l3
  try simp +contextual -dsimp
  refine s1 _ _ _ x b R _ 8 _ f hb l4 (by omega) D λS A=>?_;have y:=H.join A
  try simp +contextual -dsimp
  refine y.push 0 rfl rfl (by omega) (by simp;omega) (by simp[maxLen];omega) λo' P h _=>?_;have e4:IntKind.i64.wrap (((t+1:Nat):Int)-1)=(t:Int):=by rw[wrap_i64 (by omega) (by omega)];omega
  have F:=(h.aP 0 rfl).aI;simp -dsimp only[B.eJ,V.Dg,V.CW,F,cond_true,length_set,length_cons,length_nil,List.set,C5,B.aK,if_true,show 6<0+1+1+1+1+1+1+1 by omega,V.nI,e4];refine L t _ _ (by omega) ⟨o',acc++[(il b r).1],(il b r).2,rfl,by omega,by simp;omega,Ht w,?_,n,?_⟩
  ·rw[<-e1,append_assoc];rfl
  ·rw[map_append];exact h
 ·have:(cP (il b) t r)=([],r):=by
   cases t with
   | zero=>rfl
   | succ t=>simp[cP,m (by omega)]
  rw[this,append_nil]at e1;rw[this]at n;subst e1;rw[<-n]at hk;exact hk _ _ j
theorem fj.iU(s1:iy.Spec C N)(s2:pK.Spec C N){b:List UInt8}{x:a7}{i2:Nat}{p:a7}{bs f:a9}{Q:zQ}{e i d:Int}{c:List UInt8}{s:UInt8}{z:Nat}{a:dE}(hx:tG bs x b)(J:z <= 65535)(v:a.at_ <= b.length)
  (j:aG bs f [.box p [x,.int .i64 (a.at_:Int),.bool a.bad]])
  (hk:∀o h',aG bs h' [.sl 6 o ((cP (fR b) z a).1.map bZ.cs) [],.box p [x,.int .i64 ((cP (fR b) z a).2.at_:Int),.bool (cP (fR b) z a).2.bad]] ->
   C (N 71) [p,.int .i64 2] h' λm h=>aB (fj.l3 C N Q (.ptr i2 0 0) p) [m,.agg [.int .i64 e,.int .i64 i,.int .i64 d,.str c,.int .u8 (s.toNat:Int),o,.aA]] h):
  aB (fj.l5 C N Q (.ptr i2 0 0) p) [.int .i64 (z:Int),.agg [.int .i64 e,.int .i64 i,.int .i64 d,.str c,.int .u8 (s.toNat:Int),.aA,.aA]] f:=by
 obtain⟨⟨R,n⟩,hb⟩:=hx;refine aB.intro (λt vs f=>∃(o:a7)(acc:List bZ)(r:dE),vs=[.int .i64 (t:Int),.agg [.int .i64 e,.int .i64 i,.int .i64 d,.str c,.int .u8 (s.toNat:Int),o,.aA]] /\ t <= 65535 /\ acc.length+t <= 65535 /\ r.at_ <= b.length /\ acc++(cP (fR b) t r).1=(cP (fR b) z a).1 /\ (cP (fR b) t r).2=(cP (fR b) z a).2 /\
   aG bs f [.sl 6 o (acc.map bZ.cs) [],.box p [x,.int .i64 (r.at_:Int),.bool r.bad]]) z ?_ ⟨.aA,[],a,rfl,by omega,by simp;omega,v,rfl,rfl,(j.aA 6).perm (List.Perm.swap ..)⟩
 rintro Y t vs f ⟨o,acc,r,rfl,K,H,F,e1,l,j⟩ I;obtain⟨id,rfl,D⟩:=j.fE 1 rfl;simp +contextual -dsimp[e9 D];refine B.bF (λk=>?_) (λk=>?_)<;>simp at k
 ·obtain⟨t,rfl⟩:∃u,t=u+1:=⟨t-1,by omega⟩
  simp only[cP,k.2,Bool.false_eq_true,if_false]at e1 l;obtain⟨E,G⟩:=j.out (l1:=[_]) (l2:=[_]);have q:=n.mono E.le
  try simp +contextual -dsimp
  refine s2 _ f _ x b R r _ q hb F G λM y=>?_;have w:=E.join y
  try simp +contextual -dsimp
  refine w.push 0 rfl rfl (by omega) (by simp;omega) (by simp[maxLen];omega) λo' L g _=>?_;have e4:IntKind.i64.wrap (((t+1:Nat):Int)-1)=(t:Int):=by rw[wrap_i64 (by omega) (by omega)];omega
  have A:=(g.aP 0 rfl).aI;simp -dsimp only[B.eJ,V.Dg,V.CW,A,cond_true,length_set,length_cons,length_nil,List.set,C5,B.aK,if_true,show 5<0+1+1+1+1+1+1+1 by omega,V.nI,e4];refine I t _ _ (by omega) ⟨o',acc++[(fR b r).1],(fR b r).2,rfl,by omega,by simp;omega,AG F,?_,l,?_⟩
  ·rw[<-e1,append_assoc];rfl
  ·rw[map_append];exact g
 ·have:(cP (fR b) t r)=([],r):=by
   cases t with
   | zero=>rfl
   | succ t=>simp[cP,k (by omega)]
  rw[this,append_nil]at e1;rw[this]at l;subst e1;rw[<-l]at hk;exact hk _ _ j
def fj.Spec(C:aC)(N:zN):Prop:=∀(x:a7)(b:List UInt8)(h:a9)(Q:zQ),tG h x b->(∀c a h',aG h h' [.sl 6 c ((fY b).1.bJ.map bZ.cs) [],.sl 3 a ((fY b).1.Uses.map fA.cs) []]->Q (cW.val (fY b) c a) h')->C (N 41) [x] h Q
theorem fj.spec(i:fj.aD C N)(s1:iy.Spec C N)(s2:nr.Spec C N)(A:pK.Spec C N)(w:gP.Spec C N):fj.Spec C N:=by
 intro x b h Q hx d;apply i;rw[zM]at d;obtain⟨⟨R,g⟩,hb⟩:=hx;have j:=g.aI
 try simp -dsimp[j]
 intro i2 u;simp -dsimp[j];intro i9 s;have m:=(aG.start h).ni u [.int .i64 0,.int .i64 0,.int .i64 0,.str [],.int .u8 0,.aA,.aA];have o2:=(aG.start _).ni s [x,.int .i64 0,.bool false];simp only[nil_append]at m o2;have c:=g.mono m.le;refine s1 _ _ (.ptr i9 0 0) x b R ⟨0,false⟩ 2 _ c hb (by simp) (by omega) o2 λW o=>?_;have l3:=gV (b:=b) (r:=⟨0,false⟩) (k:=2) (by simp);simp -dsimp;refine B.bF (λf=>?_) (λf=>?_)
 ·rw[decide_eq_true_eq]at f
  rw[show mr b=pN b (aL b 2 ⟨0,false⟩).1 (aL b 2 ⟨0,false⟩).2 by unfold mr;rw[if_pos f]]at d;generalize aL b 2 ⟨0,false⟩=g3 at *;obtain⟨e,a⟩:=g3;simp only at f l3 o d ⊢
  try simp +contextual -dsimp
  refine s1 _ _ (.ptr i9 0 0) x b R a 8 _ c hb l3 (by omega) o λV H=>?_;have l5:=gV (k:=8) l3
  try simp +contextual -dsimp
  refine s1 _ _ (.ptr i9 0 0) x b R _ 2 _ c hb l5 (by omega) H λU G=>?_;have l6:=gV (k:=2) l5;obtain⟨n1,n2⟩:=rJ b (aL b 8 a).2;have M:IntKind.i64.wrap ((aL b 2 (aL b 8 a).2).1-1)=(aL b 2 (aL b 8 a).2).1-1:=wrap_i64 (by omega) (by omega);simp +contextual -dsimp[M];refine s2 _ _ (.ptr i9 0 0) x b R _ _ c hb l6 G λT F=>?_;have l7:=wh l6
  try simp +contextual -dsimp
  refine s1 _ _ (.ptr i9 0 0) x b R _ 1 _ c hb l7 (by omega) F λJ n=>?_;have l8:=gV (k:=1) l7;simp +contextual -dsimp[mz];refine s1 _ _ (.ptr i9 0 0) x b R _ 2 _ c hb l8 (by omega) n λJ n=>?_;have m1:=rJ b (aL b 1 (cT b (aL b 2 (aL b 8 a).2).2).2).2;have len1:=tu (fR b) (aL b 2 (aL b 1 (cT b (aL b 2 (aL b 8 a).2).2).2).2).1.toNat (aL b 2 (aL b 1 (cT b (aL b 2 (aL b 8 a).2).2).2).2).2;have l9:=Di (one:=fR b) (λr I=>AG I) (aL b 2 (aL b 1 (cT b (aL b 2 (aL b 8 a).2).2).2).2).1.toNat _ (gV (k:=2) l8);have z1:((aL b 2 (aL b 1 (cT b (aL b 2 (aL b 8 a).2).2).2).2).1.toNat:Int)=(aL b 2 (aL b 1 (cT b (aL b 2 (aL b 8 a).2).2).2).2).1:=Int.toNat_of_nonneg m1.1;rw[<-z1];refine fj.iU s1 A ⟨⟨R,c⟩,hb⟩ (by omega) (gV (k:=2) l8) n λP S z=>?_;have v:=(z.aP 0 rfl).aI;obtain⟨y,D⟩:=z.out (l1:=[_]) (l2:=[_]);have l:=c.mono y.le;refine s1 _ _ (.ptr i9 0 0) x b R _ 2 _ l hb l9 (by omega) D λL q=>?_;have m2:=rJ b (cP (fR b) (aL b 2 (aL b 1 (cT b (aL b 2 (aL b 8 a).2).2).2).2).1.toNat (aL b 2 (aL b 1 (cT b (aL b 2 (aL b 8 a).2).2).2).2).2).2;have len2:=tu (il b) (aL b 2 (cP (fR b) (aL b 2 (aL b 1 (cT b (aL b 2 (aL b 8 a).2).2).2).2).1.toNat (aL b 2 (aL b 1 (cT b (aL b 2 (aL b 8 a).2).2).2).2).2).2).1.toNat (aL b 2 (cP (fR b) (aL b 2 (aL b 1 (cT b (aL b 2 (aL b 8 a).2).2).2).2).1.toNat (aL b 2 (aL b 1 (cT b (aL b 2 (aL b 8 a).2).2).2).2).2).2).2;have z2:=Int.toNat_of_nonneg m2.1;rw[<-z2];refine fj.sK s1 ⟨⟨R,l⟩,hb⟩ v (by omega) (gV (k:=2) l9) q λO K p=>?_;have E:=m.join (y.join p);refine fj.fin w (x:=x) (cs2:=[.int .i64 0,.int .i64 0,.int .i64 0,.str [],.int .u8 0,.aA,.aA]) (t:=(pN b e a).1) (r:=(pN b e a).2) (E.perm ?_) rfl (by simp only[pN];omega) (by simp only[pN];omega) d
  exact List.Perm.cons _ (perm_append_comm (l₁:=[_,_]) (l₂:=[_]))
 ·rw[decide_eq_false_iff_not]at f
  rw[show mr b=(⟨(aL b 2 ⟨0,false⟩).1,0,0,[],0,[],[]⟩,(aL b 2 ⟨0,false⟩).2) by unfold mr;rw[if_neg f]]at d;exact fj.fin w (t:=⟨(aL b 2 ⟨0,false⟩).1,0,0,[],0,[],[]⟩) (((m.join o).aA 6).aA 3) rfl (by simp) (by simp) d
end Go.Ab
