/- What is proved: a part of the way to the statement: L12z. No conditions. -/
import Derived.Test.YtlcijlhcilgknaaGreatRows
import Derived.Test.YtlcijlhcilgknaaGreatQ6
import Derived.Lib.Bytealg
import Derived.Test.YtlcijlhcilgknaaGreatQ2
import Derived.Test.YtlcijlhcilgknaaGreatQ3
set_option linter.unusedVariables false
set_option linter.unusedSimpArgs false
set_option maxRecDepth 100000
namespace Go.Ab.S12z
open Go.Ab Go.Proofs
noncomputable abbrev P:Program:=Tryz.prog
def lkz:List (Nat×List Nat)->Nat->List Nat|[],_=>[]|(a,b)::r,k=>bif Nat.beq a k then b else lkz r k
def pz(e:List (Nat×List Nat)):Nat->List (Nat×List Nat)|0=>[]|n+1=>pz e n++[(n,lkz e n)]
@[reducible] def LkT(P:Program)(I:Bx)(f:Func)(F:zh->(zQ)->zch->zb->Prop):Prop:=∀{C:zh}(hC:zol C)(Q:zQ)(s:zch)(h:zb),F C Q s h->bwp P C I (f.body.getD .skip) (retB P I f.results.toList Q) s h
theorem eT{P:Program}{C:zh}{I:Bx}(hC:zol C){c:Code}{Q:Ex->zch->zb->Prop}{s:zch}{h:zb}(X:zch->zb->Prop){p:Prop}(hR:p)(hb:∀s h,X s h->bwp P C I (cB c) Q s h)(e:bwp P C I (cA c) (Ex.then X Q) s h=p:=by kernel_rfl)(hk:isS c=true:=by kernel_rfl):bwp P C I c Q s h:=eS hC X (e1 hR e) hb hk
@[reducible] def on1(F:za->zG):List za->zG|[a],u,v,w=>F a u v w|_,_,_,_=>False
@[reducible] def on2(F:za->za->zG):List za->zG|[a,b],u,v,w=>F a b u v w|_,_,_,_=>False
@[reducible] def on3(F:za->za->za->zG):List za->zG|[a,b,c],u,v,w=>F a b c u v w|_,_,_,_=>False
@[reducible] def on4(F:za->za->za->za->zG):List za->zG|[a,b,c,d],u,v,w=>F a b c d u v w|_,_,_,_=>False
@[reducible] def on5(F:za->za->za->za->za->zG):List za->zG|[a,b,c,d,e],u,v,w=>F a b c d e u v w|_,_,_,_=>False
@[reducible] def on6(F:za->za->za->za->za->za->zG):List za->zG|[a,b,c,d,e,f],u,v,w=>F a b c d e f u v w|_,_,_,_=>False
@[reducible] def on9(F:za->za->za->za->za->za->za->za->za->zG):List za->zG|[a,b,c,d,e,f,g,i,j],u,v,w=>F a b c d e f g i j u v w|_,_,_,_=>False
def N(k:Nat):Nat:=[0,0,0,0,0,0,0,0,0,0,0,0,0,0,0,0,0,0,134,0,72,0,0,0,0,0,0,0,0,0,0,0,0,0,168,0,0,0,0,0,0,0,140,0,0,0,0,0,52,0,0,0,0,0,63,0,65,0,0,0,0,0,51,0,133,0,0,0,0,0,0,0,0,0,68,167,0,106,136,0,83,84,85,86,87,88,89,90,91,92,93,94,95,96,97,98,99,100,101,102,103,104,105,0,0,0,35,135,112,34,44,107,137,138,139,141,28,142,143,144,145,146,147,148,149,150,151,152,153,154,157,0,80,18,67,69,169,170,171,0,0,0,0,0,0,0,0,0,0,0,0,0,0,0,0,0,0,0,0,0,0,0,0,0,0,0,0,0,0,0,0,0,0,0,0,0,0,0,0,0,0,0,0,0,0,0,53,0,0,64,66,0,0,0,0,0,0,0,0,0,0,0,0,0,0,0,59,158,0,0,0,0,0,0,0,0,0,0,0,0,0,0,0,0,0,0,0,0,0,0,0,0,0,0,0,0,0,0,0,0,0,0,0,0,0,0,0,0,0,0,0,0,0,0,0,0,0,0,0,0,0,0,0,0,0,0,0,0,0,0,0,0,0,0,0,0,0,0,0,0,0,0,0,0,0,0,0,76,0,0,0,0,0,0,0,0,0,0,161,160,0,0,0,0,122,123,0,0,0,0,0,0,0,0,0,0,0,0,0,71,0,0,0,0,79,0,0,0,0,0,0,0,0,0,0,0,0,0,0,0,0,0,0,0,0,0,0,0,0,0,0,0,0,0,0,0,0,0,0,0,0,0,0,0,37,42,0,108,0,0,0,0,0,109,0,75,155,119,120,121,118,117,116,115,114,113,159,162,163,132,173,8,12,14,0,0,20,0,0,33,43,45,0,0,0,50,9,13,81,15,0,0,0,0,0,0,0,0,0,0,0,0,0,0,0,0,0,0,0,0,0,0,0,0,0,0,0,0,0,0,0,0,61,0,0,110,22,25,26,0,0,0,0,30,0,0,0,0,0,0,0,0,0,0,0,0,0,0,0,0,70,0,0,111,0,156,0,0,0,0,172,175,0,0,0,0,0,0,0,0,0,0,0,0,0,0,0,0,0,0,0,0,0,0,0,0,0,0,0,0,0,0,0,0,0,0,0,0,0,0,0,0,0,0,0,0,0,0,0,0,0,0,0,0,0,0,0,0,0,0,0,0,0,0,0,0,0,0,0,0,0,0,0,11,10,6,7,0,24,23,21,0,31,16,32,40,39,38,36,62,56,58,57,60,55,54,74,73,41,77,78,130,131,129,128,127,126,125,124,166,165,164,174,17,19,3,27,29,4,5,47,48,46,49,82].getD k 0
theorem mixed:P.follows .mixedOrders=true:=by kernel_rfl
def zd9.I:Bx:=⟨[3,4,7,11,12],[21],87,[(4,[(0,[]),(1,[]),(3,[]),(4,[]),(2,[3,4]),(5,[]),(6,[]),(7,[])]),(5,[(0,[]),(1,[]),(3,[]),(4,[]),(2,[3]),(5,[]),(6,[]),(7,[]),(8,[]),(9,[])]),(10,pz [(9,[6])] 13)]⟩
theorem zd9.L:LkT P zd9.I Tryz.f4 λC Q s h=>zd9.cps C N (s 0) (s 1) (s 2) h Q:=λ{C} k Q s h r=>e1 r
theorem zd9.imp:zd9.Imp (AC P) N:=λa b c h Q r=>eF mixed (fn:=Tryz.f4) (λk=>zd9.L k (dn Q) (zby [a,b,c]) h r)
def zdy.I:Bx:=⟨[],[],38,[]⟩
theorem zdy.L:LkT P zdy.I Tryz.f6 λC Q s h=>zdy.cps C N (s 0) (s 1) h Q:=λ{C} k Q s h r=>eT k (λs h=>zd (zdy.l3 C N Q (s 0) (s 1)) [(.int .i64 0),(.int .i64 0)] h) r (λs h r=>eT k (λs h=>zd (zdy.l3 C N Q (s 0) (s 1)) [(s 5),(.int .i64 0)] h) r (λs h r=>eS k (λs h=>zdy.k1 C N Q (s 0) (s 5) h) (eT k (λs h=>zd (zdy.l3 C N Q (s 0) (s 1)) [(s 5),(s 6)] h) r (λs h r=>eK (eL k [0,1] [5,6] (on2 (zdy.l3 C N Q)) r (λY1 s h r=>e1 r)))) (λs h r=>e1 r)))
theorem zdy.imp:zdy.Imp (AC P) N:=λa b h Q r=>eF mixed (fn:=Tryz.f6) (λk=>zdy.L k (dn Q) (zby [a,b]) h r)
def zf6.I:Bx:=⟨[1],[],49,[]⟩
theorem zf6.L:LkT P zf6.I Tryz.f7 λC Q s h=>zf6.cps C N h Q:=λ{C} k Q s h r=>e1 r
theorem zf6.imp:zf6.Imp (AC P) N:=λh Q r=>eF mixed (fn:=Tryz.f7) (λk=>zf6.L k (dn Q) (zby []) h r)
def zcz.I:Bx:=⟨[5],[],39,[]⟩
theorem zcz.L:LkT P zcz.I Tryz.f8 λC Q s h=>zcz.cps C N (s 0) h Q:=λ{C} k Q s h r=>eT k (λs h=>zcz.k5 C N Q (s 0) h) r (λs h r=>eT k (λs h=>zd (zcz.l4 C N Q (s 0)) [(s 3),(.int .i64 0)] h) r (λs h r=>eS k (λs h=>zd (zcz.l2 C N Q (s 0)) [(s 3),(.int .i64 0)] h) (eT k (λs h=>zd (zcz.l4 C N Q (s 0)) [(s 3),(s 4)] h) r (λs h r=>eK (eL k [0] [3,4] (on1 (zcz.l4 C N Q)) r (λY2 s h r=>e1 r)))) (λs h r=>eS k (λs h=>B.pv (V.zbg (s 0)) λa=>B.pv (V.zhn 4 (s 3) none (some a)) λb=>Q b h) (eT k (λs h=>zd (zcz.l2 C N Q (s 0)) [(s 3),(s 6)] h) r (λs h r=>eK (eL k [0] [3,6] (on1 (zcz.l2 C N Q)) r (λY1 s h r=>e1 r)))) (λs h r=>e1 r))))
theorem zcz.imp:zcz.Imp (AC P) N:=λa h Q r=>eF mixed (fn:=Tryz.f8) (λk=>zcz.L k (dn Q) (zby [a]) h r)
def zen.I:Bx:=⟨[],[],25,[]⟩
theorem zen.L:LkT P zen.I Tryz.f9 λC Q s h=>zen.cps C N (s 0) h Q:=λ{C} k Q s h r=>eT k (λs h=>zen.k3 C N Q (s 0) h) r (λs h r=>eT k (λs h=>B.ziw h 1 16 (s 3) (s 0) λa h=>zd (zv4.l4 C 16 (N 106) (.str []) 1 Q (s 0)) [a,(.int .i64 0)] h) r (λs h r=>eT k (λs h=>zd (zv4.l4 C 16 (N 106) (.str []) 1 Q (s 0)) [(s 3),(.int .i64 0)] h) r (λs h r=>eS k (λs h=>B.pv (V.zbg (s 0)) λb=>B.pv (V.zhn 1 (s 3) none (some b)) λc=>Q c h) (eT k (λs h=>zd (zv4.l4 C 16 (N 106) (.str []) 1 Q (s 0)) [(s 3),(s 4)] h) r (λs h r=>eK (eL k [0] [3,4] (on1 (zv4.l4 C 16 (N 106) (.str []) 1 Q)) r (λY1 s h r=>e1 r)))) (λs h r=>e1 r))))
theorem zen.imp:zen.Imp (AC P) N:=λa h Q r=>eF mixed (fn:=Tryz.f9) (λk=>zen.L k (dn Q) (zby [a]) h r)
def ze0.I:Bx:=⟨[],[],50,[]⟩
theorem ze0.L:LkT P ze0.I Tryz.f10 λC Q s h=>ze0.cps C N (s 0) h Q:=λ{C} k Q s h r=>eT k (λs h=>ze0.k5 C N Q (s 0) h) r (λs h r=>eT k (λs h=>B.zsg h λc h=>B.rangeMap h (s 3) λa h=>zd (ze0.l4 C N Q (s 4) c a) [] h) r (λs h r=>eT k (λs h=>B.rangeMap h (s 3) λa h=>zd (ze0.l4 C N Q (s 4) (s 5) a) [] h) r (λs h r=>eS k (λs h=>B.rangeMap h (s 5) λb h=>zd (ze0.l2 C N Q b) [.zbp] h) (eT k (λs h=>zd (ze0.l4 C N Q (s 4) (s 5) (s 17)) [] h) r (λs h r=>eK (eL k [4,5,17] [] (on3 (ze0.l4 C N Q)) r (λY2 s h r=>e1 r)))) (λs h r=>eT k (λs h=>B.rangeMap h (s 5) λb h=>zd (ze0.l2 C N Q b) [(s 7)] h) r (λs h r=>eS k (λs h=>B.call C (N 566) [(s 7),(.fn (N 565) [] [])] h λd h=>Q (s 7) h) (eT k (λs h=>zd (ze0.l2 C N Q (s 35)) [(s 7)] h) r (λs h r=>eK (eL k [35] [7] (on1 (ze0.l2 C N Q)) r (λY1 s h r=>e1 r)))) (λs h r=>e1 r))))))
theorem ze0.imp:ze0.Imp (AC P) N:=λa h Q r=>eF mixed (fn:=Tryz.f10) (λk=>ze0.L k (dn Q) (zby [a]) h r)
def zds.I:Bx:=⟨[],[],65,[]⟩
theorem zds.L:LkT P zds.I Tryz.f11 λC Q s h=>zds.cps C N (s 0) (s 1) h Q:=λ{C} k Q s h r=>eT k (λs h=>zds.k5 C N Q (s 0) (s 1) h) r (λs h r=>eT k (λs h=>B.zsg h λb h=>B.pv (V.zbg (s 1)) λa=>zd (zds.l4 C N Q (s 5) (s 6) b (s 1) a) [.zbp,(.int .i64 0)] h) r (λs h r=>eT k (λs h=>B.pv (V.zbg (s 1)) λa=>zd (zds.l4 C N Q (s 5) (s 6) (s 7) (s 1) a) [.zbp,(.int .i64 0)] h) r (λs h r=>eT k (λs h=>B.pv (V.zbg (s 1)) λa=>zd (zds.l4 C N Q (s 5) (s 6) (s 7) (s 1) a) [(s 8),(.int .i64 0)] h) r (λs h r=>eS k (λs h=>B.rangeMap h (s 5) λc h=>zd (zds.l2 C N Q (s 6) (s 7) c) [(s 8)] h) (eT k (λs h=>zd (zds.l4 C N Q (s 5) (s 6) (s 7) (s 20) (s 21)) [(s 8),(s 22)] h) r (λs h r=>eK (eL k [5,6,7,20,21] [8,22] (on5 (zds.l4 C N Q)) r (λY2 s h r=>e1 r)))) (λs h r=>eS k (λs h=>B.call C (N 364) [(s 8)] h λf h=>B.call C (N 365) [(s 8)] h λd h=>B.call C (N 567) [d] h λe h=>Q e h) (eT k (λs h=>zd (zds.l2 C N Q (s 6) (s 7) (s 45)) [(s 8)] h) r (λs h r=>eK (eL k [6,7,45] [8] (on3 (zds.l2 C N Q)) r (λY1 s h r=>e1 r)))) (λs h r=>e1 r))))))
theorem zds.imp:zds.Imp (AC P) N:=λa b h Q r=>eF mixed (fn:=Tryz.f11) (λk=>zds.L k (dn Q) (zby [a,b]) h r)
def zdj.I:Bx:=⟨[],[],58,[(7,pz [(30,[25])] 35)]⟩
theorem zdj.L:LkT P zdj.I Tryz.f12 λC Q s h=>zdj.cps C N (s 0) (s 1) h Q:=λ{C} k Q s h r=>eT k (λs h=>zdj.k4 C N Q (s 0) (s 1) h) r (λs h r=>eT k (λs h=>zdj.k3 C N Q (s 0) (s 1) h) r (λs h r=>eT k (λs h=>zd (zdj.l2 C N Q (s 1) (s 5)) [(.int .i64 0)] h) r (λs h r=>eS k (λs h=>Q (.bool true) h) (eT k (λs h=>zd (zdj.l2 C N Q (s 1) (s 5)) [(s 6)] h) r (λs h r=>eK (eL k [1,5] [6] (on2 (zdj.l2 C N Q)) r (λY1 s h r=>e1 r)))) (λs h r=>e1 r))))
theorem zdj.imp:zdj.Imp (AC P) N:=λa b h Q r=>eF mixed (fn:=Tryz.f12) (λk=>zdj.L k (dn Q) (zby [a,b]) h r)
def zd8.I:Bx:=⟨[],[],58,[(7,pz [(30,[25])] 35)]⟩
theorem zd8.L:LkT P zd8.I Tryz.f13 λC Q s h=>zd8.cps C N (s 0) (s 1) h Q:=λ{C} k Q s h r=>eT k (λs h=>zd8.k4 C N Q (s 0) (s 1) h) r (λs h r=>eT k (λs h=>zd8.k3 C N Q (s 0) (s 1) h) r (λs h r=>eT k (λs h=>zd (zxq.l4 C (N 106) 1 Q (s 1) (s 5)) [(.int .i64 0)] h) r (λs h r=>eS k (λs h=>Q (.bool true) h) (eT k (λs h=>zd (zxq.l4 C (N 106) 1 Q (s 1) (s 5)) [(s 6)] h) r (λs h r=>eK (eL k [1,5] [6] (on2 (zxq.l4 C (N 106) 1 Q)) r (λY1 s h r=>e1 r)))) (λs h r=>e1 r))))
theorem zd8.imp:zd8.Imp (AC P) N:=λa b h Q r=>eF mixed (fn:=Tryz.f13) (λk=>zd8.L k (dn Q) (zby [a,b]) h r)
def zc4.I:Bx:=⟨[],[],32,[]⟩
theorem zc4.L:LkT P zc4.I Tryz.f14 λC Q s h=>zc4.cps C N (s 0) h Q:=λ{C} k Q s h r=>eS k (λs h=>zc4.k3 C N Q (s 0) h) (eT k (λs h=>zd (zc4.l5 C N Q (s 0)) [(s 2)] h) r (λs h r=>eK (eL k [0] [2] (on1 (zc4.l5 C N Q)) r (λY2 s h r=>e1 r)))) (λs h r=>eT k (λs h=>zd (zc4.l2 C N Q (s 3)) [(.int .i64 0)] h) r (λs h r=>eT k (λs h=>zd (zc4.l2 C N Q (s 3)) [(s 4)] h) r (λs h r=>eK (eL k [3] [4] (on1 (zc4.l2 C N Q)) r (λY1 s h r=>e1 r)))))
theorem zc4.imp:zc4.Imp (AC P) N:=λa h Q r=>eF mixed (fn:=Tryz.f14) (λk=>zc4.L k (dn Q) (zby [a]) h r)
def zex.I:Bx:=⟨[],[],20,[]⟩
theorem zex.L:LkT P zex.I Tryz.f15 λC Q s h=>zex.cps C N (s 0) h Q:=λ{C} k Q s h r=>eT k (λs h=>zd (znj.l3 C 1 (N 106) (λh p v K=>B.st h p v K) 2 Q (s 2)) [(.int .i64 0)] h) r (λs h r=>eT k (λs h=>zd (znj.l3 C 1 (N 106) (λh p v K=>B.st h p v K) 2 Q (s 2)) [(s 3)] h) r (λs h r=>eK (eL k [2] [3] (λkv lv h Y1=>match kv with|[a]=>znj.l3 C 1 (N 106) (λh p v K=>B.st h p v K) 2 Q a lv h Y1|_=>False) r (λY1 s h r=>e1 r))))
theorem zex.imp:zex.Imp (AC P) N:=λa h Q r=>eF mixed (fn:=Tryz.f15) (λk=>zex.L k (dn Q) (zby [a]) h r)
def zeo.I:Bx:=⟨[],[],27,[(6,pz [] 10)]⟩
theorem zeo.L:LkT P zeo.I Tryz.f16 λC Q s h=>zeo.cps C N (s 0) (s 1) h Q:=λ{C} k Q s h r=>eT k (λs h=>zeo.k3 C N Q (s 0) (s 1) h) r (λs h r=>eT k (λs h=>zd (zeo.l2 C N Q (s 0) (s 1)) [(.int .i64 0)] h) r (λs h r=>eS k (λs h=>Q (.bool true) h) (eT k (λs h=>zd (zeo.l2 C N Q (s 0) (s 1)) [(s 5)] h) r (λs h r=>eK (eL k [0,1] [5] (on2 (zeo.l2 C N Q)) r (λY1 s h r=>e1 r)))) (λs h r=>e1 r)))
theorem zeo.imp:zeo.Imp (AC P) N:=λa b h Q r=>eF mixed (fn:=Tryz.f16) (λk=>zeo.L k (dn Q) (zby [a,b]) h r)
def zed.I:Bx:=⟨[],[],26,[(6,pz [] 9)]⟩
theorem zed.L:LkT P zed.I Tryz.f18 λC Q s h=>zed.cps C N (s 0) (s 1) h Q:=λ{C} k Q s h r=>eT k (λs h=>zed.k3 C N Q (s 0) (s 1) h) r (λs h r=>eT k (λs h=>zd (zya.l4  Q (s 0) (s 1)) [(.int .i64 0)] h) r (λs h r=>eS k (λs h=>Q (.bool true) h) (eT k (λs h=>zd (zya.l4  Q (s 0) (s 1)) [(s 5)] h) r (λs h r=>eK (eL k [0,1] [5] (on2 (zya.l4  Q)) r (λY1 s h r=>e1 r)))) (λs h r=>e1 r)))
theorem zed.imp:zed.Imp (AC P) N:=λa b h Q r=>eF mixed (fn:=Tryz.f18) (λk=>zed.L k (dn Q) (zby [a,b]) h r)
def zdb.I:Bx:=⟨[],[],48,[]⟩
theorem zdb.L:LkT P zdb.I Tryz.f19 λC Q s h=>zdb.cps C N (s 0) (s 1) h Q:=λ{C} k Q s h r=>eT k (λs h=>B.call C (N 602) [(s 0)] h λa h=>zd (zdb.l5 C N Q (s 0) (s 1) a) [.zbp,(.int .i64 0)] h) r (λs h r=>eT k (λs h=>B.call C (N 602) [(s 0)] h λa h=>zd (zdb.l5 C N Q (s 0) (s 1) a) [(s 5),(.int .i64 0)] h) r (λs h r=>eT k (λs h=>zd (zdb.l5 C N Q (s 0) (s 1) (s 6)) [(s 5),(.int .i64 0)] h) r (λs h r=>eS k (λs h=>Q (s 5) h) (eT k (λs h=>zd (zdb.l5 C N Q (s 0) (s 1) (s 6)) [(s 5),(s 7)] h) r (λs h r=>eK (eL k [0,1,6] [5,7] (on3 (zdb.l5 C N Q)) r (λY1 s h r=>eT k (λs h=>zdb.k4 C N Q Y1 (s 0) (s 1) (s 5) (s 6) (s 7) h) r (λs h r=>eS k (λs h=>B.pv (V.bin .add (s 7) (.int .i64 1)) λb=>Y1 [(s 5),b] h) (eK (eT k (λs h=>zdb.k3 C N Q Y1 (s 0) (s 1) (s 5) (s 6) (s 7) (s 8) h) r (λs h r=>eT k (λs h=>zd (zdb.l2 C N Q Y1 (s 0) (s 1) (s 6) (s 7) (s 8)) [(s 5),(.int .i64 0)] h) r (λs h r=>eT k (λs h=>zd (zdb.l2 C N Q Y1 (s 0) (s 1) (s 6) (s 7) (s 8)) [(s 5),(s 9)] h) r (λs h r=>eK (eL k [0,1,6,7,8] [5,9] (on5 (zdb.l2 C N Q Y1)) r (λY2 s h r=>e1 r))))))) (λs h r=>e1 r)))))) (λs h r=>e1 r))))
theorem zdb.imp:zdb.Imp (AC P) N:=λa b h Q r=>eF mixed (fn:=Tryz.f19) (λk=>zdb.L k (dn Q) (zby [a,b]) h r)
def zd3.I:Bx:=⟨[],[],21,[]⟩
theorem zd3.L:LkT P zd3.I Tryz.f20 λC Q s h=>zd3.cps C N (s 0) h Q:=λ{C} k Q s h r=>eT k (λs h=>zd3.k3 C N Q (s 0) h) r (λs h r=>eT k (λs h=>zd (zd3.l2 C N Q (s 0) (s 3)) [(.int .i64 0)] h) r (λs h r=>eS k (λs h=>B.call C (N 62) [(s 3)] h λa h=>Q a h) (eT k (λs h=>zd (zd3.l2 C N Q (s 0) (s 3)) [(s 4)] h) r (λs h r=>eK (eL k [0,3] [4] (on2 (zd3.l2 C N Q)) r (λY1 s h r=>e1 r)))) (λs h r=>e1 r)))
theorem zd3.imp:zd3.Imp (AC P) N:=λa h Q r=>eF mixed (fn:=Tryz.f20) (λk=>zd3.L k (dn Q) (zby [a]) h r)
def zc8.I:Bx:=⟨[1],[7,19,29,41,50,62],66,[(9,pz [] 21)]⟩
theorem zc8.L:LkT P zc8.I Tryz.f21 λC Q s h=>zc8.cps C N (s 0) h Q:=λ{C} k Q s h r=>eT k (λs h=>zd (zc8.l5 C N Q (s 67)) [(.int .i64 0),(.int .i64 0)] h) r (λs h r=>eT k (λs h=>zd (zc8.l5 C N Q (s 67)) [(s 3),(.int .i64 0)] h) r (λs h r=>eS k (λs h=>zd (zc8.l3 C N Q (s 67)) [(s 3),(.int .i64 0)] h) (eT k (λs h=>zd (zc8.l5 C N Q (s 67)) [(s 3),(s 4)] h) r (λs h r=>eK (eL k [67] [3,4] (on1 (zc8.l5 C N Q)) r (λY2 s h r=>e1 r)))) (λs h r=>eS k (λs h=>zc8.k1 C N Q (s 3) (s 67) h) (eT k (λs h=>zd (zc8.l3 C N Q (s 67)) [(s 3),(s 5)] h) r (λs h r=>eK (eL k [67] [3,5] (on1 (zc8.l3 C N Q)) r (λY1 s h r=>e1 r)))) (λs h r=>e1 r))))
theorem zc8.imp:zc8.Imp (AC P) N:=λa h Q r=>eF mixed (fn:=Tryz.f21) (λk=>zc8.L k (dn Q) (zby [a]) h r)
def zfk.I:Bx:=⟨[1,2],[3,6,7,10,11,14],16,[]⟩
theorem zfk.L:LkT P zfk.I Tryz.f22 λC Q s h=>zfk.cps C N (s 0) h Q:=λ{C} k Q s h r=>e1 r
theorem zfk.imp:zfk.Imp (AC P) N:=λa h Q r=>eF mixed (fn:=Tryz.f22) (λk=>zfk.L k (dn Q) (zby [a]) h r)
def zq.I:Bx:=⟨[2],[8,18,29,41,51,57,59,71,77,79],96,[(19,pz [] 11),(25,pz [] 11)]⟩
theorem zq.L:LkT P zq.I Tryz.f23 λC Q s h=>zq.cps C N (s 0) (s 1) h Q:=λ{C} k Q s h r=>eT k (λs h=>zq.k11 C N Q (s 3) (s 98) h) r (λs h r=>eT k (λs h=>B.pv (V.fieldAddr 0 (s 3)) λa=>B.ld h a λb=>zq.k10 C N Q (s 3) (s 5) b (s 98) h) r (λs h r=>eS k (λs h=>zq.k1 C N Q (s 3) h) (eT k (λs h=>zq.k10 C N Q (s 3) (s 5) (s 13) (s 98) h) r (λs h r=>eK (eT k (λs h=>B.cond (s 14) (zq.k2 C N Q (s 3) (s 5) (s 98) h) (B.pv (V.bin .eql (s 13) (.int .u8 9)) λc=>B.cond c (zq.k3 C N Q (s 3) (s 5) (s 98) h) (zq.k9 C N Q (s 3) (s 5) (s 13) (s 98) h))) r (λs h r=>eC 14 r (λr=>e1 r) (λr=>eT k (λs h=>B.cond (s 26) (zq.k3 C N Q (s 3) (s 5) (s 98) h) (zq.k9 C N Q (s 3) (s 5) (s 13) (s 98) h)) r (λs h r=>eC 26 r (λr=>e1 r) (λr=>eT k (λs h=>B.cond (s 37) (zq.k4 C N Q (s 3) (s 5) (s 98) h) (zq.k8 C N Q (s 3) (s 13) (s 98) h)) r (λs h r=>eC 37 r (λr=>e1 r) (λr=>eT k (λs h=>B.cond (s 47) (zq.k5 C N Q (s 3) (s 98) h) (zq.k7 C N Q (s 3) (s 13) (s 98) h)) r (λs h r=>eC 47 r (λr=>e1 r) (λr=>eT k (λs h=>zq.k6 C N Q (s 3) (s 67) (s 98) h) r (λs h r=>e1 r)))))))))))) (λs h r=>e1 r)))
theorem zq.imp:zq.Imp (AC P) N:=λa b h Q r=>eF mixed (fn:=Tryz.f23) (λk=>zq.L k (dn Q) (zby [a,b]) h r)
def zci.I:Bx:=⟨[2,4,5,7,9,11],[12,14,16,19,27,30,33,36,37,38,43,45,53,56,61,63,71,74,79],82,[(6,[(0,[]),(1,[]),(3,[]),(4,[]),(2,[4]),(6,[]),(5,[]),(7,[]),(8,[]),(9,[])])]⟩
theorem zci.L:LkT P zci.I Tryz.f24 λC Q s h=>zci.cps C N (s 0) (s 1) h Q:=λ{C} k Q s h r=>eT k (λs h=>zci.k7 C N Q (s 1) (s 84) (s 86) h) r (λs h r=>eT k (λs h=>B.al (s 84) (B.pv (V.zb9 3 (s 84)) λa=>B.pv (V.zbg a) λd=>zd (zci.l6 C N Q (s 1) a d (s 84) (s 86)) [(.int .i64 0),(s 87)] h)) r (λs h r=>eS k (λs h=>B.al (s 84) (B.pv (V.zb9 4 (s 84)) λb=>B.pv (V.zbg b) λe=>zd (zci.l4 C N Q (s 1) b e (s 84) (s 86)) [(.int .i64 0),(s 87)] h)) (eT k (λs h=>zd (zci.l6 C N Q (s 1) (s 20) (s 21) (s 84) (s 86)) [(s 22),(s 87)] h) r (λs h r=>eK (eL k [1,20,21,84,86] [22,87] (on5 (zci.l6 C N Q)) r (λY3 s h r=>e1 r)))) (λs h r=>eS k (λs h=>B.al (s 84) (B.pv (V.zb9 5 (s 84)) λc=>B.pv (V.zbg c) λf=>zd (zci.l2 C N Q (s 1) c f (s 86)) [(.int .i64 0),(s 87)] h)) (eT k (λs h=>zd (zci.l4 C N Q (s 1) (s 46) (s 47) (s 84) (s 86)) [(s 48),(s 87)] h) r (λs h r=>eK (eL k [1,46,47,84,86] [48,87] (on5 (zci.l4 C N Q)) r (λY2 s h r=>e1 r)))) (λs h r=>eS k (λs h=>B.pv (V.zfp 0 6 (s 87)) λg=>B.pv (V.zqy 0 6 g (s 86)) λi=>B.pv (oneOf (zm5 (V.zfp 0 6 i) (some []))) λv=>Q v h) (eT k (λs h=>zd (zci.l2 C N Q (s 1) (s 64) (s 65) (s 86)) [(s 66),(s 87)] h) r (λs h r=>eK (eL k [1,64,65,86] [66,87] (on4 (zci.l2 C N Q)) r (λY1 s h r=>e1 r)))) (λs h r=>e1 r)))))
theorem zci.imp:zci.Imp (AC P) N:=λa b h Q r=>eF mixed (fn:=Tryz.f24) (λk=>zci.L k (dn Q) (zby [a,b]) h r)
def zfl.I:Bx:=⟨[2,3],[9,11,16,18,23,25],29,[]⟩
theorem zfl.L:LkT P zfl.I Tryz.f25 λC Q s h=>zfl.cps C N (s 0) (s 1) h Q:=λ{C} k Q s h r=>e1 r
theorem zfl.imp:zfl.Imp (AC P) N:=λa b h Q r=>eF mixed (fn:=Tryz.f25) (λk=>zfl.L k (dn Q) (zby [a,b]) h r)
def zfh.I:Bx:=⟨[1],[2,5,8],11,[]⟩
theorem zfh.L:LkT P zfh.I Tryz.f26 λC Q s h=>zfh.cps C N (s 0) h Q:=λ{C} k Q s h r=>e1 r
theorem zfh.imp:zfh.Imp (AC P) N:=λa h Q r=>eF mixed (fn:=Tryz.f26) (λk=>zfh.L k (dn Q) (zby [a]) h r)
def zu.I:Bx:=⟨[2,3],[10,13,16,30,32,42,44,55,57,66,72,78,81,83,97,103,109,112,114],123,[(2,[(0,[]),(1,[]),(3,[]),(4,[]),(2,[4]),(5,[]),(6,[])]),(29,pz [] 9),(30,pz [] 11),(38,pz [] 9),(39,pz [] 11)]⟩
theorem zu.L:LkT P zu.I Tryz.f27 λC Q s h=>zu.cps C N (s 0) (s 1) h Q:=λ{C} k Q s h r=>eT k (λs h=>B.zhb h (zer [(0,none,(.str [42]))] (zgc 1 [.str []])) λc h=>zu.k13 C N Q (.sl c 0 0 1 1 1) (s 125) (s 126) h) r (λs h r=>eT k (λs h=>zu.k13 C N Q (s 5) (s 125) (s 126) h) r (λs h r=>eT k (λs h=>B.al (s 126) (B.pv (V.zb9 0 (s 126)) λa=>zu.k12 C N Q (s 5) (s 6) a (s 125) (s 126) h)) r (λs h r=>eS k (λs h=>Q .zbp h) (eT k (λs h=>zu.k12 C N Q (s 5) (s 6) (s 17) (s 125) (s 126) h) r (λs h r=>eK (eT k (λs h=>B.cond (s 18) (Q (s 5) h) (zu.k11 C N Q (s 5) (s 6) (s 17) (s 125) (s 126) h)) r (λs h r=>eC 18 r (λr=>e1 r) (λr=>eT k (λs h=>B.cond (s 24) (zu.k1 C N Q (s 5) (s 6) (s 125) (s 126) h) (B.pv (V.bin .eql (s 17) (.int .u8 9)) λb=>B.cond b (zu.k2 C N Q (s 5) (s 6) (s 125) (s 126) h) (zu.k10 C N Q (s 5) (s 6) (s 17) (s 125) (s 126) h))) r (λs h r=>eC 24 r (λr=>e1 r) (λr=>eT k (λs h=>B.cond (s 37) (zu.k2 C N Q (s 5) (s 6) (s 125) (s 126) h) (zu.k10 C N Q (s 5) (s 6) (s 17) (s 125) (s 126) h)) r (λs h r=>eC 37 r (λr=>e1 r) (λr=>eT k (λs h=>B.cond (s 49) (zu.k3 C N Q (s 5) (s 6) (s 125) (s 126) h) (zu.k9 C N Q (s 5) (s 17) (s 125) (s 126) h)) r (λs h r=>eC 49 r (λr=>e1 r) (λr=>eT k (λs h=>B.cond (s 61) (zd (zu.l5 C N Q (s 5) (s 125) (s 126)) [(.int .i64 0)] h) (zu.k8 C N Q (s 5) (s 17) (s 125) (s 126) h)) r (λs h r=>eC 61 r (λr=>eS k (λs h=>Q (s 5) h) (eT k (λs h=>zd (zu.l5 C N Q (s 5) (s 125) (s 126)) [(s 7)] h) r (λs h r=>eK (eL k [5,125,126] [7] (on3 (zu.l5 C N Q)) r (λY1 s h r=>e1 r)))) (λs h r=>e1 r)) (λr=>eT k (λs h=>B.cond (s 92) (zd (zu.l7 C N Q (s 5) (s 125) (s 126)) [(.int .i64 0)] h) (Q .zbp h)) r (λs h r=>eC 92 r (λr=>eS k (λs h=>Q (s 5) h) (eT k (λs h=>zd (zu.l7 C N Q (s 5) (s 125) (s 126)) [(s 8)] h) r (λs h r=>eK (eL k [5,125,126] [8] (on3 (zu.l7 C N Q)) r (λY2 s h r=>e1 r)))) (λs h r=>e1 r)) (λr=>e1 r))))))))))))))) (λs h r=>e1 r))))
theorem zu.imp:zu.Imp (AC P) N:=λa b h Q r=>eF mixed (fn:=Tryz.f27) (λk=>zu.L k (dn Q) (zby [a,b]) h r)
def zem.I:Bx:=⟨[2,3],[5,7,11,13,18,20,25,27,32,34,39,41],45,[]⟩
theorem zem.L:LkT P zem.I Tryz.f28 λC Q s h=>zem.cps C N (s 0) (s 1) h Q:=λ{C} k Q s h r=>e1 r
theorem zem.imp:zem.Imp (AC P) N:=λa b h Q r=>eF mixed (fn:=Tryz.f28) (λk=>zem.L k (dn Q) (zby [a,b]) h r)
def zcy.I:Bx:=⟨[2,4,5,7],[10,12,14,18,25,32,38,41,43,46,47,52,54,61,68,70,77,79,86,93,95,102],104,[(14,pz [] 11),(19,pz [] 11)]⟩
theorem zcy.L:LkT P zcy.I Tryz.f29 λC Q s h=>zcy.cps C N (s 0) (s 1) h Q:=λ{C} k Q s h r=>eT k (λs h=>zcy.k7 C N Q (s 1) (s 106) (s 108) h) r (λs h r=>eT k (λs h=>zd (zcy.l6 C N Q (s 1) (s 106) (s 108)) [(.int .i64 0),(s 109)] h) r (λs h r=>eS k (λs h=>zd (zcy.l4 C N Q (s 1) (s 106) (s 108)) [(.int .i64 0),(s 109)] h) (eT k (λs h=>zd (zcy.l6 C N Q (s 1) (s 106) (s 108)) [(s 6),(s 109)] h) r (λs h r=>eK (eL k [1,106,108] [6,109] (on3 (zcy.l6 C N Q)) r (λY3 s h r=>e1 r)))) (λs h r=>eS k (λs h=>zd (zcy.l2 C N Q (s 1) (s 106) (s 108)) [(.int .i64 0),(s 109)] h) (eT k (λs h=>zd (zcy.l4 C N Q (s 1) (s 106) (s 108)) [(s 8),(s 109)] h) r (λs h r=>eK (eL k [1,106,108] [8,109] (on3 (zcy.l4 C N Q)) r (λY2 s h r=>e1 r)))) (λs h r=>eS k (λs h=>B.pv (V.zfp 0 6 (s 109)) λa=>B.pv (V.zqy 0 6 a (s 108)) λb=>B.pv (oneOf (zm5 (V.zfp 0 6 b) (some []))) λv=>Q v h) (eT k (λs h=>zd (zcy.l2 C N Q (s 1) (s 106) (s 108)) [(s 9),(s 109)] h) r (λs h r=>eK (eL k [1,106,108] [9,109] (on3 (zcy.l2 C N Q)) r (λY1 s h r=>e1 r)))) (λs h r=>e1 r)))))
theorem zcy.imp:zcy.Imp (AC P) N:=λa b h Q r=>eF mixed (fn:=Tryz.f29) (λk=>zcy.L k (dn Q) (zby [a,b]) h r)
def zdz.I:Bx:=⟨[],[],21,[]⟩
theorem zdz.L:LkT P zdz.I Tryz.f30 λC Q s h=>zdz.cps C N (s 0) h Q:=λ{C} k Q s h r=>eT k (λs h=>zdz.k3 C N Q (s 0) h) r (λs h r=>eT k (λs h=>zd (zdz.l2 C N Q (s 0) (s 3)) [(.int .i64 0)] h) r (λs h r=>eS k (λs h=>B.call C (N 62) [(s 3)] h λa h=>Q a h) (eT k (λs h=>zd (zdz.l2 C N Q (s 0) (s 3)) [(s 4)] h) r (λs h r=>eK (eL k [0,3] [4] (on2 (zdz.l2 C N Q)) r (λY1 s h r=>e1 r)))) (λs h r=>e1 r)))
theorem zdz.imp:zdz.Imp (AC P) N:=λa h Q r=>eF mixed (fn:=Tryz.f30) (λk=>zdz.L k (dn Q) (zby [a]) h r)
def zgi.I:Bx:=⟨[],[],10,[]⟩
theorem zgi.L:LkT P zgi.I Tryz.f31 λC Q s h=>zgi.cps C N h Q:=λ{C} k Q s h r=>e1 r
theorem zgi.imp:zgi.Imp (AC P) N:=λh Q r=>eF mixed (fn:=Tryz.f31) (λk=>zgi.L k (dn Q) (zby []) h r)
def zce.I:Bx:=⟨[],[],95,[(5,pz [] 25)]⟩
theorem zce.L:LkT P zce.I Tryz.f32 λC Q s h=>zce.cps C N (s 0) h Q:=λ{C} k Q s h r=>eT k (λs h=>zd (zce.l7 C N Q (s 0)) [(.int .i64 0),(.int .i64 0)] h) r (λs h r=>eT k (λs h=>zd (zce.l7 C N Q (s 0)) [(s 3),(.int .i64 0)] h) r (λs h r=>eS k (λs h=>Q (s 3) h) (eT k (λs h=>zd (zce.l7 C N Q (s 0)) [(s 3),(s 4)] h) r (λs h r=>eK (eL k [0] [3,4] (on1 (zce.l7 C N Q)) r (λY1 s h r=>eT k (λs h=>zce.k5 C N Q Y1 (s 0) (s 3) (s 4) h) r (λs h r=>eS k (λs h=>B.pv (V.bin .add (s 4) (.int .i64 1)) λa=>Y1 [(s 3),a] h) (eK (eT k (λs h=>zd (zce.l4 C N Q Y1 (s 0) (s 4)) [(s 3),(.int .i64 0)] h) r (λs h r=>eS k (λs h=>zd (zce.l2 C N Q Y1 (s 0) (s 4)) [(s 3),(.int .i64 0)] h) (eT k (λs h=>zd (zce.l4 C N Q Y1 (s 0) (s 4)) [(s 3),(s 5)] h) r (λs h r=>eK (eL k [0,4] [3,5] (on2 (zce.l4 C N Q Y1)) r (λY3 s h r=>e1 r)))) (λs h r=>eT k (λs h=>zd (zce.l2 C N Q Y1 (s 0) (s 4)) [(s 3),(s 6)] h) r (λs h r=>eK (eL k [0,4] [3,6] (on2 (zce.l2 C N Q Y1)) r (λY2 s h r=>e1 r))))))) (λs h r=>e1 r)))))) (λs h r=>e1 r)))
theorem zce.imp:zce.Imp (AC P) N:=λa h Q r=>eF mixed (fn:=Tryz.f32) (λk=>zce.L k (dn Q) (zby [a]) h r)
def zf3.I:Bx:=⟨[1,2],[3,6,7,10],12,[]⟩
theorem zf3.L:LkT P zf3.I Tryz.f33 λC Q s h=>zf3.cps C N (s 0) h Q:=λ{C} k Q s h r=>e1 r
theorem zf3.imp:zf3.Imp (AC P) N:=λa h Q r=>eF mixed (fn:=Tryz.f33) (λk=>zf3.L k (dn Q) (zby [a]) h r)
def zfa.I:Bx:=⟨[4],[],9,[]⟩
theorem zfa.L:LkT P zfa.I Tryz.f34 λC Q s h=>zfa.cps C N (s 0) (s 1) h Q:=λ{C} k Q s h r=>e1 r
theorem zfa.imp:zfa.Imp (AC P) N:=λa b h Q r=>eF mixed (fn:=Tryz.f34) (λk=>zfa.L k (dn Q) (zby [a,b]) h r)
def ze7.I:Bx:=⟨[],[],23,[]⟩
theorem ze7.L:LkT P ze7.I Tryz.f35 λC Q s h=>ze7.cps C N (s 0) (s 1) h Q:=λ{C} k Q s h r=>e1 r
theorem ze7.imp:ze7.Imp (AC P) N:=λa b h Q r=>eF mixed (fn:=Tryz.f35) (λk=>ze7.L k (dn Q) (zby [a,b]) h r)
def zx.I:Bx:=⟨[6,10,12],[23,25,36,44,46,50,58],66,[(23,pz [] 4)]⟩
theorem zx.L:LkT P zx.I Tryz.f36 λC Q s h=>zx.cps C N (s 0) h Q:=λ{C} k Q s h r=>eT k (λs h=>zx.k13 C N Q (s 0) h) r (λs h r=>eT k (λs h=>B.pv (V.zbg (s 0)) λd=>zd (zx.l12 C N Q (s 0) (s 4) (s 0) d) [(.int .i64 0)] h) r (λs h r=>eS k (λs h=>zx.k10 C N Q (s 0) (s 4) h) (eT k (λs h=>zd (zx.l12 C N Q (s 0) (s 4) (s 16) (s 17)) [(s 18)] h) r (λs h r=>eK (eL k [0,4,16,17] [18] (on4 (zx.l12 C N Q)) r (λY4 s h r=>e1 r)))) (λs h r=>eT k (λs h=>B.pv (V.zbg (s 0)) λa=>zd (zx.l9 C N Q (s 4) (s 7) (.fn (N 576) [] [(s 4),(s 7)]) (s 0) a) [(.int .i64 0)] h) r (λs h r=>eT k (λs h=>B.pv (V.zbg (s 0)) λa=>zd (zx.l9 C N Q (s 4) (s 7) (s 8) (s 0) a) [(.int .i64 0)] h) r (λs h r=>eS k (λs h=>B.ld h (s 4) λb=>B.ld h (s 7) λc=>Q (.tup [b,c]) h) (eT k (λs h=>zd (zx.l9 C N Q (s 4) (s 7) (s 8) (s 30) (s 31)) [(s 32)] h) r (λs h r=>eK (eL k [4,7,8,30,31] [32] (on5 (zx.l9 C N Q)) r (λY1 s h r=>eT k (λs h=>B.cond (s 33) (zx.k7 C N Q Y1 (s 4) (s 7) (s 8) (s 30) (s 31) (s 32) h) (B.ld h (s 4) λb=>B.ld h (s 7) λc=>Q (.tup [b,c]) h)) r (λs h r=>eT k (λs h=>zx.k7 C N Q Y1 (s 4) (s 7) (s 8) (s 30) (s 31) (s 32) h) r (λs h r=>eS k (λs h=>B.pv (V.bin .add (s 32) (.int .i64 1)) λe=>Y1 [e] h) (eK (eT k (λs h=>zx.k6 C N Q Y1 (s 4) (s 7) (s 8) (s 30) (s 31) (s 32) (s 76) h) r (λs h r=>eS k (λs h=>zx.k3 C N Q Y1 (s 4) (s 7) (s 8) (s 30) (s 31) (s 32) (s 76) h) (eT k (λs h=>zd (zx.l5 C N Q Y1 (s 4) (s 7) (s 8) (s 30) (s 31) (s 32) (s 37) (s 38) (s 76)) [(s 39)] h) r (λs h r=>eK (eL k [4,7,8,30,31,32,37,38,76] [39] (on9 (zx.l5 C N Q Y1)) r (λY3 s h r=>e1 r)))) (λs h r=>eT k (λs h=>zd (zx.l2 C N Q Y1 (s 4) (s 7) (s 8) (s 30) (s 31) (s 32) (s 51) (s 52) (s 76)) [(s 53)] h) r (λs h r=>eK (eL k [4,7,8,30,31,32,51,52,76] [53] (on9 (zx.l2 C N Q Y1)) r (λY2 s h r=>e1 r))))))) (λs h r=>e1 r))))))) (λs h r=>e1 r))))))
theorem zx.imp:zx.Imp (AC P) N:=λa h Q r=>eF mixed (fn:=Tryz.f36) (λk=>zx.L k (dn Q) (zby [a]) h r)
def zb5.I:Bx:=⟨[],[],11,[]⟩
theorem zb5.L:LkT P zb5.I Tryz.f37 λC Q s h=>zb5.cps C N (s 0) h Q:=λ{C} k Q s h r=>e1 r
theorem zb5.imp:zb5.Imp (AC P) N:=λa h Q r=>eF mixed (fn:=Tryz.f37) (λk=>zb5.L k (dn Q) (zby [a]) h r)
def zbt.I:Bx:=⟨[],[],8,[]⟩
theorem zbt.L:LkT P zbt.I Tryz.f38 λC Q s h=>zbt.cps C N (s 0) h Q:=λ{C} k Q s h r=>e1 r
theorem zbt.imp:zbt.Imp (AC P) N:=λa h Q r=>eF mixed (fn:=Tryz.f38) (λk=>zbt.L k (dn Q) (zby [a]) h r)
def zb2.I:Bx:=⟨[],[],14,[]⟩
theorem zb2.L:LkT P zb2.I Tryz.f39 λC Q s h=>zb2.cps C N (s 0) (s 1) h Q:=λ{C} k Q s h r=>e1 r
theorem zb2.imp:zb2.Imp (AC P) N:=λa b h Q r=>eF mixed (fn:=Tryz.f39) (λk=>zb2.L k (dn Q) (zby [a,b]) h r)
def zgt.I:Bx:=⟨[],[],8,[]⟩
theorem zgt.L:LkT P zgt.I Tryz.f40 λC Q s h=>zgt.cps C N (s 0) (s 1) h Q:=λ{C} k Q s h r=>e1 r
theorem zgt.imp:zgt.Imp (AC P) N:=λa b h Q r=>eF mixed (fn:=Tryz.f40) (λk=>zgt.L k (dn Q) (zby [a,b]) h r)
def zbz.I:Bx:=⟨[],[],36,[]⟩
theorem zbz.L:LkT P zbz.I Tryz.f41 λC Q s h=>zbz.cps C N (s 0) (s 1) h Q:=λ{C} k Q s h r=>eT k (λs h=>B.pv (V.zbg (s 0)) λa=>zd (zfq.l3 C (zc3 16 (.str []) 0) (N 580) Q (s 0) (s 1) (s 0) a) [(.int .i64 0)] h) r (λs h r=>eS k (λs h=>zfq.k1 C (zc3 16 (.str []) 0) (N 580) Q (s 0) (s 1) h) (eT k (λs h=>zd (zfq.l3 C (zc3 16 (.str []) 0) (N 580) Q (s 0) (s 1) (s 9) (s 10)) [(s 11)] h) r (λs h r=>eK (eL k [0,1,9,10] [11] (on4 (zfq.l3 C (zc3 16 (.str []) 0) (N 580) Q)) r (λY1 s h r=>e1 r)))) (λs h r=>e1 r))
theorem zbz.imp:zbz.Imp (AC P) N:=λa b h Q r=>eF mixed (fn:=Tryz.f41) (λk=>zbz.L k (dn Q) (zby [a,b]) h r)
def zbv.I:Bx:=⟨[],[],61,[(6,pz [] 10),(11,pz [] 10)]⟩
theorem zbv.L:LkT P zbv.I Tryz.f42 λC Q s h=>zbv.cps C N (s 0) h Q:=λ{C} k Q s h r=>eT k (λs h=>zc6.k5 C (zc3 16 (.str []) 0) Q (s 0) h) r (λs h r=>eT k (λs h=>zd (zc6.l4 C (zc3 16 (.str []) 0) Q (s 0)) [(.int .i64 1)] h) r (λs h r=>eS k (λs h=>Q (s 0) h) (eT k (λs h=>zd (zc6.l4 C (zc3 16 (.str []) 0) Q (s 0)) [(s 3)] h) r (λs h r=>eK (eL k [0] [3] (on1 (zc6.l4 C (zc3 16 (.str []) 0) Q)) r (λY1 s h r=>eT k (λs h=>zc6.k3 C (zc3 16 (.str []) 0) Q Y1 (s 0) (s 3) h) r (λs h r=>eS k (λs h=>B.pv (V.bin .add (s 3) (.int .i64 1)) λa=>Y1 [a] h) (eK (eT k (λs h=>B.cond (s 25) (B.pv (V.zhn (zc3 16 (.str []) 0).es (s 0) (some (s 3)) none) λb=>zd (zc6.l2 C (zc3 16 (.str []) 0) Q Y1 (s 0) b) [(s 3),(.int .i64 1)] h) (B.pv (V.bin .add (s 3) (.int .i64 1)) λa=>Y1 [a] h)) r (λs h r=>eC 25 r (λr=>eT k (λs h=>zd (zc6.l2 C (zc3 16 (.str []) 0) Q Y1 (s 0) (s 4)) [(s 3),(.int .i64 1)] h) r (λs h r=>eS k (λs h=>B.pv (V.zhn (zc3 16 (.str []) 0).es (s 0) (some (s 3)) none) λc=>B.clr h (zc3 16 (.str []) 0).z c λ_ h=>B.pv (V.zhn (zc3 16 (.str []) 0).es (s 0) none (some (s 3))) λd=>Q d h) (eT k (λs h=>zd (zc6.l2 C (zc3 16 (.str []) 0) Q Y1 (s 0) (s 4)) [(s 3),(s 5)] h) r (λs h r=>eK (eL k [0,4] [3,5] (on2 (zc6.l2 C (zc3 16 (.str []) 0) Q Y1)) r (λY2 s h r=>e1 r)))) (λs h r=>e1 r))) (λr=>e1 r)))) (λs h r=>e1 r)))))) (λs h r=>e1 r)))
theorem zbv.imp:zbv.Imp (AC P) N:=λa h Q r=>eF mixed (fn:=Tryz.f42) (λk=>zbv.L k (dn Q) (zby [a]) h r)
def zf4.I:Bx:=⟨[2,3],[9,11,16,18],22,[]⟩
theorem zf4.L:LkT P zf4.I Tryz.f43 λC Q s h=>zf4.cps C N (s 0) (s 1) h Q:=λ{C} k Q s h r=>e1 r
theorem zf4.imp:zf4.Imp (AC P) N:=λa b h Q r=>eF mixed (fn:=Tryz.f43) (λk=>zf4.L k (dn Q) (zby [a,b]) h r)
def zfb.I:Bx:=⟨[2,3],[5,7,11,13,18,20,25,27],31,[]⟩
theorem zfb.L:LkT P zfb.I Tryz.f44 λC Q s h=>zfb.cps C N (s 0) (s 1) h Q:=λ{C} k Q s h r=>e1 r
theorem zfb.imp:zfb.Imp (AC P) N:=λa b h Q r=>eF mixed (fn:=Tryz.f44) (λk=>zfb.L k (dn Q) (zby [a,b]) h r)
def zf2.I:Bx:=⟨[1],[2,5],8,[]⟩
theorem zf2.L:LkT P zf2.I Tryz.f45 λC Q s h=>zf2.cps C N (s 0) h Q:=λ{C} k Q s h r=>e1 r
theorem zf2.imp:zf2.Imp (AC P) N:=λa h Q r=>eF mixed (fn:=Tryz.f45) (λk=>zf2.L k (dn Q) (zby [a]) h r)
def zec.I:Bx:=⟨[],[],19,[]⟩
theorem zec.L:LkT P zec.I Tryz.f46 λC Q s h=>zec.cps C N (s 0) h Q:=λ{C} k Q s h r=>eT k (λs h=>zd (zec.l2 C N Q (s 0)) [.zbp,(.int .i64 0)] h) r (λs h r=>eT k (λs h=>zd (zec.l2 C N Q (s 0)) [(s 3),(.int .i64 0)] h) r (λs h r=>eS k (λs h=>Q (s 3) h) (eT k (λs h=>zd (zec.l2 C N Q (s 0)) [(s 3),(s 4)] h) r (λs h r=>eK (eL k [0] [3,4] (on1 (zec.l2 C N Q)) r (λY1 s h r=>e1 r)))) (λs h r=>e1 r)))
theorem zec.imp:zec.Imp (AC P) N:=λa h Q r=>eF mixed (fn:=Tryz.f46) (λk=>zec.L k (dn Q) (zby [a]) h r)
def zf0.I:Bx:=⟨[],[],18,[]⟩
theorem zf0.L:LkT P zf0.I Tryz.f47 λC Q s h=>zf0.cps C N (s 0) (s 1) h Q:=λ{C} k Q s h r=>eT k (λs h=>zd (zf0.l2 C N Q (s 0) (s 1)) [(.int .i64 0)] h) r (λs h r=>eS k (λs h=>Q (.bool false) h) (eT k (λs h=>zd (zf0.l2 C N Q (s 0) (s 1)) [(s 5)] h) r (λs h r=>eK (eL k [0,1] [5] (on2 (zf0.l2 C N Q)) r (λY1 s h r=>e1 r)))) (λs h r=>e1 r))
theorem zf0.imp:zf0.Imp (AC P) N:=λa b h Q r=>eF mixed (fn:=Tryz.f47) (λk=>zf0.L k (dn Q) (zby [a,b]) h r)
def zcb.I:Bx:=⟨[],[],54,[]⟩
theorem zcb.L:LkT P zcb.I Tryz.f48 λC Q s h=>zcb.cps C N (s 0) (s 1) h Q:=λ{C} k Q s h r=>eT k (λs h=>zcb.k7 C N Q (s 0) (s 1) h) r (λs h r=>eT k (λs h=>B.zhb h (zer [(0,none,(s 1))] (zgc 1 [.str []])) λa h=>zd (zcb.l6 C N Q (s 0) (s 5)) [(.sl a 0 0 1 1 1),(.int .i64 0)] h) r (λs h r=>eT k (λs h=>zd (zcb.l6 C N Q (s 0) (s 5)) [(s 6),(.int .i64 0)] h) r (λs h r=>eS k (λs h=>Q (s 6) h) (eT k (λs h=>zd (zcb.l6 C N Q (s 0) (s 5)) [(s 6),(s 7)] h) r (λs h r=>eK (eL k [0,5] [6,7] (on2 (zcb.l6 C N Q)) r (λY1 s h r=>eT k (λs h=>B.pv (V.zbg (s 6)) λb=>zd (zcb.l4 C N Q Y1 (s 0) (s 5) b) [(s 6),(.int .i64 0)] h) r (λs h r=>eK (eT k (λs h=>zd (zcb.l4 C N Q Y1 (s 0) (s 5) (s 7)) [(s 6),(.int .i64 0)] h) r (λs h r=>eT k (λs h=>zd (zcb.l4 C N Q Y1 (s 0) (s 5) (s 7)) [(s 6),(s 8)] h) r (λs h r=>eK (eL k [0,5,7] [6,8] (on3 (zcb.l4 C N Q Y1)) r (λY2 s h r=>eT k (λs h=>zcb.k3 C N Q Y1 Y2 (s 0) (s 5) (s 6) (s 7) (s 8) h) r (λs h r=>eS k (λs h=>B.pv (V.bin .add (s 8) (.int .i64 1)) λc=>Y2 [(s 6),c] h) (eK (eT k (λs h=>zd (zcb.l2 C N Q Y1 Y2 (s 0) (s 5) (s 7) (s 8) (s 9) (s 10)) [(s 6),(.int .i64 0)] h) r (λs h r=>eT k (λs h=>zd (zcb.l2 C N Q Y1 Y2 (s 0) (s 5) (s 7) (s 8) (s 9) (s 10)) [(s 6),(s 11)] h) r (λs h r=>eK (eL k [0,5,7,8,9,10] [6,11] (on6 (zcb.l2 C N Q Y1 Y2)) r (λY3 s h r=>e1 r)))))) (λs h r=>e1 r)))))))))))) (λs h r=>e1 r))))
theorem zcb.imp:zcb.Imp (AC P) N:=λa b h Q r=>eF mixed (fn:=Tryz.f48) (λk=>zcb.L k (dn Q) (zby [a,b]) h r)
def zeb.I:Bx:=⟨[],[],48,[]⟩
theorem zeb.L:LkT P zeb.I Tryz.f49 λC Q s h=>zeb.cps C N (s 0) (s 1) h Q:=λ{C} k Q s h r=>eT k (λs h=>zd (zeb.l3 C N Q (s 0) (s 1)) [(.int .i64 0)] h) r (λs h r=>eT k (λs h=>zd (zeb.l3 C N Q (s 0) (s 1)) [(s 5)] h) r (λs h r=>eS k (λs h=>zeb.k1 C N Q (s 0) (s 1) (s 5) h) (eK (eL k [0,1] [5] (on2 (zeb.l3 C N Q)) r (λY1 s h r=>e1 r))) (λs h r=>e1 r)))
theorem zeb.imp:zeb.Imp (AC P) N:=λa b h Q r=>eF mixed (fn:=Tryz.f49) (λk=>zeb.L k (dn Q) (zby [a,b]) h r)
def ze3.I:Bx:=⟨[],[],14,[]⟩
theorem ze3.L:LkT P ze3.I Tryz.f50 λC Q s h=>ze3.cps C N (s 0) (s 1) h Q:=λ{C} k Q s h r=>e1 r
theorem ze3.imp:ze3.Imp (AC P) N:=λa b h Q r=>eF mixed (fn:=Tryz.f50) (λk=>ze3.L k (dn Q) (zby [a,b]) h r)
def zeu.I:Bx:=⟨[],[],162,[]⟩
theorem zeu.L:LkT P zeu.I Tryz.f51 λC Q s h=>zeu.cps C N (s 0) h Q:=λ{C} k Q s h r=>e1 r
theorem zeu.imp:zeu.Imp (AC P) N:=λa h Q r=>eF mixed (fn:=Tryz.f51) (λk=>zeu.L k (dn Q) (zby [a]) h r)
def zfw.I:Bx:=⟨[],[],25,[]⟩
theorem zfw.L:LkT P zfw.I Tryz.f52 λC Q s h=>zfw.cps C N (s 0) h Q:=λ{C} k Q s h r=>eT k (λs h=>zfw.k3 C N Q (s 0) h) r (λs h r=>eT k (λs h=>B.ziw h 6 56 (s 3) (s 0) λa h=>zd (zoi.l4 C 6 56 (N 77) [.int .i64 0,.str [],.int .i64 0,.int .i64 0,.int .i64 0,.bool false] 1 Q (s 0)) [a,(.int .i64 0)] h) r (λs h r=>eT k (λs h=>zd (zoi.l4 C 6 56 (N 77) [.int .i64 0,.str [],.int .i64 0,.int .i64 0,.int .i64 0,.bool false] 1 Q (s 0)) [(s 3),(.int .i64 0)] h) r (λs h r=>eS k (λs h=>B.pv (V.zbg (s 0)) λb=>B.pv (V.zhn 6 (s 3) none (some b)) λc=>Q c h) (eT k (λs h=>zd (zoi.l4 C 6 56 (N 77) [.int .i64 0,.str [],.int .i64 0,.int .i64 0,.int .i64 0,.bool false] 1 Q (s 0)) [(s 3),(s 4)] h) r (λs h r=>eK (eL k [0] [3,4] (on1 (zoi.l4 C 6 56 (N 77) [.int .i64 0,.str [],.int .i64 0,.int .i64 0,.int .i64 0,.bool false] 1 Q)) r (λY1 s h r=>e1 r)))) (λs h r=>e1 r))))
theorem zfw.imp:zfw.Imp (AC P) N:=λa h Q r=>eF mixed (fn:=Tryz.f52) (λk=>zfw.L k (dn Q) (zby [a]) h r)
def zez.I:Bx:=⟨[],[],25,[]⟩
theorem zez.L:LkT P zez.I Tryz.f53 λC Q s h=>zez.cps C N (s 0) h Q:=λ{C} k Q s h r=>eT k (λs h=>zez.k3 C N Q (s 0) h) r (λs h r=>eT k (λs h=>B.ziw h 8 80 (s 3) (s 0) λa h=>zd (zoi.l4 C 8 80 (N 111) [.int .i64 0,.str [],.int .i64 0,.int .i64 0,.int .i64 0,.int .u8 0,.int .i64 0,.str []] 1 Q (s 0)) [a,(.int .i64 0)] h) r (λs h r=>eT k (λs h=>zd (zoi.l4 C 8 80 (N 111) [.int .i64 0,.str [],.int .i64 0,.int .i64 0,.int .i64 0,.int .u8 0,.int .i64 0,.str []] 1 Q (s 0)) [(s 3),(.int .i64 0)] h) r (λs h r=>eS k (λs h=>B.pv (V.zbg (s 0)) λb=>B.pv (V.zhn 8 (s 3) none (some b)) λc=>Q c h) (eT k (λs h=>zd (zoi.l4 C 8 80 (N 111) [.int .i64 0,.str [],.int .i64 0,.int .i64 0,.int .i64 0,.int .u8 0,.int .i64 0,.str []] 1 Q (s 0)) [(s 3),(s 4)] h) r (λs h r=>eK (eL k [0] [3,4] (on1 (zoi.l4 C 8 80 (N 111) [.int .i64 0,.str [],.int .i64 0,.int .i64 0,.int .i64 0,.int .u8 0,.int .i64 0,.str []] 1 Q)) r (λY1 s h r=>e1 r)))) (λs h r=>e1 r))))
theorem zez.imp:zez.Imp (AC P) N:=λa h Q r=>eF mixed (fn:=Tryz.f53) (λk=>zez.L k (dn Q) (zby [a]) h r)
def zbc.I:Bx:=⟨[],[],9,[]⟩
theorem zbc.L:LkT P zbc.I Tryz.f54 λC Q s h=>zbc.cps C N (s 0) (s 1) h Q:=λ{C} k Q s h r=>e1 r
theorem zbc.imp:zbc.Imp (AC P) N:=λa b h Q r=>eF mixed (fn:=Tryz.f54) (λk=>zbc.L k (dn Q) (zby [a,b]) h r)
def zfo.I:Bx:=⟨[2],[4],9,[]⟩
theorem zfo.L:LkT P zfo.I Tryz.f55 λC Q s h=>zfo.cps C N (s 0) (s 1) h Q:=λ{C} k Q s h r=>e1 r
theorem zfo.imp:zfo.Imp (AC P) N:=λa b h Q r=>eF mixed (fn:=Tryz.f55) (λk=>zfo.L k (dn Q) (zby [a,b]) h r)
def zf5.I:Bx:=⟨[],[],15,[]⟩
theorem zf5.L:LkT P zf5.I Tryz.f56 λC Q s h=>zf5.cps C N (s 0) (s 1) h Q:=λ{C} k Q s h r=>e1 r
theorem zf5.imp:zf5.Imp (AC P) N:=λa b h Q r=>eF mixed (fn:=Tryz.f56) (λk=>zf5.L k (dn Q) (zby [a,b]) h r)
def zbd.I:Bx:=⟨[],[],19,[]⟩
abbrev zbd.E:z6:=zth 6 56 [.int .i64 0,.str [],.int .i64 0,.int .i64 0,.int .i64 0,.bool false] 0 []
theorem zbd.L:LkT P zbd.I Tryz.f57 λC Q s h=>zbd.cps C N (s 0) (s 1) h Q:=λ{C} k Q s h r=>eT k (λs h=>B.pv (V.zbg (s 0)) λa=>zd (zcn.l2 C zbd.E Q (s 0) (s 1) a) [(.int .i64 0)] h) r (λs h r=>eS k (λs h=>Q (.int .i64 (-1)) h) (eT k (λs h=>zd (zcn.l2 C zbd.E Q (s 0) (s 1) (s 7)) [(s 8)] h) r (λs h r=>eK (eL k [0,1,7] [8] (on3 (zcn.l2 C zbd.E Q)) r (λY1 s h r=>e1 r)))) (λs h r=>e1 r))
theorem zbd.imp:zbd.Imp (AC P) N:=λa b h Q r=>eF mixed (fn:=Tryz.f57) (λk=>zbd.L k (dn Q) (zby [a,b]) h r)
def zfn.I:Bx:=⟨[2],[4],9,[]⟩
theorem zfn.L:LkT P zfn.I Tryz.f58 λC Q s h=>zfn.cps C N (s 0) (s 1) h Q:=λ{C} k Q s h r=>e1 r
theorem zfn.imp:zfn.Imp (AC P) N:=λa b h Q r=>eF mixed (fn:=Tryz.f58) (λk=>zfn.L k (dn Q) (zby [a,b]) h r)
def z7.I:Bx:=⟨[],[],19,[]⟩
abbrev z7.E:z6:=zth 8 80 [.int .i64 0,.str [],.int .i64 0,.int .i64 0,.int .i64 0,.int .u8 0,.int .i64 0,.str []] 0 []
theorem z7.L:LkT P z7.I Tryz.f59 λC Q s h=>z7.cps C N (s 0) (s 1) h Q:=λ{C} k Q s h r=>eT k (λs h=>B.pv (V.zbg (s 0)) λa=>zd (zcn.l2 C z7.E Q (s 0) (s 1) a) [(.int .i64 0)] h) r (λs h r=>eS k (λs h=>Q (.int .i64 (-1)) h) (eT k (λs h=>zd (zcn.l2 C z7.E Q (s 0) (s 1) (s 7)) [(s 8)] h) r (λs h r=>eK (eL k [0,1,7] [8] (on3 (zcn.l2 C z7.E Q)) r (λY1 s h r=>e1 r)))) (λs h r=>e1 r))
theorem z7.imp:z7.Imp (AC P) N:=λa b h Q r=>eF mixed (fn:=Tryz.f59) (λk=>z7.L k (dn Q) (zby [a,b]) h r)
def zfm.I:Bx:=⟨[2],[4],9,[]⟩
theorem zfm.L:LkT P zfm.I Tryz.f60 λC Q s h=>zfm.cps C N (s 0) (s 1) h Q:=λ{C} k Q s h r=>e1 r
theorem zfm.imp:zfm.Imp (AC P) N:=λa b h Q r=>eF mixed (fn:=Tryz.f60) (λk=>zfm.L k (dn Q) (zby [a,b]) h r)
def zbw.I:Bx:=⟨[],[],9,[]⟩
theorem zbw.L:LkT P zbw.I Tryz.f61 λC Q s h=>zbw.cps C N (s 0) (s 1) h Q:=λ{C} k Q s h r=>e1 r
theorem zbw.imp:zbw.Imp (AC P) N:=λa b h Q r=>eF mixed (fn:=Tryz.f61) (λk=>zbw.L k (dn Q) (zby [a,b]) h r)
def zbx.I:Bx:=⟨[],[],8,[]⟩
theorem zbx.L:LkT P zbx.I Tryz.f62 λC Q s h=>zbx.cps C N (s 0) h Q:=λ{C} k Q s h r=>e1 r
theorem zbx.imp:zbx.Imp (AC P) N:=λa h Q r=>eF mixed (fn:=Tryz.f62) (λk=>zbx.L k (dn Q) (zby [a]) h r)
def zeq.I:Bx:=⟨[],[],58,[(7,pz [(30,[25])] 35)]⟩
theorem zeq.L:LkT P zeq.I Tryz.f63 λC Q s h=>zeq.cps C N (s 0) (s 1) h Q:=λ{C} k Q s h r=>eT k (λs h=>zeq.k4 C N Q (s 0) (s 1) h) r (λs h r=>eT k (λs h=>zeq.k3 C N Q (s 0) (s 1) h) r (λs h r=>eT k (λs h=>zd (zqa.l4 C 6 (N 77) [.i .i64,.s,.i .i64,.i .i64,.i .i64,.b] 1 Q (s 1) (s 5)) [(.int .i64 0)] h) r (λs h r=>eS k (λs h=>Q (.bool true) h) (eT k (λs h=>zd (zqa.l4 C 6 (N 77) [.i .i64,.s,.i .i64,.i .i64,.i .i64,.b] 1 Q (s 1) (s 5)) [(s 6)] h) r (λs h r=>eK (eL k [1,5] [6] (on2 (zqa.l4 C 6 (N 77) [.i .i64,.s,.i .i64,.i .i64,.i .i64,.b] 1 Q)) r (λY1 s h r=>e1 r)))) (λs h r=>e1 r))))
theorem zeq.imp:zeq.Imp (AC P) N:=λa b h Q r=>eF mixed (fn:=Tryz.f63) (λk=>zeq.L k (dn Q) (zby [a,b]) h r)
def zef.I:Bx:=⟨[],[],58,[(7,pz [(30,[25])] 35)]⟩
theorem zef.L:LkT P zef.I Tryz.f64 λC Q s h=>zef.cps C N (s 0) (s 1) h Q:=λ{C} k Q s h r=>eT k (λs h=>zef.k4 C N Q (s 0) (s 1) h) r (λs h r=>eT k (λs h=>zef.k3 C N Q (s 0) (s 1) h) r (λs h r=>eT k (λs h=>zd (zqa.l4 C 8 (N 111) [.i .i64,.s,.i .i64,.i .i64,.i .i64,.i .u8,.i .i64,.s] 1 Q (s 1) (s 5)) [(.int .i64 0)] h) r (λs h r=>eS k (λs h=>Q (.bool true) h) (eT k (λs h=>zd (zqa.l4 C 8 (N 111) [.i .i64,.s,.i .i64,.i .i64,.i .i64,.i .u8,.i .i64,.s] 1 Q (s 1) (s 5)) [(s 6)] h) r (λs h r=>eK (eL k [1,5] [6] (on2 (zqa.l4 C 8 (N 111) [.i .i64,.s,.i .i64,.i .i64,.i .i64,.i .u8,.i .i64,.s] 1 Q)) r (λY1 s h r=>e1 r)))) (λs h r=>e1 r))))
theorem zef.imp:zef.Imp (AC P) N:=λa b h Q r=>eF mixed (fn:=Tryz.f64) (λk=>zef.L k (dn Q) (zby [a,b]) h r)
def zf1.I:Bx:=⟨[],[],20,[]⟩
theorem zf1.L:LkT P zf1.I Tryz.f65 λC Q s h=>zf1.cps C N (s 0) h Q:=λ{C} k Q s h r=>eT k (λs h=>zd (znj.l3 C 6 (N 77) (λh p v K=>B.stn h p 6 v K) 2 Q (s 2)) [(.int .i64 0)] h) r (λs h r=>eT k (λs h=>zd (znj.l3 C 6 (N 77) (λh p v K=>B.stn h p 6 v K) 2 Q (s 2)) [(s 3)] h) r (λs h r=>eK (eL k [2] [3] (λkv lv h Y1=>match kv with|[a]=>znj.l3 C 6 (N 77) (λh p v K=>B.stn h p 6 v K) 2 Q a lv h Y1|_=>False) r (λY1 s h r=>e1 r))))
theorem zf1.imp:zf1.Imp (AC P) N:=λa h Q r=>eF mixed (fn:=Tryz.f65) (λk=>zf1.L k (dn Q) (zby [a]) h r)
def zfj.I:Bx:=⟨[],[],20,[]⟩
theorem zfj.L:LkT P zfj.I Tryz.f66 λC Q s h=>zfj.cps C N (s 0) h Q:=λ{C} k Q s h r=>eT k (λs h=>zd (znj.l3 C 8 (N 111) (λh p v K=>B.stn h p 8 v K) 2 Q (s 2)) [(.int .i64 0)] h) r (λs h r=>eT k (λs h=>zd (znj.l3 C 8 (N 111) (λh p v K=>B.stn h p 8 v K) 2 Q (s 2)) [(s 3)] h) r (λs h r=>eK (eL k [2] [3] (λkv lv h Y1=>match kv with|[a]=>znj.l3 C 8 (N 111) (λh p v K=>B.stn h p 8 v K) 2 Q a lv h Y1|_=>False) r (λY1 s h r=>e1 r))))
theorem zfj.imp:zfj.Imp (AC P) N:=λa h Q r=>eF mixed (fn:=Tryz.f66) (λk=>zfj.L k (dn Q) (zby [a]) h r)
def zd0.I:Bx:=⟨[],[],27,[(6,pz [] 10)]⟩
theorem zd0.L:LkT P zd0.I Tryz.f67 λC Q s h=>zd0.cps C N (s 0) (s 1) h Q:=λ{C} k Q s h r=>eT k (λs h=>zd0.k3 C N Q (s 0) (s 1) h) r (λs h r=>eT k (λs h=>zd (zd0.l2 C N Q (s 0) (s 1)) [(.int .i64 0)] h) r (λs h r=>eS k (λs h=>Q (.bool true) h) (eT k (λs h=>zd (zd0.l2 C N Q (s 0) (s 1)) [(s 5)] h) r (λs h r=>eK (eL k [0,1] [5] (on2 (zd0.l2 C N Q)) r (λY1 s h r=>e1 r)))) (λs h r=>e1 r)))
theorem zd0.imp:zd0.Imp (AC P) N:=λa b h Q r=>eF mixed (fn:=Tryz.f67) (λk=>zd0.L k (dn Q) (zby [a,b]) h r)
def zfv.I:Bx:=⟨[],[],26,[(6,pz [] 9)]⟩
theorem zfv.L:LkT P zfv.I Tryz.f68 λC Q s h=>zfv.cps C N (s 0) (s 1) h Q:=λ{C} k Q s h r=>eT k (λs h=>zfv.k3 C N Q (s 0) (s 1) h) r (λs h r=>eT k (λs h=>zd (zp0.l4 6 [.i .i64,.s,.i .i64,.i .i64,.i .i64,.b] Q (s 0) (s 1)) [(.int .i64 0)] h) r (λs h r=>eS k (λs h=>Q (.bool true) h) (eT k (λs h=>zd (zp0.l4 6 [.i .i64,.s,.i .i64,.i .i64,.i .i64,.b] Q (s 0) (s 1)) [(s 5)] h) r (λs h r=>eK (eL k [0,1] [5] (on2 (zp0.l4 6 [.i .i64,.s,.i .i64,.i .i64,.i .i64,.b] Q)) r (λY1 s h r=>e1 r)))) (λs h r=>e1 r)))
theorem zfv.imp:zfv.Imp (AC P) N:=λa b h Q r=>eF mixed (fn:=Tryz.f68) (λk=>zfv.L k (dn Q) (zby [a,b]) h r)
def zew.I:Bx:=⟨[],[],26,[(6,pz [] 9)]⟩
theorem zew.L:LkT P zew.I Tryz.f69 λC Q s h=>zew.cps C N (s 0) (s 1) h Q:=λ{C} k Q s h r=>eT k (λs h=>zew.k3 C N Q (s 0) (s 1) h) r (λs h r=>eT k (λs h=>zd (zp0.l4 8 [.i .i64,.s,.i .i64,.i .i64,.i .i64,.i .u8,.i .i64,.s] Q (s 0) (s 1)) [(.int .i64 0)] h) r (λs h r=>eS k (λs h=>Q (.bool true) h) (eT k (λs h=>zd (zp0.l4 8 [.i .i64,.s,.i .i64,.i .i64,.i .i64,.i .u8,.i .i64,.s] Q (s 0) (s 1)) [(s 5)] h) r (λs h r=>eK (eL k [0,1] [5] (on2 (zp0.l4 8 [.i .i64,.s,.i .i64,.i .i64,.i .i64,.i .u8,.i .i64,.s] Q)) r (λY1 s h r=>e1 r)))) (λs h r=>e1 r)))
theorem zew.imp:zew.Imp (AC P) N:=λa b h Q r=>eF mixed (fn:=Tryz.f69) (λk=>zew.L k (dn Q) (zby [a,b]) h r)
def zdc.I:Bx:=⟨[],[],27,[]⟩
theorem zdc.L:LkT P zdc.I Tryz.f70 λC Q s h=>zdc.cps C N (s 0) (s 1) h Q:=λ{C} k Q s h r=>eT k (λs h=>zd (zdc.l2 C N Q (s 0) (s 1)) [(.int .i64 0)] h) r (λs h r=>eT k (λs h=>zd (zdc.l2 C N Q (s 0) (s 1)) [(s 4)] h) r (λs h r=>eK (eL k [0,1] [4] (on2 (zdc.l2 C N Q)) r (λY1 s h r=>e1 r))))
theorem zdc.imp:zdc.Imp (AC P) N:=λa b h Q r=>eF mixed (fn:=Tryz.f70) (λk=>zdc.L k (dn Q) (zby [a,b]) h r)
def zey.I:Bx:=⟨[],[],25,[]⟩
theorem zey.L:LkT P zey.I Tryz.f71 λC Q s h=>zey.cps C N (s 0) h Q:=λ{C} k Q s h r=>eT k (λs h=>zey.k3 C N Q (s 0) h) r (λs h r=>eT k (λs h=>B.ziw h 2 24 (s 3) (s 0) λa h=>zd (zoi.l4 C 2 24 (N 108) [.str [],.int .i64 0] 1 Q (s 0)) [a,(.int .i64 0)] h) r (λs h r=>eT k (λs h=>zd (zoi.l4 C 2 24 (N 108) [.str [],.int .i64 0] 1 Q (s 0)) [(s 3),(.int .i64 0)] h) r (λs h r=>eS k (λs h=>B.pv (V.zbg (s 0)) λb=>B.pv (V.zhn 2 (s 3) none (some b)) λc=>Q c h) (eT k (λs h=>zd (zoi.l4 C 2 24 (N 108) [.str [],.int .i64 0] 1 Q (s 0)) [(s 3),(s 4)] h) r (λs h r=>eK (eL k [0] [3,4] (on1 (zoi.l4 C 2 24 (N 108) [.str [],.int .i64 0] 1 Q)) r (λY1 s h r=>e1 r)))) (λs h r=>e1 r))))
theorem zey.imp:zey.Imp (AC P) N:=λa h Q r=>eF mixed (fn:=Tryz.f71) (λk=>zey.L k (dn Q) (zby [a]) h r)
def zhe.I:Bx:=⟨[],[],10,[]⟩
theorem zhe.L:LkT P zhe.I Tryz.f72 λC Q s h=>zhe.cps C N (s 0) (s 1) h Q:=λ{C} k Q s h r=>e1 r
theorem zhe.imp:zhe.Imp (AC P) N:=λa b h Q r=>eF mixed (fn:=Tryz.f72) (λk=>zhe.L k (dn Q) (zby [a,b]) h r)
def zc2.I:Bx:=⟨[],[],13,[]⟩
theorem zc2.L:LkT P zc2.I Tryz.f73 λC Q s h=>zc2.cps C N (s 0) (s 1) h Q:=λ{C} k Q s h r=>eT k (λs h=>zd (zc2.l2 C N Q (s 1)) [(s 0)] h) r (λs h r=>eS k (λs h=>Q (s 0) h) (eK (eL k [1] [0] (on1 (zc2.l2 C N Q)) r (λY1 s h r=>e1 r))) (λs h r=>e1 r))
theorem zc2.imp:zc2.Imp (AC P) N:=λa b h Q r=>eF mixed (fn:=Tryz.f73) (λk=>zc2.L k (dn Q) (zby [a,b]) h r)
def zd4.I:Bx:=⟨[],[],22,[(2,[(0,[]),(1,[]),(2,[]),(4,[]),(5,[]),(3,[0,4]),(6,[0]),(7,[])])]⟩
theorem zd4.L:LkT P zd4.I Tryz.f74 λC Q s h=>zd4.cps C N (s 0) (s 1) (s 2) (s 3) h Q:=λ{C} k Q s h r=>e1 r
theorem zd4.imp:zd4.Imp (AC P) N:=λa b c d h Q r=>eF mixed (fn:=Tryz.f74) (λk=>zd4.L k (dn Q) (zby [a,b,c,d]) h r)
def zdm.I:Bx:=⟨[],[],134,[(17,pz [] 15)]⟩
theorem zdm.L:LkT P zdm.I Tryz.f75 λC Q s h=>zdm.cps C N (s 0) (s 1) (s 2) (s 3) h Q:=λ{C} k Q s h r=>eT k (λs h=>zd (zbe.l8 C (zc3 16 (.str []) 0) (N 377) (N 378) (N 379) (N 375) (N 380) (N 381) (N 382) (N 383) (N 384) (N 385) Q (s 0)) [(s 1),(s 2),(s 3),(s 8),(.bool true)] h) r (λs h r=>eT k (λs h=>zd (zbe.l8 C (zc3 16 (.str []) 0) (N 377) (N 378) (N 379) (N 375) (N 380) (N 381) (N 382) (N 383) (N 384) (N 385) Q (s 0)) [(s 1),(s 2),(s 3),(s 8),(s 9)] h) r (λs h r=>eK (eL k [0] [1,2,3,8,9] (on1 (zbe.l8 C (zc3 16 (.str []) 0) (N 377) (N 378) (N 379) (N 375) (N 380) (N 381) (N 382) (N 383) (N 384) (N 385) Q)) r (λY1 s h r=>eK (eT k (λs h=>zbe.k7 C (zc3 16 (.str []) 0) (N 377) (N 378) (N 379) (N 375) (N 380) (N 381) (N 382) (N 383) (N 384) (N 385) Q Y1 (s 0) (s 1) (s 2) (s 3) (s 8) (s 9) (s 10) h) r (λs h r=>eT k (λs h=>zbe.k6 C (zc3 16 (.str []) 0) (N 377) (N 378) (N 379) (N 375) (N 380) (N 381) (N 382) (N 383) (N 384) (N 385) Q Y1 (s 0) (s 1) (s 2) (s 3) (s 8) (s 9) (s 10) h) r (λs h r=>eT k (λs h=>zbe.k5 C (zc3 16 (.str []) 0) (N 377) (N 378) (N 379) (N 375) (N 380) (N 381) (N 382) (N 383) (N 384) (N 385) Q Y1 (s 0) (s 1) (s 2) (s 3) (s 8) (s 9) (s 10) h) r (λs h r=>eT k (λs h=>zbe.k4 C (zc3 16 (.str []) 0) (N 377) (N 378) (N 379) (N 375) (N 380) (N 381) (N 382) (N 383) (N 384) (N 385) Q Y1 (s 0) (s 1) (s 2) (s 3) (s 8) (s 9) (s 10) h) r (λs h r=>eT k (λs h=>zbe.k3 C (zc3 16 (.str []) 0) (N 377) (N 378) (N 379) (N 375) (N 380) (N 381) (N 382) (N 383) (N 384) (N 385) Q Y1 (s 0) (s 1) (s 2) (s 3) (s 8) (s 9) (s 10) (s 11) (s 12) h) r (λs h r=>eT k (λs h=>zbe.k2 C (zc3 16 (.str []) 0) (N 377) (N 378) (N 379) (N 375) (N 380) (N 381) (N 382) (N 383) (N 384) (N 385) Q Y1 (s 0) (s 1) (s 2) (s 3) (s 8) (s 9) (s 10) (s 11) (s 12) h) r (λs h r=>eT k (λs h=>zbe.k1 C (zc3 16 (.str []) 0) (N 377) (N 378) (N 379) (N 375) (N 380) (N 381) (N 382) (N 383) (N 384) (N 385) Q Y1 (s 0) (s 1) (s 2) (s 3) (s 8) (s 9) (s 10) (s 11) h) r (λs h r=>e1 r))))))))))))
theorem zdm.imp:zdm.Imp (AC P) N:=λa b c d h Q r=>eF mixed (fn:=Tryz.f75) (λk=>zdm.L k (dn Q) (zby [a,b,c,d]) h r)
def zft.I:Bx:=⟨[],[],8,[]⟩
theorem zft.L:LkT P zft.I Tryz.f76 λC Q s h=>zft.cps C N (s 0) h Q:=λ{C} k Q s h r=>e1 r
theorem zft.imp:zft.Imp (AC P) N:=λa h Q r=>eF mixed (fn:=Tryz.f76) (λk=>zft.L k (dn Q) (zby [a]) h r)
def zdn.I:Bx:=⟨[],[],148,[(17,pz [] 17)]⟩
theorem zdn.L:LkT P zdn.I Tryz.f77 λC Q s h=>zdn.cps C N (s 0) (s 1) (s 2) (s 3) (s 4) h Q:=λ{C} k Q s h r=>eT k (λs h=>zd (zp.l8 C (zc3 24 (.zbp) 0) (N 581) (N 582) (N 579) (N 583) (N 584) (N 585) (N 586) (N 587) (N 588) Q (s 0) (s 4)) [(s 1),(s 2),(s 3),(s 10),(.bool true)] h) r (λs h r=>eT k (λs h=>zd (zp.l8 C (zc3 24 (.zbp) 0) (N 581) (N 582) (N 579) (N 583) (N 584) (N 585) (N 586) (N 587) (N 588) Q (s 0) (s 4)) [(s 1),(s 2),(s 3),(s 10),(s 11)] h) r (λs h r=>eK (eL k [0,4] [1,2,3,10,11] (on2 (zp.l8 C (zc3 24 (.zbp) 0) (N 581) (N 582) (N 579) (N 583) (N 584) (N 585) (N 586) (N 587) (N 588) Q)) r (λY1 s h r=>eK (eT k (λs h=>zp.k7 C (zc3 24 (.zbp) 0) (N 581) (N 582) (N 579) (N 583) (N 584) (N 585) (N 586) (N 587) (N 588) Q Y1 (s 0) (s 1) (s 2) (s 3) (s 4) (s 10) (s 11) (s 12) h) r (λs h r=>eT k (λs h=>zp.k6 C (zc3 24 (.zbp) 0) (N 581) (N 582) (N 579) (N 583) (N 584) (N 585) (N 586) (N 587) (N 588) Q Y1 (s 0) (s 1) (s 2) (s 3) (s 4) (s 10) (s 11) (s 12) h) r (λs h r=>eT k (λs h=>zp.k5 C (zc3 24 (.zbp) 0) (N 581) (N 582) (N 579) (N 583) (N 584) (N 585) (N 586) (N 587) (N 588) Q Y1 (s 0) (s 1) (s 2) (s 3) (s 4) (s 10) (s 11) (s 12) h) r (λs h r=>eT k (λs h=>zp.k4 C (zc3 24 (.zbp) 0) (N 581) (N 582) (N 579) (N 583) (N 584) (N 585) (N 586) (N 587) (N 588) Q Y1 (s 0) (s 1) (s 2) (s 3) (s 4) (s 10) (s 11) (s 12) h) r (λs h r=>eT k (λs h=>zp.k3 C (zc3 24 (.zbp) 0) (N 581) (N 582) (N 579) (N 583) (N 584) (N 585) (N 586) (N 587) (N 588) Q Y1 (s 0) (s 1) (s 2) (s 3) (s 4) (s 10) (s 11) (s 12) (s 13) (s 14) h) r (λs h r=>eT k (λs h=>zp.k2 C (zc3 24 (.zbp) 0) (N 581) (N 582) (N 579) (N 583) (N 584) (N 585) (N 586) (N 587) (N 588) Q Y1 (s 0) (s 1) (s 2) (s 3) (s 4) (s 10) (s 11) (s 12) (s 13) (s 14) h) r (λs h r=>eT k (λs h=>zp.k1 C (zc3 24 (.zbp) 0) (N 581) (N 582) (N 579) (N 583) (N 584) (N 585) (N 586) (N 587) (N 588) Q Y1 (s 0) (s 1) (s 2) (s 3) (s 4) (s 10) (s 11) (s 12) (s 13) h) r (λs h r=>e1 r))))))))))))
theorem zdn.imp:zdn.Imp (AC P) N:=λa b c d e h Q r=>eF mixed (fn:=Tryz.f77) (λk=>zdn.L k (dn Q) (zby [a,b,c,d,e]) h r)
def zc7.I:Bx:=⟨[],[],20,[]⟩
theorem zc7.L:LkT P zc7.I Tryz.f78 λC Q s h=>zc7.cps C N (s 0) (s 1) h Q:=λ{C} k Q s h r=>e1 r
theorem zc7.imp:zc7.Imp (AC P) N:=λa b h Q r=>eF mixed (fn:=Tryz.f78) (λk=>zc7.L k (dn Q) (zby [a,b]) h r)
def zee.I:Bx:=⟨[],[],58,[(7,pz [(30,[25])] 35)]⟩
theorem zee.L:LkT P zee.I Tryz.f79 λC Q s h=>zee.cps C N (s 0) (s 1) h Q:=λ{C} k Q s h r=>eT k (λs h=>zee.k4 C N Q (s 0) (s 1) h) r (λs h r=>eT k (λs h=>zee.k3 C N Q (s 0) (s 1) h) r (λs h r=>eT k (λs h=>zd (zqa.l4 C 2 (N 108) [.s,.i .i64] 1 Q (s 1) (s 5)) [(.int .i64 0)] h) r (λs h r=>eS k (λs h=>Q (.bool true) h) (eT k (λs h=>zd (zqa.l4 C 2 (N 108) [.s,.i .i64] 1 Q (s 1) (s 5)) [(s 6)] h) r (λs h r=>eK (eL k [1,5] [6] (on2 (zqa.l4 C 2 (N 108) [.s,.i .i64] 1 Q)) r (λY1 s h r=>e1 r)))) (λs h r=>e1 r))))
theorem zee.imp:zee.Imp (AC P) N:=λa b h Q r=>eF mixed (fn:=Tryz.f79) (λk=>zee.L k (dn Q) (zby [a,b]) h r)
def zev.I:Bx:=⟨[],[],26,[(6,pz [] 9)]⟩
theorem zev.L:LkT P zev.I Tryz.f80 λC Q s h=>zev.cps C N (s 0) (s 1) h Q:=λ{C} k Q s h r=>eT k (λs h=>zev.k3 C N Q (s 0) (s 1) h) r (λs h r=>eT k (λs h=>zd (zp0.l4 2 [.s,.i .i64] Q (s 0) (s 1)) [(.int .i64 0)] h) r (λs h r=>eS k (λs h=>Q (.bool true) h) (eT k (λs h=>zd (zp0.l4 2 [.s,.i .i64] Q (s 0) (s 1)) [(s 5)] h) r (λs h r=>eK (eL k [0,1] [5] (on2 (zp0.l4 2 [.s,.i .i64] Q)) r (λY1 s h r=>e1 r)))) (λs h r=>e1 r)))
theorem zev.imp:zev.Imp (AC P) N:=λa b h Q r=>eF mixed (fn:=Tryz.f80) (λk=>zev.L k (dn Q) (zby [a,b]) h r)
def zfi.I:Bx:=⟨[],[],20,[]⟩
theorem zfi.L:LkT P zfi.I Tryz.f81 λC Q s h=>zfi.cps C N (s 0) h Q:=λ{C} k Q s h r=>eT k (λs h=>zd (znj.l3 C 2 (N 108) (λh p v K=>B.stn h p 2 v K) 2 Q (s 2)) [(.int .i64 0)] h) r (λs h r=>eT k (λs h=>zd (znj.l3 C 2 (N 108) (λh p v K=>B.stn h p 2 v K) 2 Q (s 2)) [(s 3)] h) r (λs h r=>eK (eL k [2] [3] (λkv lv h Y1=>match kv with|[a]=>znj.l3 C 2 (N 108) (λh p v K=>B.stn h p 2 v K) 2 Q a lv h Y1|_=>False) r (λY1 s h r=>e1 r))))
theorem zfi.imp:zfi.Imp (AC P) N:=λa h Q r=>eF mixed (fn:=Tryz.f81) (λk=>zfi.L k (dn Q) (zby [a]) h r)
def zb0.I:Bx:=⟨[3],[13,17,24,33],66,[]⟩
theorem zb0.L:LkT P zb0.I Tryz.f82 λC Q s h=>zb0.cps C N (s 0) (s 1) (s 2) h Q:=λ{C} k Q s h r=>eT k (λs h=>zb0.k6 C N Q (s 1) (s 2) (s 69) h) r (λs h r=>eT k (λs h=>zd (zb0.l5 C N Q (s 1) (s 2) (s 69)) [(s 8),(.int .i64 0)] h) r (λs h r=>eS k (λs h=>zb0.k3 C N Q (s 1) (s 2) (s 8) (s 69) h) (eT k (λs h=>zd (zb0.l5 C N Q (s 1) (s 2) (s 69)) [(s 8),(s 9)] h) r (λs h r=>eK (eL k [1,2,69] [8,9] (on3 (zb0.l5 C N Q)) r (λY2 s h r=>e1 r)))) (λs h r=>eT k (λs h=>zd (zb0.l2 C N Q (s 1) (s 2) (s 8)) [.zbp,(.bool false),(.int .i64 0)] h) r (λs h r=>eT k (λs h=>zd (zb0.l2 C N Q (s 1) (s 2) (s 8)) [(s 10),(.bool false),(.int .i64 0)] h) r (λs h r=>eT k (λs h=>zd (zb0.l2 C N Q (s 1) (s 2) (s 8)) [(s 10),(s 11),(.int .i64 0)] h) r (λs h r=>eS k (λs h=>Q (.tup [(s 11),(s 10)]) h) (eT k (λs h=>zd (zb0.l2 C N Q (s 1) (s 2) (s 8)) [(s 10),(s 11),(s 12)] h) r (λs h r=>eK (eL k [1,2,8] [10,11,12] (on3 (zb0.l2 C N Q)) r (λY1 s h r=>e1 r)))) (λs h r=>e1 r)))))))
theorem zb0.imp:zb0.Imp (AC P) N:=λa b c h Q r=>eF mixed (fn:=Tryz.f82) (λk=>zb0.L k (dn Q) (zby [a,b,c]) h r)
def zhf.I:Bx:=⟨[],[],200,[(7,pz [(7,[3])] 11),(24,pz [(9,[3,6]),(31,[25,28])] 37),(41,pz [(9,[3,6]),(23,[17,20])] 28)]⟩
def zhz.I:Bx:=⟨[],[],193,[(7,pz [(7,[3])] 10),(24,pz [(9,[3,6]),(30,[24,27])] 35),(41,pz [(9,[3,6]),(22,[16,19])] 26)]⟩
def zhl.I:Bx:=⟨[],[],193,[(7,pz [(7,[3])] 10),(24,pz [(9,[3,6]),(30,[24,27])] 35),(41,pz [(9,[3,6]),(22,[16,19])] 26)]⟩
def zgs.I:Bx:=⟨[],[],193,[(7,pz [(7,[3])] 10),(24,pz [(9,[3,6]),(30,[24,27])] 35),(41,pz [(9,[3,6]),(22,[16,19])] 26)]⟩
theorem zgs.L:LkT P zgs.I Tryz.f86 λC Q s h=>zgs.cps C N (s 0) h Q:=λ{C} w Q s h r=>eT w (λs h=>zd (zw.zou (zc3 16 (.str []) (N 106)) C Q (s 0)) [(.int .i64 0)] h) r (λs h r=>eS w (λs h=>B.pv (V.zbg (s 0)) λb=>0<1 /\ B.mks h 24 (some [.zbp]) b b λf h=>zd (zw.l82 (zc3 16 (.str []) (N 106)) C Q (s 0) f) [(.int .i64 0)] h) (eT w (λs h=>zd (zw.zou (zc3 16 (.str []) (N 106)) C Q (s 0)) [(s 3)] h) r (λs h r=>eK (eL w [0] [3] (on1 (zw.zou (zc3 16 (.str []) (N 106)) C Q)) r (λY9 s h r=>eT w (λs h=>zd (zw.l93 (zc3 16 (.str []) (N 106)) C Q Y9 (s 0) (s 3)) [(.int .i64 0)] h) r (λs h r=>eS w (λs h=>B.pv (V.bin .add (s 3) (.int .i64 1)) λg=>Y9 [g] h) (eK (eT w (λs h=>zd (zw.l93 (zc3 16 (.str []) (N 106)) C Q Y9 (s 0) (s 3)) [(s 4)] h) r (λs h r=>eK (eL w [0,3] [4] (on2 (zw.l93 (zc3 16 (.str []) (N 106)) C Q Y9)) r (λY10 s h r=>e1 r))))) (λs h r=>e1 r)))))) (λs h r=>eT w (λs h=>zd (zw.l82 (zc3 16 (.str []) (N 106)) C Q (s 0) (s 5)) [(.int .i64 0)] h) r (λs h r=>eS w (λs h=>zd (zw.l59 (zc3 16 (.str []) (N 106)) C Q (s 0) (s 5)) [(.int .i64 0)] h) (eT w (λs h=>zd (zw.l82 (zc3 16 (.str []) (N 106)) C Q (s 0) (s 5)) [(s 6)] h) r (λs h r=>eK (eL w [0,5] [6] (on2 (zw.l82 (zc3 16 (.str []) (N 106)) C Q)) r (λY7 s h r=>eT w (λs h=>B.pv (V.zb4 1 (s 0) (s 6)) λi=>B.ld h i λj=>zd (zw.l69 (zc3 16 (.str []) (N 106)) C Q Y7 (s 0) (s 5) (s 6)) [j,(.int .i64 0)] h) r (λs h r=>eS w (λs h=>B.pv (V.bin .add (s 6) (.int .i64 1)) λa=>Y7 [a] h) (eK (eT w (λs h=>zd (zw.l69 (zc3 16 (.str []) (N 106)) C Q Y7 (s 0) (s 5) (s 6)) [(s 7),(.int .i64 0)] h) r (λs h r=>eS w (λs h=>B.pv (V.zb4 1 (s 5) (s 6)) λk=>B.st h k (s 7) λh=>B.pv (V.bin .add (s 6) (.int .i64 1)) λa=>Y7 [a] h) (eT w (λs h=>zd (zw.l69 (zc3 16 (.str []) (N 106)) C Q Y7 (s 0) (s 5) (s 6)) [(s 7),(s 8)] h) r (λs h r=>eK (eL w [0,5,6] [7,8] (on3 (zw.l69 (zc3 16 (.str []) (N 106)) C Q Y7)) r (λY8 s h r=>e1 r)))) (λs h r=>e1 r)))) (λs h r=>e1 r)))))) (λs h r=>eS w (λs h=>zd (zw.l40 (zc3 16 (.str []) (N 106)) C Q (s 0) (s 5)) [(.int .i64 0)] h) (eT w (λs h=>zd (zw.l59 (zc3 16 (.str []) (N 106)) C Q (s 0) (s 5)) [(s 9)] h) r (λs h r=>eK (eL w [0,5] [9] (on2 (zw.l59 (zc3 16 (.str []) (N 106)) C Q)) r (λY5 s h r=>eT w (λs h=>zd (zw.l49 (zc3 16 (.str []) (N 106)) C Q Y5 (s 0) (s 5) (s 9)) [(.int .i64 0)] h) r (λs h r=>eS w (λs h=>B.pv (V.bin .add (s 9) (.int .i64 1)) λl=>Y5 [l] h) (eK (eT w (λs h=>zd (zw.l49 (zc3 16 (.str []) (N 106)) C Q Y5 (s 0) (s 5) (s 9)) [(s 10)] h) r (λs h r=>eK (eL w [0,5,9] [10] (on3 (zw.l49 (zc3 16 (.str []) (N 106)) C Q Y5)) r (λY6 s h r=>e1 r))))) (λs h r=>e1 r)))))) (λs h r=>eS w (λs h=>zd (zw.l15 (zc3 16 (.str []) (N 106)) C Q (s 0) (s 5)) [(.int .i64 0)] h) (eT w (λs h=>zd (zw.l40 (zc3 16 (.str []) (N 106)) C Q (s 0) (s 5)) [(s 11)] h) r (λs h r=>eK (eL w [0,5] [11] (on2 (zw.l40 (zc3 16 (.str []) (N 106)) C Q)) r (λY3 s h r=>eT w (λs h=>0<1 /\ B.mks h 16 (some [.str []]) (.int .i64 64) (.int .i64 64) λc h=>zd (zw.l26 (zc3 16 (.str []) (N 106)) C Q Y3 (s 0) (s 5) (s 11) c) [(.int .i64 0)] h) r (λs h r=>eS w (λs h=>B.pv (V.bin .add (s 11) (.int .i64 1)) λd=>Y3 [d] h) (eK (eT w (λs h=>zd (zw.l26 (zc3 16 (.str []) (N 106)) C Q Y3 (s 0) (s 5) (s 11) (s 12)) [(.int .i64 0)] h) r (λs h r=>eS w (λs h=>zw.k22 (zc3 16 (.str []) (N 106)) C Q Y3 (s 0) (s 5) (s 11) (s 12) h) (eT w (λs h=>zd (zw.l26 (zc3 16 (.str []) (N 106)) C Q Y3 (s 0) (s 5) (s 11) (s 12)) [(s 13)] h) r (λs h r=>eK (eL w [0,5,11,12] [13] (on4 (zw.l26 (zc3 16 (.str []) (N 106)) C Q Y3)) r (λY4 s h r=>e1 r)))) (λs h r=>e1 r)))) (λs h r=>e1 r)))))) (λs h r=>eS w (λs h=>Q (.bool true) h) (eT w (λs h=>zd (zw.l15 (zc3 16 (.str []) (N 106)) C Q (s 0) (s 5)) [(s 14)] h) r (λs h r=>eK (eL w [0,5] [14] (on2 (zw.l15 (zc3 16 (.str []) (N 106)) C Q)) r (λY1 s h r=>eT w (λs h=>zd (zw.l5 (zc3 16 (.str []) (N 106)) C Q Y1 (s 0) (s 5) (s 14)) [(.int .i64 0)] h) r (λs h r=>eS w (λs h=>B.pv (V.bin .add (s 14) (.int .i64 1)) λe=>Y1 [e] h) (eK (eT w (λs h=>zd (zw.l5 (zc3 16 (.str []) (N 106)) C Q Y1 (s 0) (s 5) (s 14)) [(s 15)] h) r (λs h r=>eK (eL w [0,5,14] [15] (on3 (zw.l5 (zc3 16 (.str []) (N 106)) C Q Y1)) r (λY2 s h r=>e1 r))))) (λs h r=>e1 r)))))) (λs h r=>e1 r)))))))
theorem zgs.imp:zgs.Imp (AC P) N:=λa h Q r=>eF mixed (fn:=Tryz.f86) (λk=>zgs.L k (dn Q) (zby [a]) h r)
def zel.I:Bx:=⟨[],[],193,[(7,pz [(7,[3])] 10),(24,pz [(9,[3,6]),(30,[24,27])] 35),(41,pz [(9,[3,6]),(22,[16,19])] 26)]⟩
theorem zel.L:LkT P zel.I Tryz.f87 λC Q s h=>zel.cps C N (s 0) h Q:=λ{C} w Q s h r=>eT w (λs h=>zd (zw.zou (zc3 1 (.int .u8 0) (N 64)) C Q (s 0)) [(.int .i64 0)] h) r (λs h r=>eS w (λs h=>B.pv (V.zbg (s 0)) λb=>0<1 /\ B.mks h 24 (some [.zbp]) b b λf h=>zd (zw.l82 (zc3 1 (.int .u8 0) (N 64)) C Q (s 0) f) [(.int .i64 0)] h) (eT w (λs h=>zd (zw.zou (zc3 1 (.int .u8 0) (N 64)) C Q (s 0)) [(s 3)] h) r (λs h r=>eK (eL w [0] [3] (on1 (zw.zou (zc3 1 (.int .u8 0) (N 64)) C Q)) r (λY9 s h r=>eT w (λs h=>zd (zw.l93 (zc3 1 (.int .u8 0) (N 64)) C Q Y9 (s 0) (s 3)) [(.int .i64 0)] h) r (λs h r=>eS w (λs h=>B.pv (V.bin .add (s 3) (.int .i64 1)) λg=>Y9 [g] h) (eK (eT w (λs h=>zd (zw.l93 (zc3 1 (.int .u8 0) (N 64)) C Q Y9 (s 0) (s 3)) [(s 4)] h) r (λs h r=>eK (eL w [0,3] [4] (on2 (zw.l93 (zc3 1 (.int .u8 0) (N 64)) C Q Y9)) r (λY10 s h r=>e1 r))))) (λs h r=>e1 r)))))) (λs h r=>eT w (λs h=>zd (zw.l82 (zc3 1 (.int .u8 0) (N 64)) C Q (s 0) (s 5)) [(.int .i64 0)] h) r (λs h r=>eS w (λs h=>zd (zw.l59 (zc3 1 (.int .u8 0) (N 64)) C Q (s 0) (s 5)) [(.int .i64 0)] h) (eT w (λs h=>zd (zw.l82 (zc3 1 (.int .u8 0) (N 64)) C Q (s 0) (s 5)) [(s 6)] h) r (λs h r=>eK (eL w [0,5] [6] (on2 (zw.l82 (zc3 1 (.int .u8 0) (N 64)) C Q)) r (λY7 s h r=>eT w (λs h=>B.pv (V.zb4 1 (s 0) (s 6)) λi=>B.ld h i λj=>zd (zw.l69 (zc3 1 (.int .u8 0) (N 64)) C Q Y7 (s 0) (s 5) (s 6)) [j,(.int .i64 0)] h) r (λs h r=>eS w (λs h=>B.pv (V.bin .add (s 6) (.int .i64 1)) λa=>Y7 [a] h) (eK (eT w (λs h=>zd (zw.l69 (zc3 1 (.int .u8 0) (N 64)) C Q Y7 (s 0) (s 5) (s 6)) [(s 7),(.int .i64 0)] h) r (λs h r=>eS w (λs h=>B.pv (V.zb4 1 (s 5) (s 6)) λk=>B.st h k (s 7) λh=>B.pv (V.bin .add (s 6) (.int .i64 1)) λa=>Y7 [a] h) (eT w (λs h=>zd (zw.l69 (zc3 1 (.int .u8 0) (N 64)) C Q Y7 (s 0) (s 5) (s 6)) [(s 7),(s 8)] h) r (λs h r=>eK (eL w [0,5,6] [7,8] (on3 (zw.l69 (zc3 1 (.int .u8 0) (N 64)) C Q Y7)) r (λY8 s h r=>e1 r)))) (λs h r=>e1 r)))) (λs h r=>e1 r)))))) (λs h r=>eS w (λs h=>zd (zw.l40 (zc3 1 (.int .u8 0) (N 64)) C Q (s 0) (s 5)) [(.int .i64 0)] h) (eT w (λs h=>zd (zw.l59 (zc3 1 (.int .u8 0) (N 64)) C Q (s 0) (s 5)) [(s 9)] h) r (λs h r=>eK (eL w [0,5] [9] (on2 (zw.l59 (zc3 1 (.int .u8 0) (N 64)) C Q)) r (λY5 s h r=>eT w (λs h=>zd (zw.l49 (zc3 1 (.int .u8 0) (N 64)) C Q Y5 (s 0) (s 5) (s 9)) [(.int .i64 0)] h) r (λs h r=>eS w (λs h=>B.pv (V.bin .add (s 9) (.int .i64 1)) λl=>Y5 [l] h) (eK (eT w (λs h=>zd (zw.l49 (zc3 1 (.int .u8 0) (N 64)) C Q Y5 (s 0) (s 5) (s 9)) [(s 10)] h) r (λs h r=>eK (eL w [0,5,9] [10] (on3 (zw.l49 (zc3 1 (.int .u8 0) (N 64)) C Q Y5)) r (λY6 s h r=>e1 r))))) (λs h r=>e1 r)))))) (λs h r=>eS w (λs h=>zd (zw.l15 (zc3 1 (.int .u8 0) (N 64)) C Q (s 0) (s 5)) [(.int .i64 0)] h) (eT w (λs h=>zd (zw.l40 (zc3 1 (.int .u8 0) (N 64)) C Q (s 0) (s 5)) [(s 11)] h) r (λs h r=>eK (eL w [0,5] [11] (on2 (zw.l40 (zc3 1 (.int .u8 0) (N 64)) C Q)) r (λY3 s h r=>eT w (λs h=>0<1 /\ B.mks h 1 (some [.int .u8 0]) (.int .i64 64) (.int .i64 64) λc h=>zd (zw.l26 (zc3 1 (.int .u8 0) (N 64)) C Q Y3 (s 0) (s 5) (s 11) c) [(.int .i64 0)] h) r (λs h r=>eS w (λs h=>B.pv (V.bin .add (s 11) (.int .i64 1)) λd=>Y3 [d] h) (eK (eT w (λs h=>zd (zw.l26 (zc3 1 (.int .u8 0) (N 64)) C Q Y3 (s 0) (s 5) (s 11) (s 12)) [(.int .i64 0)] h) r (λs h r=>eS w (λs h=>zw.k22 (zc3 1 (.int .u8 0) (N 64)) C Q Y3 (s 0) (s 5) (s 11) (s 12) h) (eT w (λs h=>zd (zw.l26 (zc3 1 (.int .u8 0) (N 64)) C Q Y3 (s 0) (s 5) (s 11) (s 12)) [(s 13)] h) r (λs h r=>eK (eL w [0,5,11,12] [13] (on4 (zw.l26 (zc3 1 (.int .u8 0) (N 64)) C Q Y3)) r (λY4 s h r=>e1 r)))) (λs h r=>e1 r)))) (λs h r=>e1 r)))))) (λs h r=>eS w (λs h=>Q (.bool true) h) (eT w (λs h=>zd (zw.l15 (zc3 1 (.int .u8 0) (N 64)) C Q (s 0) (s 5)) [(s 14)] h) r (λs h r=>eK (eL w [0,5] [14] (on2 (zw.l15 (zc3 1 (.int .u8 0) (N 64)) C Q)) r (λY1 s h r=>eT w (λs h=>zd (zw.l5 (zc3 1 (.int .u8 0) (N 64)) C Q Y1 (s 0) (s 5) (s 14)) [(.int .i64 0)] h) r (λs h r=>eS w (λs h=>B.pv (V.bin .add (s 14) (.int .i64 1)) λe=>Y1 [e] h) (eK (eT w (λs h=>zd (zw.l5 (zc3 1 (.int .u8 0) (N 64)) C Q Y1 (s 0) (s 5) (s 14)) [(s 15)] h) r (λs h r=>eK (eL w [0,5,14] [15] (on3 (zw.l5 (zc3 1 (.int .u8 0) (N 64)) C Q Y1)) r (λY2 s h r=>e1 r))))) (λs h r=>e1 r)))))) (λs h r=>e1 r)))))))
theorem zel.imp:zel.Imp (AC P) N:=λa h Q r=>eF mixed (fn:=Tryz.f87) (λk=>zel.L k (dn Q) (zby [a]) h r)
def z9.I:Bx:=⟨[],[],193,[(7,pz [(7,[3])] 10),(24,pz [(9,[3,6]),(30,[24,27])] 35),(41,pz [(9,[3,6]),(22,[16,19])] 26)]⟩
abbrev z9.E:z6:=zth 2 16 [.int .i64 0,.int .i64 0] (N 18) [.i .i64,.i .i64]
theorem z9.L:LkT P z9.I Tryz.f88 λC Q s h=>z9.cps C N (s 0) h Q:=λ{C} w Q s h r=>eT w (λs h=>zd (zw.zou z9.E C Q (s 0)) [(.int .i64 0)] h) r (λs h r=>eS w (λs h=>B.pv (V.zbg (s 0)) λb=>0<1 /\ B.mks h 24 (some [.zbp]) b b λf h=>zd (zw.l82 z9.E C Q (s 0) f) [(.int .i64 0)] h) (eT w (λs h=>zd (zw.zou z9.E C Q (s 0)) [(s 3)] h) r (λs h r=>eK (eL w [0] [3] (on1 (zw.zou z9.E C Q)) r (λY9 s h r=>eT w (λs h=>zd (zw.l93 z9.E C Q Y9 (s 0) (s 3)) [(.int .i64 0)] h) r (λs h r=>eS w (λs h=>B.pv (V.bin .add (s 3) (.int .i64 1)) λg=>Y9 [g] h) (eK (eT w (λs h=>zd (zw.l93 z9.E C Q Y9 (s 0) (s 3)) [(s 4)] h) r (λs h r=>eK (eL w [0,3] [4] (on2 (zw.l93 z9.E C Q Y9)) r (λY10 s h r=>e1 r))))) (λs h r=>e1 r)))))) (λs h r=>eT w (λs h=>zd (zw.l82 z9.E C Q (s 0) (s 5)) [(.int .i64 0)] h) r (λs h r=>eS w (λs h=>zd (zw.l59 z9.E C Q (s 0) (s 5)) [(.int .i64 0)] h) (eT w (λs h=>zd (zw.l82 z9.E C Q (s 0) (s 5)) [(s 6)] h) r (λs h r=>eK (eL w [0,5] [6] (on2 (zw.l82 z9.E C Q)) r (λY7 s h r=>eT w (λs h=>B.pv (V.zb4 1 (s 0) (s 6)) λi=>B.ld h i λj=>zd (zw.l69 z9.E C Q Y7 (s 0) (s 5) (s 6)) [j,(.int .i64 0)] h) r (λs h r=>eS w (λs h=>B.pv (V.bin .add (s 6) (.int .i64 1)) λa=>Y7 [a] h) (eK (eT w (λs h=>zd (zw.l69 z9.E C Q Y7 (s 0) (s 5) (s 6)) [(s 7),(.int .i64 0)] h) r (λs h r=>eS w (λs h=>B.pv (V.zb4 1 (s 5) (s 6)) λk=>B.st h k (s 7) λh=>B.pv (V.bin .add (s 6) (.int .i64 1)) λa=>Y7 [a] h) (eT w (λs h=>zd (zw.l69 z9.E C Q Y7 (s 0) (s 5) (s 6)) [(s 7),(s 8)] h) r (λs h r=>eK (eL w [0,5,6] [7,8] (on3 (zw.l69 z9.E C Q Y7)) r (λY8 s h r=>e1 r)))) (λs h r=>e1 r)))) (λs h r=>e1 r)))))) (λs h r=>eS w (λs h=>zd (zw.l40 z9.E C Q (s 0) (s 5)) [(.int .i64 0)] h) (eT w (λs h=>zd (zw.l59 z9.E C Q (s 0) (s 5)) [(s 9)] h) r (λs h r=>eK (eL w [0,5] [9] (on2 (zw.l59 z9.E C Q)) r (λY5 s h r=>eT w (λs h=>zd (zw.l49 z9.E C Q Y5 (s 0) (s 5) (s 9)) [(.int .i64 0)] h) r (λs h r=>eS w (λs h=>B.pv (V.bin .add (s 9) (.int .i64 1)) λl=>Y5 [l] h) (eK (eT w (λs h=>zd (zw.l49 z9.E C Q Y5 (s 0) (s 5) (s 9)) [(s 10)] h) r (λs h r=>eK (eL w [0,5,9] [10] (on3 (zw.l49 z9.E C Q Y5)) r (λY6 s h r=>e1 r))))) (λs h r=>e1 r)))))) (λs h r=>eS w (λs h=>zd (zw.l15 z9.E C Q (s 0) (s 5)) [(.int .i64 0)] h) (eT w (λs h=>zd (zw.l40 z9.E C Q (s 0) (s 5)) [(s 11)] h) r (λs h r=>eK (eL w [0,5] [11] (on2 (zw.l40 z9.E C Q)) r (λY3 s h r=>eT w (λs h=>0<2 /\ B.mks h 16 (some [.int .i64 0,.int .i64 0]) (.int .i64 64) (.int .i64 64) λc h=>zd (zw.l26 z9.E C Q Y3 (s 0) (s 5) (s 11) c) [(.int .i64 0)] h) r (λs h r=>eS w (λs h=>B.pv (V.bin .add (s 11) (.int .i64 1)) λd=>Y3 [d] h) (eK (eT w (λs h=>zd (zw.l26 z9.E C Q Y3 (s 0) (s 5) (s 11) (s 12)) [(.int .i64 0)] h) r (λs h r=>eS w (λs h=>zw.k22 z9.E C Q Y3 (s 0) (s 5) (s 11) (s 12) h) (eT w (λs h=>zd (zw.l26 z9.E C Q Y3 (s 0) (s 5) (s 11) (s 12)) [(s 13)] h) r (λs h r=>eK (eL w [0,5,11,12] [13] (on4 (zw.l26 z9.E C Q Y3)) r (λY4 s h r=>e1 r)))) (λs h r=>e1 r)))) (λs h r=>e1 r)))))) (λs h r=>eS w (λs h=>Q (.bool true) h) (eT w (λs h=>zd (zw.l15 z9.E C Q (s 0) (s 5)) [(s 14)] h) r (λs h r=>eK (eL w [0,5] [14] (on2 (zw.l15 z9.E C Q)) r (λY1 s h r=>eT w (λs h=>zd (zw.l5 z9.E C Q Y1 (s 0) (s 5) (s 14)) [(.int .i64 0)] h) r (λs h r=>eS w (λs h=>B.pv (V.bin .add (s 14) (.int .i64 1)) λe=>Y1 [e] h) (eK (eT w (λs h=>zd (zw.l5 z9.E C Q Y1 (s 0) (s 5) (s 14)) [(s 15)] h) r (λs h r=>eK (eL w [0,5,14] [15] (on3 (zw.l5 z9.E C Q Y1)) r (λY2 s h r=>e1 r))))) (λs h r=>e1 r)))))) (λs h r=>e1 r)))))))
theorem z9.imp:z9.Imp (AC P) N:=λa h Q r=>eF mixed (fn:=Tryz.f88) (λk=>z9.L k (dn Q) (zby [a]) h r)
def zb6.I:Bx:=⟨[],[],193,[(7,pz [(7,[3])] 10),(24,pz [(9,[3,6]),(30,[24,27])] 35),(41,pz [(9,[3,6]),(22,[16,19])] 26)]⟩
abbrev zb6.E:z6:=zth 6 56 [.int .i64 0,.str [],.int .i64 0,.int .i64 0,.int .i64 0,.bool false] (N 77) [.i .i64,.s,.i .i64,.i .i64,.i .i64,.b]
theorem zb6.L:LkT P zb6.I Tryz.f89 λC Q s h=>zb6.cps C N (s 0) h Q:=λ{C} w Q s h r=>eT w (λs h=>zd (zw.zou zb6.E C Q (s 0)) [(.int .i64 0)] h) r (λs h r=>eS w (λs h=>B.pv (V.zbg (s 0)) λb=>0<1 /\ B.mks h 24 (some [.zbp]) b b λf h=>zd (zw.l82 zb6.E C Q (s 0) f) [(.int .i64 0)] h) (eT w (λs h=>zd (zw.zou zb6.E C Q (s 0)) [(s 3)] h) r (λs h r=>eK (eL w [0] [3] (on1 (zw.zou zb6.E C Q)) r (λY9 s h r=>eT w (λs h=>zd (zw.l93 zb6.E C Q Y9 (s 0) (s 3)) [(.int .i64 0)] h) r (λs h r=>eS w (λs h=>B.pv (V.bin .add (s 3) (.int .i64 1)) λg=>Y9 [g] h) (eK (eT w (λs h=>zd (zw.l93 zb6.E C Q Y9 (s 0) (s 3)) [(s 4)] h) r (λs h r=>eK (eL w [0,3] [4] (on2 (zw.l93 zb6.E C Q Y9)) r (λY10 s h r=>e1 r))))) (λs h r=>e1 r)))))) (λs h r=>eT w (λs h=>zd (zw.l82 zb6.E C Q (s 0) (s 5)) [(.int .i64 0)] h) r (λs h r=>eS w (λs h=>zd (zw.l59 zb6.E C Q (s 0) (s 5)) [(.int .i64 0)] h) (eT w (λs h=>zd (zw.l82 zb6.E C Q (s 0) (s 5)) [(s 6)] h) r (λs h r=>eK (eL w [0,5] [6] (on2 (zw.l82 zb6.E C Q)) r (λY7 s h r=>eT w (λs h=>B.pv (V.zb4 1 (s 0) (s 6)) λi=>B.ld h i λj=>zd (zw.l69 zb6.E C Q Y7 (s 0) (s 5) (s 6)) [j,(.int .i64 0)] h) r (λs h r=>eS w (λs h=>B.pv (V.bin .add (s 6) (.int .i64 1)) λa=>Y7 [a] h) (eK (eT w (λs h=>zd (zw.l69 zb6.E C Q Y7 (s 0) (s 5) (s 6)) [(s 7),(.int .i64 0)] h) r (λs h r=>eS w (λs h=>B.pv (V.zb4 1 (s 5) (s 6)) λk=>B.st h k (s 7) λh=>B.pv (V.bin .add (s 6) (.int .i64 1)) λa=>Y7 [a] h) (eT w (λs h=>zd (zw.l69 zb6.E C Q Y7 (s 0) (s 5) (s 6)) [(s 7),(s 8)] h) r (λs h r=>eK (eL w [0,5,6] [7,8] (on3 (zw.l69 zb6.E C Q Y7)) r (λY8 s h r=>e1 r)))) (λs h r=>e1 r)))) (λs h r=>e1 r)))))) (λs h r=>eS w (λs h=>zd (zw.l40 zb6.E C Q (s 0) (s 5)) [(.int .i64 0)] h) (eT w (λs h=>zd (zw.l59 zb6.E C Q (s 0) (s 5)) [(s 9)] h) r (λs h r=>eK (eL w [0,5] [9] (on2 (zw.l59 zb6.E C Q)) r (λY5 s h r=>eT w (λs h=>zd (zw.l49 zb6.E C Q Y5 (s 0) (s 5) (s 9)) [(.int .i64 0)] h) r (λs h r=>eS w (λs h=>B.pv (V.bin .add (s 9) (.int .i64 1)) λl=>Y5 [l] h) (eK (eT w (λs h=>zd (zw.l49 zb6.E C Q Y5 (s 0) (s 5) (s 9)) [(s 10)] h) r (λs h r=>eK (eL w [0,5,9] [10] (on3 (zw.l49 zb6.E C Q Y5)) r (λY6 s h r=>e1 r))))) (λs h r=>e1 r)))))) (λs h r=>eS w (λs h=>zd (zw.l15 zb6.E C Q (s 0) (s 5)) [(.int .i64 0)] h) (eT w (λs h=>zd (zw.l40 zb6.E C Q (s 0) (s 5)) [(s 11)] h) r (λs h r=>eK (eL w [0,5] [11] (on2 (zw.l40 zb6.E C Q)) r (λY3 s h r=>eT w (λs h=>0<6 /\ B.mks h 56 (some [.int .i64 0,.str [],.int .i64 0,.int .i64 0,.int .i64 0,.bool false]) (.int .i64 64) (.int .i64 64) λc h=>zd (zw.l26 zb6.E C Q Y3 (s 0) (s 5) (s 11) c) [(.int .i64 0)] h) r (λs h r=>eS w (λs h=>B.pv (V.bin .add (s 11) (.int .i64 1)) λd=>Y3 [d] h) (eK (eT w (λs h=>zd (zw.l26 zb6.E C Q Y3 (s 0) (s 5) (s 11) (s 12)) [(.int .i64 0)] h) r (λs h r=>eS w (λs h=>zw.k22 zb6.E C Q Y3 (s 0) (s 5) (s 11) (s 12) h) (eT w (λs h=>zd (zw.l26 zb6.E C Q Y3 (s 0) (s 5) (s 11) (s 12)) [(s 13)] h) r (λs h r=>eK (eL w [0,5,11,12] [13] (on4 (zw.l26 zb6.E C Q Y3)) r (λY4 s h r=>e1 r)))) (λs h r=>e1 r)))) (λs h r=>e1 r)))))) (λs h r=>eS w (λs h=>Q (.bool true) h) (eT w (λs h=>zd (zw.l15 zb6.E C Q (s 0) (s 5)) [(s 14)] h) r (λs h r=>eK (eL w [0,5] [14] (on2 (zw.l15 zb6.E C Q)) r (λY1 s h r=>eT w (λs h=>zd (zw.l5 zb6.E C Q Y1 (s 0) (s 5) (s 14)) [(.int .i64 0)] h) r (λs h r=>eS w (λs h=>B.pv (V.bin .add (s 14) (.int .i64 1)) λe=>Y1 [e] h) (eK (eT w (λs h=>zd (zw.l5 zb6.E C Q Y1 (s 0) (s 5) (s 14)) [(s 15)] h) r (λs h r=>eK (eL w [0,5,14] [15] (on3 (zw.l5 zb6.E C Q Y1)) r (λY2 s h r=>e1 r))))) (λs h r=>e1 r)))))) (λs h r=>e1 r)))))))
theorem zb6.imp:zb6.Imp (AC P) N:=λa h Q r=>eF mixed (fn:=Tryz.f89) (λk=>zb6.L k (dn Q) (zby [a]) h r)
def zbi.I:Bx:=⟨[],[],193,[(7,pz [(7,[3])] 10),(24,pz [(9,[3,6]),(30,[24,27])] 35),(41,pz [(9,[3,6]),(22,[16,19])] 26)]⟩
abbrev zbi.E:z6:=zth 3 32 [.str [],.int .i64 0,.int .i64 0] (N 107) [.s,.i .i64,.i .i64]
theorem zbi.L:LkT P zbi.I Tryz.f90 λC Q s h=>zbi.cps C N (s 0) h Q:=λ{C} w Q s h r=>eT w (λs h=>zd (zw.zou zbi.E C Q (s 0)) [(.int .i64 0)] h) r (λs h r=>eS w (λs h=>B.pv (V.zbg (s 0)) λb=>0<1 /\ B.mks h 24 (some [.zbp]) b b λf h=>zd (zw.l82 zbi.E C Q (s 0) f) [(.int .i64 0)] h) (eT w (λs h=>zd (zw.zou zbi.E C Q (s 0)) [(s 3)] h) r (λs h r=>eK (eL w [0] [3] (on1 (zw.zou zbi.E C Q)) r (λY9 s h r=>eT w (λs h=>zd (zw.l93 zbi.E C Q Y9 (s 0) (s 3)) [(.int .i64 0)] h) r (λs h r=>eS w (λs h=>B.pv (V.bin .add (s 3) (.int .i64 1)) λg=>Y9 [g] h) (eK (eT w (λs h=>zd (zw.l93 zbi.E C Q Y9 (s 0) (s 3)) [(s 4)] h) r (λs h r=>eK (eL w [0,3] [4] (on2 (zw.l93 zbi.E C Q Y9)) r (λY10 s h r=>e1 r))))) (λs h r=>e1 r)))))) (λs h r=>eT w (λs h=>zd (zw.l82 zbi.E C Q (s 0) (s 5)) [(.int .i64 0)] h) r (λs h r=>eS w (λs h=>zd (zw.l59 zbi.E C Q (s 0) (s 5)) [(.int .i64 0)] h) (eT w (λs h=>zd (zw.l82 zbi.E C Q (s 0) (s 5)) [(s 6)] h) r (λs h r=>eK (eL w [0,5] [6] (on2 (zw.l82 zbi.E C Q)) r (λY7 s h r=>eT w (λs h=>B.pv (V.zb4 1 (s 0) (s 6)) λi=>B.ld h i λj=>zd (zw.l69 zbi.E C Q Y7 (s 0) (s 5) (s 6)) [j,(.int .i64 0)] h) r (λs h r=>eS w (λs h=>B.pv (V.bin .add (s 6) (.int .i64 1)) λa=>Y7 [a] h) (eK (eT w (λs h=>zd (zw.l69 zbi.E C Q Y7 (s 0) (s 5) (s 6)) [(s 7),(.int .i64 0)] h) r (λs h r=>eS w (λs h=>B.pv (V.zb4 1 (s 5) (s 6)) λk=>B.st h k (s 7) λh=>B.pv (V.bin .add (s 6) (.int .i64 1)) λa=>Y7 [a] h) (eT w (λs h=>zd (zw.l69 zbi.E C Q Y7 (s 0) (s 5) (s 6)) [(s 7),(s 8)] h) r (λs h r=>eK (eL w [0,5,6] [7,8] (on3 (zw.l69 zbi.E C Q Y7)) r (λY8 s h r=>e1 r)))) (λs h r=>e1 r)))) (λs h r=>e1 r)))))) (λs h r=>eS w (λs h=>zd (zw.l40 zbi.E C Q (s 0) (s 5)) [(.int .i64 0)] h) (eT w (λs h=>zd (zw.l59 zbi.E C Q (s 0) (s 5)) [(s 9)] h) r (λs h r=>eK (eL w [0,5] [9] (on2 (zw.l59 zbi.E C Q)) r (λY5 s h r=>eT w (λs h=>zd (zw.l49 zbi.E C Q Y5 (s 0) (s 5) (s 9)) [(.int .i64 0)] h) r (λs h r=>eS w (λs h=>B.pv (V.bin .add (s 9) (.int .i64 1)) λl=>Y5 [l] h) (eK (eT w (λs h=>zd (zw.l49 zbi.E C Q Y5 (s 0) (s 5) (s 9)) [(s 10)] h) r (λs h r=>eK (eL w [0,5,9] [10] (on3 (zw.l49 zbi.E C Q Y5)) r (λY6 s h r=>e1 r))))) (λs h r=>e1 r)))))) (λs h r=>eS w (λs h=>zd (zw.l15 zbi.E C Q (s 0) (s 5)) [(.int .i64 0)] h) (eT w (λs h=>zd (zw.l40 zbi.E C Q (s 0) (s 5)) [(s 11)] h) r (λs h r=>eK (eL w [0,5] [11] (on2 (zw.l40 zbi.E C Q)) r (λY3 s h r=>eT w (λs h=>0<3 /\ B.mks h 32 (some [.str [],.int .i64 0,.int .i64 0]) (.int .i64 64) (.int .i64 64) λc h=>zd (zw.l26 zbi.E C Q Y3 (s 0) (s 5) (s 11) c) [(.int .i64 0)] h) r (λs h r=>eS w (λs h=>B.pv (V.bin .add (s 11) (.int .i64 1)) λd=>Y3 [d] h) (eK (eT w (λs h=>zd (zw.l26 zbi.E C Q Y3 (s 0) (s 5) (s 11) (s 12)) [(.int .i64 0)] h) r (λs h r=>eS w (λs h=>zw.k22 zbi.E C Q Y3 (s 0) (s 5) (s 11) (s 12) h) (eT w (λs h=>zd (zw.l26 zbi.E C Q Y3 (s 0) (s 5) (s 11) (s 12)) [(s 13)] h) r (λs h r=>eK (eL w [0,5,11,12] [13] (on4 (zw.l26 zbi.E C Q Y3)) r (λY4 s h r=>e1 r)))) (λs h r=>e1 r)))) (λs h r=>e1 r)))))) (λs h r=>eS w (λs h=>Q (.bool true) h) (eT w (λs h=>zd (zw.l15 zbi.E C Q (s 0) (s 5)) [(s 14)] h) r (λs h r=>eK (eL w [0,5] [14] (on2 (zw.l15 zbi.E C Q)) r (λY1 s h r=>eT w (λs h=>zd (zw.l5 zbi.E C Q Y1 (s 0) (s 5) (s 14)) [(.int .i64 0)] h) r (λs h r=>eS w (λs h=>B.pv (V.bin .add (s 14) (.int .i64 1)) λe=>Y1 [e] h) (eK (eT w (λs h=>zd (zw.l5 zbi.E C Q Y1 (s 0) (s 5) (s 14)) [(s 15)] h) r (λs h r=>eK (eL w [0,5,14] [15] (on3 (zw.l5 zbi.E C Q Y1)) r (λY2 s h r=>e1 r))))) (λs h r=>e1 r)))))) (λs h r=>e1 r)))))))
theorem zbi.imp:zbi.Imp (AC P) N:=λa h Q r=>eF mixed (fn:=Tryz.f90) (λk=>zbi.L k (dn Q) (zby [a]) h r)
def zbq.I:Bx:=⟨[],[],193,[(7,pz [(7,[3])] 10),(24,pz [(9,[3,6]),(30,[24,27])] 35),(41,pz [(9,[3,6]),(22,[16,19])] 26)]⟩
abbrev zbq.E:z6:=zth 3 24 [.int .i64 0,.int .i64 0,.int .i64 0] (N 78) [.i .i64,.i .i64,.i .i64]
theorem zbq.L:LkT P zbq.I Tryz.f91 λC Q s h=>zbq.cps C N (s 0) h Q:=λ{C} w Q s h r=>eT w (λs h=>zd (zw.zou zbq.E C Q (s 0)) [(.int .i64 0)] h) r (λs h r=>eS w (λs h=>B.pv (V.zbg (s 0)) λb=>0<1 /\ B.mks h 24 (some [.zbp]) b b λf h=>zd (zw.l82 zbq.E C Q (s 0) f) [(.int .i64 0)] h) (eT w (λs h=>zd (zw.zou zbq.E C Q (s 0)) [(s 3)] h) r (λs h r=>eK (eL w [0] [3] (on1 (zw.zou zbq.E C Q)) r (λY9 s h r=>eT w (λs h=>zd (zw.l93 zbq.E C Q Y9 (s 0) (s 3)) [(.int .i64 0)] h) r (λs h r=>eS w (λs h=>B.pv (V.bin .add (s 3) (.int .i64 1)) λg=>Y9 [g] h) (eK (eT w (λs h=>zd (zw.l93 zbq.E C Q Y9 (s 0) (s 3)) [(s 4)] h) r (λs h r=>eK (eL w [0,3] [4] (on2 (zw.l93 zbq.E C Q Y9)) r (λY10 s h r=>e1 r))))) (λs h r=>e1 r)))))) (λs h r=>eT w (λs h=>zd (zw.l82 zbq.E C Q (s 0) (s 5)) [(.int .i64 0)] h) r (λs h r=>eS w (λs h=>zd (zw.l59 zbq.E C Q (s 0) (s 5)) [(.int .i64 0)] h) (eT w (λs h=>zd (zw.l82 zbq.E C Q (s 0) (s 5)) [(s 6)] h) r (λs h r=>eK (eL w [0,5] [6] (on2 (zw.l82 zbq.E C Q)) r (λY7 s h r=>eT w (λs h=>B.pv (V.zb4 1 (s 0) (s 6)) λi=>B.ld h i λj=>zd (zw.l69 zbq.E C Q Y7 (s 0) (s 5) (s 6)) [j,(.int .i64 0)] h) r (λs h r=>eS w (λs h=>B.pv (V.bin .add (s 6) (.int .i64 1)) λa=>Y7 [a] h) (eK (eT w (λs h=>zd (zw.l69 zbq.E C Q Y7 (s 0) (s 5) (s 6)) [(s 7),(.int .i64 0)] h) r (λs h r=>eS w (λs h=>B.pv (V.zb4 1 (s 5) (s 6)) λk=>B.st h k (s 7) λh=>B.pv (V.bin .add (s 6) (.int .i64 1)) λa=>Y7 [a] h) (eT w (λs h=>zd (zw.l69 zbq.E C Q Y7 (s 0) (s 5) (s 6)) [(s 7),(s 8)] h) r (λs h r=>eK (eL w [0,5,6] [7,8] (on3 (zw.l69 zbq.E C Q Y7)) r (λY8 s h r=>e1 r)))) (λs h r=>e1 r)))) (λs h r=>e1 r)))))) (λs h r=>eS w (λs h=>zd (zw.l40 zbq.E C Q (s 0) (s 5)) [(.int .i64 0)] h) (eT w (λs h=>zd (zw.l59 zbq.E C Q (s 0) (s 5)) [(s 9)] h) r (λs h r=>eK (eL w [0,5] [9] (on2 (zw.l59 zbq.E C Q)) r (λY5 s h r=>eT w (λs h=>zd (zw.l49 zbq.E C Q Y5 (s 0) (s 5) (s 9)) [(.int .i64 0)] h) r (λs h r=>eS w (λs h=>B.pv (V.bin .add (s 9) (.int .i64 1)) λl=>Y5 [l] h) (eK (eT w (λs h=>zd (zw.l49 zbq.E C Q Y5 (s 0) (s 5) (s 9)) [(s 10)] h) r (λs h r=>eK (eL w [0,5,9] [10] (on3 (zw.l49 zbq.E C Q Y5)) r (λY6 s h r=>e1 r))))) (λs h r=>e1 r)))))) (λs h r=>eS w (λs h=>zd (zw.l15 zbq.E C Q (s 0) (s 5)) [(.int .i64 0)] h) (eT w (λs h=>zd (zw.l40 zbq.E C Q (s 0) (s 5)) [(s 11)] h) r (λs h r=>eK (eL w [0,5] [11] (on2 (zw.l40 zbq.E C Q)) r (λY3 s h r=>eT w (λs h=>0<3 /\ B.mks h 24 (some [.int .i64 0,.int .i64 0,.int .i64 0]) (.int .i64 64) (.int .i64 64) λc h=>zd (zw.l26 zbq.E C Q Y3 (s 0) (s 5) (s 11) c) [(.int .i64 0)] h) r (λs h r=>eS w (λs h=>B.pv (V.bin .add (s 11) (.int .i64 1)) λd=>Y3 [d] h) (eK (eT w (λs h=>zd (zw.l26 zbq.E C Q Y3 (s 0) (s 5) (s 11) (s 12)) [(.int .i64 0)] h) r (λs h r=>eS w (λs h=>zw.k22 zbq.E C Q Y3 (s 0) (s 5) (s 11) (s 12) h) (eT w (λs h=>zd (zw.l26 zbq.E C Q Y3 (s 0) (s 5) (s 11) (s 12)) [(s 13)] h) r (λs h r=>eK (eL w [0,5,11,12] [13] (on4 (zw.l26 zbq.E C Q Y3)) r (λY4 s h r=>e1 r)))) (λs h r=>e1 r)))) (λs h r=>e1 r)))))) (λs h r=>eS w (λs h=>Q (.bool true) h) (eT w (λs h=>zd (zw.l15 zbq.E C Q (s 0) (s 5)) [(s 14)] h) r (λs h r=>eK (eL w [0,5] [14] (on2 (zw.l15 zbq.E C Q)) r (λY1 s h r=>eT w (λs h=>zd (zw.l5 zbq.E C Q Y1 (s 0) (s 5) (s 14)) [(.int .i64 0)] h) r (λs h r=>eS w (λs h=>B.pv (V.bin .add (s 14) (.int .i64 1)) λe=>Y1 [e] h) (eK (eT w (λs h=>zd (zw.l5 zbq.E C Q Y1 (s 0) (s 5) (s 14)) [(s 15)] h) r (λs h r=>eK (eL w [0,5,14] [15] (on3 (zw.l5 zbq.E C Q Y1)) r (λY2 s h r=>e1 r))))) (λs h r=>e1 r)))))) (λs h r=>e1 r)))))))
theorem zbq.imp:zbq.Imp (AC P) N:=λa h Q r=>eF mixed (fn:=Tryz.f91) (λk=>zbq.L k (dn Q) (zby [a]) h r)
def zbr.I:Bx:=⟨[],[],193,[(7,pz [(7,[3])] 10),(24,pz [(9,[3,6]),(30,[24,27])] 35),(41,pz [(9,[3,6]),(22,[16,19])] 26)]⟩
abbrev zbr.E:z6:=zth 2 24 [.str [],.int .i64 0] (N 108) [.s,.i .i64]
theorem zbr.L:LkT P zbr.I Tryz.f92 λC Q s h=>zbr.cps C N (s 0) h Q:=λ{C} w Q s h r=>eT w (λs h=>zd (zw.zou zbr.E C Q (s 0)) [(.int .i64 0)] h) r (λs h r=>eS w (λs h=>B.pv (V.zbg (s 0)) λb=>0<1 /\ B.mks h 24 (some [.zbp]) b b λf h=>zd (zw.l82 zbr.E C Q (s 0) f) [(.int .i64 0)] h) (eT w (λs h=>zd (zw.zou zbr.E C Q (s 0)) [(s 3)] h) r (λs h r=>eK (eL w [0] [3] (on1 (zw.zou zbr.E C Q)) r (λY9 s h r=>eT w (λs h=>zd (zw.l93 zbr.E C Q Y9 (s 0) (s 3)) [(.int .i64 0)] h) r (λs h r=>eS w (λs h=>B.pv (V.bin .add (s 3) (.int .i64 1)) λg=>Y9 [g] h) (eK (eT w (λs h=>zd (zw.l93 zbr.E C Q Y9 (s 0) (s 3)) [(s 4)] h) r (λs h r=>eK (eL w [0,3] [4] (on2 (zw.l93 zbr.E C Q Y9)) r (λY10 s h r=>e1 r))))) (λs h r=>e1 r)))))) (λs h r=>eT w (λs h=>zd (zw.l82 zbr.E C Q (s 0) (s 5)) [(.int .i64 0)] h) r (λs h r=>eS w (λs h=>zd (zw.l59 zbr.E C Q (s 0) (s 5)) [(.int .i64 0)] h) (eT w (λs h=>zd (zw.l82 zbr.E C Q (s 0) (s 5)) [(s 6)] h) r (λs h r=>eK (eL w [0,5] [6] (on2 (zw.l82 zbr.E C Q)) r (λY7 s h r=>eT w (λs h=>B.pv (V.zb4 1 (s 0) (s 6)) λi=>B.ld h i λj=>zd (zw.l69 zbr.E C Q Y7 (s 0) (s 5) (s 6)) [j,(.int .i64 0)] h) r (λs h r=>eS w (λs h=>B.pv (V.bin .add (s 6) (.int .i64 1)) λa=>Y7 [a] h) (eK (eT w (λs h=>zd (zw.l69 zbr.E C Q Y7 (s 0) (s 5) (s 6)) [(s 7),(.int .i64 0)] h) r (λs h r=>eS w (λs h=>B.pv (V.zb4 1 (s 5) (s 6)) λk=>B.st h k (s 7) λh=>B.pv (V.bin .add (s 6) (.int .i64 1)) λa=>Y7 [a] h) (eT w (λs h=>zd (zw.l69 zbr.E C Q Y7 (s 0) (s 5) (s 6)) [(s 7),(s 8)] h) r (λs h r=>eK (eL w [0,5,6] [7,8] (on3 (zw.l69 zbr.E C Q Y7)) r (λY8 s h r=>e1 r)))) (λs h r=>e1 r)))) (λs h r=>e1 r)))))) (λs h r=>eS w (λs h=>zd (zw.l40 zbr.E C Q (s 0) (s 5)) [(.int .i64 0)] h) (eT w (λs h=>zd (zw.l59 zbr.E C Q (s 0) (s 5)) [(s 9)] h) r (λs h r=>eK (eL w [0,5] [9] (on2 (zw.l59 zbr.E C Q)) r (λY5 s h r=>eT w (λs h=>zd (zw.l49 zbr.E C Q Y5 (s 0) (s 5) (s 9)) [(.int .i64 0)] h) r (λs h r=>eS w (λs h=>B.pv (V.bin .add (s 9) (.int .i64 1)) λl=>Y5 [l] h) (eK (eT w (λs h=>zd (zw.l49 zbr.E C Q Y5 (s 0) (s 5) (s 9)) [(s 10)] h) r (λs h r=>eK (eL w [0,5,9] [10] (on3 (zw.l49 zbr.E C Q Y5)) r (λY6 s h r=>e1 r))))) (λs h r=>e1 r)))))) (λs h r=>eS w (λs h=>zd (zw.l15 zbr.E C Q (s 0) (s 5)) [(.int .i64 0)] h) (eT w (λs h=>zd (zw.l40 zbr.E C Q (s 0) (s 5)) [(s 11)] h) r (λs h r=>eK (eL w [0,5] [11] (on2 (zw.l40 zbr.E C Q)) r (λY3 s h r=>eT w (λs h=>0<2 /\ B.mks h 24 (some [.str [],.int .i64 0]) (.int .i64 64) (.int .i64 64) λc h=>zd (zw.l26 zbr.E C Q Y3 (s 0) (s 5) (s 11) c) [(.int .i64 0)] h) r (λs h r=>eS w (λs h=>B.pv (V.bin .add (s 11) (.int .i64 1)) λd=>Y3 [d] h) (eK (eT w (λs h=>zd (zw.l26 zbr.E C Q Y3 (s 0) (s 5) (s 11) (s 12)) [(.int .i64 0)] h) r (λs h r=>eS w (λs h=>zw.k22 zbr.E C Q Y3 (s 0) (s 5) (s 11) (s 12) h) (eT w (λs h=>zd (zw.l26 zbr.E C Q Y3 (s 0) (s 5) (s 11) (s 12)) [(s 13)] h) r (λs h r=>eK (eL w [0,5,11,12] [13] (on4 (zw.l26 zbr.E C Q Y3)) r (λY4 s h r=>e1 r)))) (λs h r=>e1 r)))) (λs h r=>e1 r)))))) (λs h r=>eS w (λs h=>Q (.bool true) h) (eT w (λs h=>zd (zw.l15 zbr.E C Q (s 0) (s 5)) [(s 14)] h) r (λs h r=>eK (eL w [0,5] [14] (on2 (zw.l15 zbr.E C Q)) r (λY1 s h r=>eT w (λs h=>zd (zw.l5 zbr.E C Q Y1 (s 0) (s 5) (s 14)) [(.int .i64 0)] h) r (λs h r=>eS w (λs h=>B.pv (V.bin .add (s 14) (.int .i64 1)) λe=>Y1 [e] h) (eK (eT w (λs h=>zd (zw.l5 zbr.E C Q Y1 (s 0) (s 5) (s 14)) [(s 15)] h) r (λs h r=>eK (eL w [0,5,14] [15] (on3 (zw.l5 zbr.E C Q Y1)) r (λY2 s h r=>e1 r))))) (λs h r=>e1 r)))))) (λs h r=>e1 r)))))))
theorem zbr.imp:zbr.Imp (AC P) N:=λa h Q r=>eF mixed (fn:=Tryz.f92) (λk=>zbr.L k (dn Q) (zby [a]) h r)
def zbh.I:Bx:=⟨[],[],193,[(7,pz [(7,[3])] 10),(24,pz [(9,[3,6]),(30,[24,27])] 35),(41,pz [(9,[3,6]),(22,[16,19])] 26)]⟩
abbrev zbh.E(C:zh):z6:=opsD C 4 72 [.str [],.int .i64 0,.zbp,.zbp] (N 109) (N 110)
theorem zbh.L:LkT P zbh.I Tryz.f93 λC Q s h=>zbh.cps C N (s 0) h Q:=λ{C} w Q s h r=>eT w (λs h=>zd (zw.zou (zbh.E C) C Q (s 0)) [(.int .i64 0)] h) r (λs h r=>eS w (λs h=>B.pv (V.zbg (s 0)) λb=>0<1 /\ B.mks h 24 (some [.zbp]) b b λf h=>zd (zw.l82 (zbh.E C) C Q (s 0) f) [(.int .i64 0)] h) (eT w (λs h=>zd (zw.zou (zbh.E C) C Q (s 0)) [(s 3)] h) r (λs h r=>eK (eL w [0] [3] (on1 (zw.zou (zbh.E C) C Q)) r (λY9 s h r=>eT w (λs h=>zd (zw.l93 (zbh.E C) C Q Y9 (s 0) (s 3)) [(.int .i64 0)] h) r (λs h r=>eS w (λs h=>B.pv (V.bin .add (s 3) (.int .i64 1)) λg=>Y9 [g] h) (eK (eT w (λs h=>zd (zw.l93 (zbh.E C) C Q Y9 (s 0) (s 3)) [(s 4)] h) r (λs h r=>eK (eL w [0,3] [4] (on2 (zw.l93 (zbh.E C) C Q Y9)) r (λY10 s h r=>e1 r))))) (λs h r=>e1 r)))))) (λs h r=>eT w (λs h=>zd (zw.l82 (zbh.E C) C Q (s 0) (s 5)) [(.int .i64 0)] h) r (λs h r=>eS w (λs h=>zd (zw.l59 (zbh.E C) C Q (s 0) (s 5)) [(.int .i64 0)] h) (eT w (λs h=>zd (zw.l82 (zbh.E C) C Q (s 0) (s 5)) [(s 6)] h) r (λs h r=>eK (eL w [0,5] [6] (on2 (zw.l82 (zbh.E C) C Q)) r (λY7 s h r=>eT w (λs h=>B.pv (V.zb4 1 (s 0) (s 6)) λi=>B.ld h i λj=>zd (zw.l69 (zbh.E C) C Q Y7 (s 0) (s 5) (s 6)) [j,(.int .i64 0)] h) r (λs h r=>eS w (λs h=>B.pv (V.bin .add (s 6) (.int .i64 1)) λa=>Y7 [a] h) (eK (eT w (λs h=>zd (zw.l69 (zbh.E C) C Q Y7 (s 0) (s 5) (s 6)) [(s 7),(.int .i64 0)] h) r (λs h r=>eS w (λs h=>B.pv (V.zb4 1 (s 5) (s 6)) λk=>B.st h k (s 7) λh=>B.pv (V.bin .add (s 6) (.int .i64 1)) λa=>Y7 [a] h) (eT w (λs h=>zd (zw.l69 (zbh.E C) C Q Y7 (s 0) (s 5) (s 6)) [(s 7),(s 8)] h) r (λs h r=>eK (eL w [0,5,6] [7,8] (on3 (zw.l69 (zbh.E C) C Q Y7)) r (λY8 s h r=>e1 r)))) (λs h r=>e1 r)))) (λs h r=>e1 r)))))) (λs h r=>eS w (λs h=>zd (zw.l40 (zbh.E C) C Q (s 0) (s 5)) [(.int .i64 0)] h) (eT w (λs h=>zd (zw.l59 (zbh.E C) C Q (s 0) (s 5)) [(s 9)] h) r (λs h r=>eK (eL w [0,5] [9] (on2 (zw.l59 (zbh.E C) C Q)) r (λY5 s h r=>eT w (λs h=>zd (zw.l49 (zbh.E C) C Q Y5 (s 0) (s 5) (s 9)) [(.int .i64 0)] h) r (λs h r=>eS w (λs h=>B.pv (V.bin .add (s 9) (.int .i64 1)) λl=>Y5 [l] h) (eK (eT w (λs h=>zd (zw.l49 (zbh.E C) C Q Y5 (s 0) (s 5) (s 9)) [(s 10)] h) r (λs h r=>eK (eL w [0,5,9] [10] (on3 (zw.l49 (zbh.E C) C Q Y5)) r (λY6 s h r=>e1 r))))) (λs h r=>e1 r)))))) (λs h r=>eS w (λs h=>zd (zw.l15 (zbh.E C) C Q (s 0) (s 5)) [(.int .i64 0)] h) (eT w (λs h=>zd (zw.l40 (zbh.E C) C Q (s 0) (s 5)) [(s 11)] h) r (λs h r=>eK (eL w [0,5] [11] (on2 (zw.l40 (zbh.E C) C Q)) r (λY3 s h r=>eT w (λs h=>0<4 /\ B.mks h 72 (some [.str [],.int .i64 0,.zbp,.zbp]) (.int .i64 64) (.int .i64 64) λc h=>zd (zw.l26 (zbh.E C) C Q Y3 (s 0) (s 5) (s 11) c) [(.int .i64 0)] h) r (λs h r=>eS w (λs h=>B.pv (V.bin .add (s 11) (.int .i64 1)) λd=>Y3 [d] h) (eK (eT w (λs h=>zd (zw.l26 (zbh.E C) C Q Y3 (s 0) (s 5) (s 11) (s 12)) [(.int .i64 0)] h) r (λs h r=>eS w (λs h=>zw.k22 (zbh.E C) C Q Y3 (s 0) (s 5) (s 11) (s 12) h) (eT w (λs h=>zd (zw.l26 (zbh.E C) C Q Y3 (s 0) (s 5) (s 11) (s 12)) [(s 13)] h) r (λs h r=>eK (eL w [0,5,11,12] [13] (on4 (zw.l26 (zbh.E C) C Q Y3)) r (λY4 s h r=>e1 r)))) (λs h r=>e1 r)))) (λs h r=>e1 r)))))) (λs h r=>eS w (λs h=>Q (.bool true) h) (eT w (λs h=>zd (zw.l15 (zbh.E C) C Q (s 0) (s 5)) [(s 14)] h) r (λs h r=>eK (eL w [0,5] [14] (on2 (zw.l15 (zbh.E C) C Q)) r (λY1 s h r=>eT w (λs h=>zd (zw.l5 (zbh.E C) C Q Y1 (s 0) (s 5) (s 14)) [(.int .i64 0)] h) r (λs h r=>eS w (λs h=>B.pv (V.bin .add (s 14) (.int .i64 1)) λe=>Y1 [e] h) (eK (eT w (λs h=>zd (zw.l5 (zbh.E C) C Q Y1 (s 0) (s 5) (s 14)) [(s 15)] h) r (λs h r=>eK (eL w [0,5,14] [15] (on3 (zw.l5 (zbh.E C) C Q Y1)) r (λY2 s h r=>e1 r))))) (λs h r=>e1 r)))))) (λs h r=>e1 r)))))))
theorem zbh.imp:zbh.Imp (AC P) N:=λa h Q r=>eF mixed (fn:=Tryz.f93) (λk=>zbh.L k (dn Q) (zby [a]) h r)
def zbs.I:Bx:=⟨[],[],193,[(7,pz [(7,[3])] 10),(24,pz [(9,[3,6]),(30,[24,27])] 35),(41,pz [(9,[3,6]),(22,[16,19])] 26)]⟩
abbrev zbs.E:z6:=zth 8 80 [.int .i64 0,.str [],.int .i64 0,.int .i64 0,.int .i64 0,.int .u8 0,.int .i64 0,.str []] (N 111) [.i .i64,.s,.i .i64,.i .i64,.i .i64,.i .u8,.i .i64,.s]
theorem zbs.L:LkT P zbs.I Tryz.f94 λC Q s h=>zbs.cps C N (s 0) h Q:=λ{C} w Q s h r=>eT w (λs h=>zd (zw.zou zbs.E C Q (s 0)) [(.int .i64 0)] h) r (λs h r=>eS w (λs h=>B.pv (V.zbg (s 0)) λb=>0<1 /\ B.mks h 24 (some [.zbp]) b b λf h=>zd (zw.l82 zbs.E C Q (s 0) f) [(.int .i64 0)] h) (eT w (λs h=>zd (zw.zou zbs.E C Q (s 0)) [(s 3)] h) r (λs h r=>eK (eL w [0] [3] (on1 (zw.zou zbs.E C Q)) r (λY9 s h r=>eT w (λs h=>zd (zw.l93 zbs.E C Q Y9 (s 0) (s 3)) [(.int .i64 0)] h) r (λs h r=>eS w (λs h=>B.pv (V.bin .add (s 3) (.int .i64 1)) λg=>Y9 [g] h) (eK (eT w (λs h=>zd (zw.l93 zbs.E C Q Y9 (s 0) (s 3)) [(s 4)] h) r (λs h r=>eK (eL w [0,3] [4] (on2 (zw.l93 zbs.E C Q Y9)) r (λY10 s h r=>e1 r))))) (λs h r=>e1 r)))))) (λs h r=>eT w (λs h=>zd (zw.l82 zbs.E C Q (s 0) (s 5)) [(.int .i64 0)] h) r (λs h r=>eS w (λs h=>zd (zw.l59 zbs.E C Q (s 0) (s 5)) [(.int .i64 0)] h) (eT w (λs h=>zd (zw.l82 zbs.E C Q (s 0) (s 5)) [(s 6)] h) r (λs h r=>eK (eL w [0,5] [6] (on2 (zw.l82 zbs.E C Q)) r (λY7 s h r=>eT w (λs h=>B.pv (V.zb4 1 (s 0) (s 6)) λi=>B.ld h i λj=>zd (zw.l69 zbs.E C Q Y7 (s 0) (s 5) (s 6)) [j,(.int .i64 0)] h) r (λs h r=>eS w (λs h=>B.pv (V.bin .add (s 6) (.int .i64 1)) λa=>Y7 [a] h) (eK (eT w (λs h=>zd (zw.l69 zbs.E C Q Y7 (s 0) (s 5) (s 6)) [(s 7),(.int .i64 0)] h) r (λs h r=>eS w (λs h=>B.pv (V.zb4 1 (s 5) (s 6)) λk=>B.st h k (s 7) λh=>B.pv (V.bin .add (s 6) (.int .i64 1)) λa=>Y7 [a] h) (eT w (λs h=>zd (zw.l69 zbs.E C Q Y7 (s 0) (s 5) (s 6)) [(s 7),(s 8)] h) r (λs h r=>eK (eL w [0,5,6] [7,8] (on3 (zw.l69 zbs.E C Q Y7)) r (λY8 s h r=>e1 r)))) (λs h r=>e1 r)))) (λs h r=>e1 r)))))) (λs h r=>eS w (λs h=>zd (zw.l40 zbs.E C Q (s 0) (s 5)) [(.int .i64 0)] h) (eT w (λs h=>zd (zw.l59 zbs.E C Q (s 0) (s 5)) [(s 9)] h) r (λs h r=>eK (eL w [0,5] [9] (on2 (zw.l59 zbs.E C Q)) r (λY5 s h r=>eT w (λs h=>zd (zw.l49 zbs.E C Q Y5 (s 0) (s 5) (s 9)) [(.int .i64 0)] h) r (λs h r=>eS w (λs h=>B.pv (V.bin .add (s 9) (.int .i64 1)) λl=>Y5 [l] h) (eK (eT w (λs h=>zd (zw.l49 zbs.E C Q Y5 (s 0) (s 5) (s 9)) [(s 10)] h) r (λs h r=>eK (eL w [0,5,9] [10] (on3 (zw.l49 zbs.E C Q Y5)) r (λY6 s h r=>e1 r))))) (λs h r=>e1 r)))))) (λs h r=>eS w (λs h=>zd (zw.l15 zbs.E C Q (s 0) (s 5)) [(.int .i64 0)] h) (eT w (λs h=>zd (zw.l40 zbs.E C Q (s 0) (s 5)) [(s 11)] h) r (λs h r=>eK (eL w [0,5] [11] (on2 (zw.l40 zbs.E C Q)) r (λY3 s h r=>eT w (λs h=>0<8 /\ B.mks h 80 (some [.int .i64 0,.str [],.int .i64 0,.int .i64 0,.int .i64 0,.int .u8 0,.int .i64 0,.str []]) (.int .i64 64) (.int .i64 64) λc h=>zd (zw.l26 zbs.E C Q Y3 (s 0) (s 5) (s 11) c) [(.int .i64 0)] h) r (λs h r=>eS w (λs h=>B.pv (V.bin .add (s 11) (.int .i64 1)) λd=>Y3 [d] h) (eK (eT w (λs h=>zd (zw.l26 zbs.E C Q Y3 (s 0) (s 5) (s 11) (s 12)) [(.int .i64 0)] h) r (λs h r=>eS w (λs h=>zw.k22 zbs.E C Q Y3 (s 0) (s 5) (s 11) (s 12) h) (eT w (λs h=>zd (zw.l26 zbs.E C Q Y3 (s 0) (s 5) (s 11) (s 12)) [(s 13)] h) r (λs h r=>eK (eL w [0,5,11,12] [13] (on4 (zw.l26 zbs.E C Q Y3)) r (λY4 s h r=>e1 r)))) (λs h r=>e1 r)))) (λs h r=>e1 r)))))) (λs h r=>eS w (λs h=>Q (.bool true) h) (eT w (λs h=>zd (zw.l15 zbs.E C Q (s 0) (s 5)) [(s 14)] h) r (λs h r=>eK (eL w [0,5] [14] (on2 (zw.l15 zbs.E C Q)) r (λY1 s h r=>eT w (λs h=>zd (zw.l5 zbs.E C Q Y1 (s 0) (s 5) (s 14)) [(.int .i64 0)] h) r (λs h r=>eS w (λs h=>B.pv (V.bin .add (s 14) (.int .i64 1)) λe=>Y1 [e] h) (eK (eT w (λs h=>zd (zw.l5 zbs.E C Q Y1 (s 0) (s 5) (s 14)) [(s 15)] h) r (λs h r=>eK (eL w [0,5,14] [15] (on3 (zw.l5 zbs.E C Q Y1)) r (λY2 s h r=>e1 r))))) (λs h r=>e1 r)))))) (λs h r=>e1 r)))))))
theorem zbs.imp:zbs.Imp (AC P) N:=λa h Q r=>eF mixed (fn:=Tryz.f94) (λk=>zbs.L k (dn Q) (zby [a]) h r)
def zh0.I:Bx:=⟨[],[],193,[(7,pz [(7,[3])] 10),(24,pz [(9,[3,6]),(30,[24,27])] 35),(41,pz [(9,[3,6]),(22,[16,19])] 26)]⟩
def zhh.I:Bx:=⟨[],[],193,[(7,pz [(7,[3])] 10),(24,pz [(9,[3,6]),(30,[24,27])] 35),(41,pz [(9,[3,6]),(22,[16,19])] 26)]⟩
def zbb.I:Bx:=⟨[],[],193,[(7,pz [(7,[3])] 10),(24,pz [(9,[3,6]),(30,[24,27])] 35),(41,pz [(9,[3,6]),(22,[16,19])] 26)]⟩
abbrev zbb.E(C:zh):z6:=opsD C 6 96 [.int .i64 0,.int .i64 0,.int .i64 0,.zbp,.zbp,.zbp] (N 115) (N 116)
theorem zbb.L:LkT P zbb.I Tryz.f97 λC Q s h=>zbb.cps C N (s 0) h Q:=λ{C} w Q s h r=>eT w (λs h=>zd (zw.zou (zbb.E C) C Q (s 0)) [(.int .i64 0)] h) r (λs h r=>eS w (λs h=>B.pv (V.zbg (s 0)) λb=>0<1 /\ B.mks h 24 (some [.zbp]) b b λf h=>zd (zw.l82 (zbb.E C) C Q (s 0) f) [(.int .i64 0)] h) (eT w (λs h=>zd (zw.zou (zbb.E C) C Q (s 0)) [(s 3)] h) r (λs h r=>eK (eL w [0] [3] (on1 (zw.zou (zbb.E C) C Q)) r (λY9 s h r=>eT w (λs h=>zd (zw.l93 (zbb.E C) C Q Y9 (s 0) (s 3)) [(.int .i64 0)] h) r (λs h r=>eS w (λs h=>B.pv (V.bin .add (s 3) (.int .i64 1)) λg=>Y9 [g] h) (eK (eT w (λs h=>zd (zw.l93 (zbb.E C) C Q Y9 (s 0) (s 3)) [(s 4)] h) r (λs h r=>eK (eL w [0,3] [4] (on2 (zw.l93 (zbb.E C) C Q Y9)) r (λY10 s h r=>e1 r))))) (λs h r=>e1 r)))))) (λs h r=>eT w (λs h=>zd (zw.l82 (zbb.E C) C Q (s 0) (s 5)) [(.int .i64 0)] h) r (λs h r=>eS w (λs h=>zd (zw.l59 (zbb.E C) C Q (s 0) (s 5)) [(.int .i64 0)] h) (eT w (λs h=>zd (zw.l82 (zbb.E C) C Q (s 0) (s 5)) [(s 6)] h) r (λs h r=>eK (eL w [0,5] [6] (on2 (zw.l82 (zbb.E C) C Q)) r (λY7 s h r=>eT w (λs h=>B.pv (V.zb4 1 (s 0) (s 6)) λi=>B.ld h i λj=>zd (zw.l69 (zbb.E C) C Q Y7 (s 0) (s 5) (s 6)) [j,(.int .i64 0)] h) r (λs h r=>eS w (λs h=>B.pv (V.bin .add (s 6) (.int .i64 1)) λa=>Y7 [a] h) (eK (eT w (λs h=>zd (zw.l69 (zbb.E C) C Q Y7 (s 0) (s 5) (s 6)) [(s 7),(.int .i64 0)] h) r (λs h r=>eS w (λs h=>B.pv (V.zb4 1 (s 5) (s 6)) λk=>B.st h k (s 7) λh=>B.pv (V.bin .add (s 6) (.int .i64 1)) λa=>Y7 [a] h) (eT w (λs h=>zd (zw.l69 (zbb.E C) C Q Y7 (s 0) (s 5) (s 6)) [(s 7),(s 8)] h) r (λs h r=>eK (eL w [0,5,6] [7,8] (on3 (zw.l69 (zbb.E C) C Q Y7)) r (λY8 s h r=>e1 r)))) (λs h r=>e1 r)))) (λs h r=>e1 r)))))) (λs h r=>eS w (λs h=>zd (zw.l40 (zbb.E C) C Q (s 0) (s 5)) [(.int .i64 0)] h) (eT w (λs h=>zd (zw.l59 (zbb.E C) C Q (s 0) (s 5)) [(s 9)] h) r (λs h r=>eK (eL w [0,5] [9] (on2 (zw.l59 (zbb.E C) C Q)) r (λY5 s h r=>eT w (λs h=>zd (zw.l49 (zbb.E C) C Q Y5 (s 0) (s 5) (s 9)) [(.int .i64 0)] h) r (λs h r=>eS w (λs h=>B.pv (V.bin .add (s 9) (.int .i64 1)) λl=>Y5 [l] h) (eK (eT w (λs h=>zd (zw.l49 (zbb.E C) C Q Y5 (s 0) (s 5) (s 9)) [(s 10)] h) r (λs h r=>eK (eL w [0,5,9] [10] (on3 (zw.l49 (zbb.E C) C Q Y5)) r (λY6 s h r=>e1 r))))) (λs h r=>e1 r)))))) (λs h r=>eS w (λs h=>zd (zw.l15 (zbb.E C) C Q (s 0) (s 5)) [(.int .i64 0)] h) (eT w (λs h=>zd (zw.l40 (zbb.E C) C Q (s 0) (s 5)) [(s 11)] h) r (λs h r=>eK (eL w [0,5] [11] (on2 (zw.l40 (zbb.E C) C Q)) r (λY3 s h r=>eT w (λs h=>0<6 /\ B.mks h 96 (some [.int .i64 0,.int .i64 0,.int .i64 0,.zbp,.zbp,.zbp]) (.int .i64 64) (.int .i64 64) λc h=>zd (zw.l26 (zbb.E C) C Q Y3 (s 0) (s 5) (s 11) c) [(.int .i64 0)] h) r (λs h r=>eS w (λs h=>B.pv (V.bin .add (s 11) (.int .i64 1)) λd=>Y3 [d] h) (eK (eT w (λs h=>zd (zw.l26 (zbb.E C) C Q Y3 (s 0) (s 5) (s 11) (s 12)) [(.int .i64 0)] h) r (λs h r=>eS w (λs h=>zw.k22 (zbb.E C) C Q Y3 (s 0) (s 5) (s 11) (s 12) h) (eT w (λs h=>zd (zw.l26 (zbb.E C) C Q Y3 (s 0) (s 5) (s 11) (s 12)) [(s 13)] h) r (λs h r=>eK (eL w [0,5,11,12] [13] (on4 (zw.l26 (zbb.E C) C Q Y3)) r (λY4 s h r=>e1 r)))) (λs h r=>e1 r)))) (λs h r=>e1 r)))))) (λs h r=>eS w (λs h=>Q (.bool true) h) (eT w (λs h=>zd (zw.l15 (zbb.E C) C Q (s 0) (s 5)) [(s 14)] h) r (λs h r=>eK (eL w [0,5] [14] (on2 (zw.l15 (zbb.E C) C Q)) r (λY1 s h r=>eT w (λs h=>zd (zw.l5 (zbb.E C) C Q Y1 (s 0) (s 5) (s 14)) [(.int .i64 0)] h) r (λs h r=>eS w (λs h=>B.pv (V.bin .add (s 14) (.int .i64 1)) λe=>Y1 [e] h) (eK (eT w (λs h=>zd (zw.l5 (zbb.E C) C Q Y1 (s 0) (s 5) (s 14)) [(s 15)] h) r (λs h r=>eK (eL w [0,5,14] [15] (on3 (zw.l5 (zbb.E C) C Q Y1)) r (λY2 s h r=>e1 r))))) (λs h r=>e1 r)))))) (λs h r=>e1 r)))))))
theorem zbb.imp:zbb.Imp (AC P) N:=λa h Q r=>eF mixed (fn:=Tryz.f97) (λk=>zbb.L k (dn Q) (zby [a]) h r)
def zhy.I:Bx:=⟨[],[],193,[(7,pz [(7,[3])] 10),(24,pz [(9,[3,6]),(30,[24,27])] 35),(41,pz [(9,[3,6]),(22,[16,19])] 26)]⟩
def zhg.I:Bx:=⟨[],[],193,[(7,pz [(7,[3])] 10),(24,pz [(9,[3,6]),(30,[24,27])] 35),(41,pz [(9,[3,6]),(22,[16,19])] 26)]⟩
def zhm.I:Bx:=⟨[],[],193,[(7,pz [(7,[3])] 10),(24,pz [(9,[3,6]),(30,[24,27])] 35),(41,pz [(9,[3,6]),(22,[16,19])] 26)]⟩
def zgv.I:Bx:=⟨[],[],193,[(7,pz [(7,[3])] 10),(24,pz [(9,[3,6]),(30,[24,27])] 35),(41,pz [(9,[3,6]),(22,[16,19])] 26)]⟩
def zhk.I:Bx:=⟨[],[],193,[(7,pz [(7,[3])] 10),(24,pz [(9,[3,6]),(30,[24,27])] 35),(41,pz [(9,[3,6]),(22,[16,19])] 26)]⟩
def zgu.I:Bx:=⟨[],[],193,[(7,pz [(7,[3])] 10),(24,pz [(9,[3,6]),(30,[24,27])] 35),(41,pz [(9,[3,6]),(22,[16,19])] 26)]⟩
def zhj.I:Bx:=⟨[],[],193,[(7,pz [(7,[3])] 10),(24,pz [(9,[3,6]),(30,[24,27])] 35),(41,pz [(9,[3,6]),(22,[16,19])] 26)]⟩
def zhi.I:Bx:=⟨[],[],193,[(7,pz [(7,[3])] 10),(24,pz [(9,[3,6]),(30,[24,27])] 35),(41,pz [(9,[3,6]),(22,[16,19])] 26)]⟩
def zfz.I:Bx:=⟨[4],[],9,[]⟩
theorem zfz.L:LkT P zfz.I Tryz.f106 λC Q s h=>zfz.cps C N (s 0) (s 1) h Q:=λ{C} k Q s h r=>e1 r
theorem zfz.imp:zfz.Imp (AC P) N:=λa b h Q r=>eF mixed (fn:=Tryz.f106) (λk=>zfz.L k (dn Q) (zby [a,b]) h r)
def ze9.I:Bx:=⟨[4],[],9,[]⟩
theorem ze9.L:LkT P ze9.I Tryz.f107 λC Q s h=>ze9.cps C N (s 0) (s 1) h Q:=λ{C} k Q s h r=>e1 r
theorem ze9.imp:ze9.Imp (AC P) N:=λa b h Q r=>eF mixed (fn:=Tryz.f107) (λk=>ze9.L k (dn Q) (zby [a,b]) h r)
def zbn.I:Bx:=⟨[],[],19,[]⟩
abbrev zbn.E:z6:=zth 4 72 [.str [],.int .i64 0,.zbp,.zbp] 0 []
theorem zbn.L:LkT P zbn.I Tryz.f108 λC Q s h=>zbn.cps C N (s 0) (s 1) h Q:=λ{C} k Q s h r=>eT k (λs h=>B.pv (V.zbg (s 0)) λa=>zd (zcn.l2 C zbn.E Q (s 0) (s 1) a) [(.int .i64 0)] h) r (λs h r=>eS k (λs h=>Q (.int .i64 (-1)) h) (eT k (λs h=>zd (zcn.l2 C zbn.E Q (s 0) (s 1) (s 7)) [(s 8)] h) r (λs h r=>eK (eL k [0,1,7] [8] (on3 (zcn.l2 C zbn.E Q)) r (λY1 s h r=>e1 r)))) (λs h r=>e1 r))
theorem zbn.imp:zbn.Imp (AC P) N:=λa b h Q r=>eF mixed (fn:=Tryz.f108) (λk=>zbn.L k (dn Q) (zby [a,b]) h r)
def zo.I:Bx:=⟨[],[],36,[]⟩
theorem zo.L:LkT P zo.I Tryz.f109 λC Q s h=>zo.cps C N (s 0) h Q:=λ{C} k Q s h r=>eT k (λs h=>B.pv (V.zbg (s 0)) λa=>zd (zo.l4 C N Q (s 0) (s 0) a) [(.int .i64 0),(.int .i64 0)] h) r (λs h r=>eT k (λs h=>B.pv (V.zbg (s 0)) λa=>zd (zo.l4 C N Q (s 0) (s 0) a) [(s 3),(.int .i64 0)] h) r (λs h r=>eS k (λs h=>B.call C (N 376) [.zbp,(s 3)] h λc h=>B.pv (V.zbg (s 0)) λb=>zd (zo.l2 C N Q (s 0) b) [c,(.int .i64 0)] h) (eT k (λs h=>zd (zo.l4 C N Q (s 0) (s 9) (s 10)) [(s 3),(s 11)] h) r (λs h r=>eK (eL k [0,9,10] [3,11] (on3 (zo.l4 C N Q)) r (λY2 s h r=>e1 r)))) (λs h r=>eT k (λs h=>B.pv (V.zbg (s 0)) λb=>zd (zo.l2 C N Q (s 0) b) [(s 6),(.int .i64 0)] h) r (λs h r=>eS k (λs h=>Q (s 6) h) (eT k (λs h=>zd (zo.l2 C N Q (s 25) (s 26)) [(s 6),(s 27)] h) r (λs h r=>eK (eL k [25,26] [6,27] (on2 (zo.l2 C N Q)) r (λY1 s h r=>e1 r)))) (λs h r=>e1 r)))))
theorem zo.imp:zo.Imp (AC P) N:=λa h Q r=>eF mixed (fn:=Tryz.f109) (λk=>zo.L k (dn Q) (zby [a]) h r)
def zcc.I:Bx:=⟨[],[],19,[]⟩
theorem zcc.L:LkT P zcc.I Tryz.f110 λC Q s h=>zcc.cps C N (s 0) (s 1) h Q:=λ{C} k Q s h r=>eT k (λs h=>B.pv (V.zbg (s 0)) λa=>zd (zg2.l2 C (zc3 16 (.str []) 0) Q (s 0) (s 1) a) [(.int .i64 0)] h) r (λs h r=>eS k (λs h=>Q (.int .i64 (-1)) h) (eT k (λs h=>zd (zg2.l2 C (zc3 16 (.str []) 0) Q (s 0) (s 1) (s 7)) [(s 8)] h) r (λs h r=>eK (eL k [0,1,7] [8] (on3 (zg2.l2 C (zc3 16 (.str []) 0) Q)) r (λY1 s h r=>e1 r)))) (λs h r=>e1 r))
theorem zcc.imp:zcc.Imp (AC P) N:=λa b h Q r=>eF mixed (fn:=Tryz.f110) (λk=>zcc.L k (dn Q) (zby [a,b]) h r)
def ze6.I:Bx:=⟨[3],[5,9,13],16,[]⟩
theorem ze6.L:LkT P ze6.I Tryz.f111 λC Q s h=>ze6.cps C N (s 0) (s 1) h Q:=λ{C} k Q s h r=>e1 r
theorem ze6.imp:ze6.Imp (AC P) N:=λa b h Q r=>eF mixed (fn:=Tryz.f111) (λk=>ze6.L k (dn Q) (zby [a,b]) h r)
def ze8.I:Bx:=⟨[4],[],9,[]⟩
theorem ze8.L:LkT P ze8.I Tryz.f112 λC Q s h=>ze8.cps C N (s 0) (s 1) h Q:=λ{C} k Q s h r=>e1 r
theorem ze8.imp:ze8.Imp (AC P) N:=λa b h Q r=>eF mixed (fn:=Tryz.f112) (λk=>ze8.L k (dn Q) (zby [a,b]) h r)
def zcp.I:Bx:=⟨[],[],49,[(4,pz [] 15),(6,pz [] 18)]⟩
theorem zcp.L:LkT P zcp.I Tryz.f113 λC Q s h=>zcp.cps C N (s 0) (s 1) (s 2) h Q:=λ{C} k Q s h r=>eT k (λs h=>zd (zco.l3 C (zc3 16 (.str []) 0) (N 377) Q (s 0) (s 1) (s 2)) [(s 6)] h) r (λs h r=>eK (eL k [0,1,2] [6] (on3 (zco.l3 C (zc3 16 (.str []) 0) (N 377) Q)) r (λY1 s h r=>eT k (λs h=>zd (zco.l2 C (zc3 16 (.str []) 0) (N 377) Q Y1 (s 0) (s 1) (s 2) (s 6)) [(s 6)] h) r (λs h r=>eS k (λs h=>B.pv (V.bin .add (s 6) (.int .i64 1)) λa=>Y1 [a] h) (eK (eT k (λs h=>zd (zco.l2 C (zc3 16 (.str []) 0) (N 377) Q Y1 (s 0) (s 1) (s 2) (s 6)) [(s 7)] h) r (λs h r=>eK (eL k [0,1,2,6] [7] (on4 (zco.l2 C (zc3 16 (.str []) 0) (N 377) Q Y1)) r (λY2 s h r=>e1 r))))) (λs h r=>e1 r)))))
theorem zcp.imp:zcp.Imp (AC P) N:=λa b c h Q r=>eF mixed (fn:=Tryz.f113) (λk=>zcp.L k (dn Q) (zby [a,b,c]) h r)
def zdh.I:Bx:=⟨[],[],56,[(10,pz [] 20)]⟩
theorem zdh.L:LkT P zdh.I Tryz.f114 λC Q s h=>zdh.cps C N (s 0) (s 1) (s 2) h Q:=λ{C} k Q s h r=>eT k (λs h=>B.pv (V.bin .sub (s 2) (s 1)) λa=>zca.k5 C (zc3 16 (.str []) 0) (N 386) Q (s 0) (s 6) (.int .i64 0) a h) r (λs h r=>eT k (λs h=>B.pv (V.bin .sub (s 2) (s 1)) λa=>zca.k5 C (zc3 16 (.str []) 0) (N 386) Q (s 0) (s 6) (s 7) a h) r (λs h r=>eT k (λs h=>zca.k5 C (zc3 16 (.str []) 0) (N 386) Q (s 0) (s 6) (s 7) (s 8) h) r (λs h r=>eS k (λs h=>B.pv (V.bin .sub (s 8) (.int .i64 1)) λb=>zd (zca.l2 C (zc3 16 (.str []) 0) (N 386) Q (s 0) (s 6) (s 7)) [b] h) (eT k (λs h=>zd (zca.l4 C (zc3 16 (.str []) 0) (N 386) Q (s 0) (s 6) (s 7) (s 8)) [(s 9)] h) r (λs h r=>eK (eL k [0,6,7,8] [9] (on4 (zca.l4 C (zc3 16 (.str []) 0) (N 386) Q)) r (λY2 s h r=>e1 r)))) (λs h r=>eT k (λs h=>zd (zca.l2 C (zc3 16 (.str []) 0) (N 386) Q (s 0) (s 6) (s 7)) [(s 10)] h) r (λs h r=>eK (eL k [0,6,7] [10] (on3 (zca.l2 C (zc3 16 (.str []) 0) (N 386) Q)) r (λY1 s h r=>e1 r)))))))
theorem zdh.imp:zdh.Imp (AC P) N:=λa b c h Q r=>eF mixed (fn:=Tryz.f114) (λk=>zdh.L k (dn Q) (zby [a,b,c]) h r)
def zcr.I:Bx:=⟨[],[],65,[(10,pz [] 20)]⟩
theorem zcr.L:LkT P zcr.I Tryz.f115 λC Q s h=>zcr.cps C N (s 0) (s 1) (s 2) h Q:=λ{C} k Q s h r=>eT k (λs h=>B.pv (V.bin .geq (s 6) (.int .i64 8)) λa=>B.cond a (zy.k7 C (zc3 16 (.str []) 0) (N 298) (N 299) Q (s 0) (s 1) (s 6) h) (Q (.tup []) h)) r (λs h r=>eT k (λs h=>B.cond (s 15) (zy.k7 C (zc3 16 (.str []) 0) (N 298) (N 299) Q (s 0) (s 1) (s 6) h) (Q (.tup []) h)) r (λs h r=>eC 15 r (λr=>eT k (λs h=>B.call C (N 299) [(s 6)] h λb h=>zy.k6 C (zc3 16 (.str []) 0) (N 298) (N 299) Q (s 0) (s 1) (s 6) (s 7) b h) r (λs h r=>eT k (λs h=>zy.k6 C (zc3 16 (.str []) 0) (N 298) (N 299) Q (s 0) (s 1) (s 6) (s 7) (s 8) h) r (λs h r=>eT k (λs h=>zd (zy.l5 C (zc3 16 (.str []) 0) (N 298) (N 299) Q (s 0) (s 1) (s 6) (s 7) (s 8)) [(s 9)] h) r (λs h r=>eK (eL k [0,1,6,7,8] [9] (on5 (zy.l5 C (zc3 16 (.str []) 0) (N 298) (N 299) Q)) r (λY1 s h r=>eT k (λs h=>zy.k3 C (zc3 16 (.str []) 0) (N 298) (N 299) Q Y1 (s 0) (s 1) (s 6) (s 7) (s 8) (s 9) h) r (λs h r=>eS k (λs h=>B.pv (V.bin .add (s 9) (.int .i64 1)) λc=>Y1 [c] h) (eK (eT k (λs h=>zy.k2 C (zc3 16 (.str []) 0) (N 298) (N 299) Q Y1 (s 0) (s 1) (s 6) (s 7) (s 8) (s 9) (s 10) h) r (λs h r=>eT k (λs h=>zy.k1 C (zc3 16 (.str []) 0) (N 298) (N 299) Q Y1 (s 0) (s 1) (s 6) (s 7) (s 8) (s 9) (s 10) h) r (λs h r=>e1 r)))) (λs h r=>e1 r)))))))) (λr=>e1 r)))
theorem zcr.imp:zcr.Imp (AC P) N:=λa b c h Q r=>eF mixed (fn:=Tryz.f115) (λk=>zcr.L k (dn Q) (zby [a,b,c]) h r)
def zc0.I:Bx:=⟨[],[],57,[]⟩
theorem zc0.L:LkT P zc0.I Tryz.f116 λC Q s h=>zc0.cps C N (s 0) (s 1) (s 2) h Q:=λ{C} k Q s h r=>eT k (λs h=>B.pv (V.bin .sub (s 2) (s 1)) λb=>B.zhb h (some [.int .i64 0]) λa h=>zbm.k5 C (zc3 16 (.str []) 0) (N 387) (N 388) Q (s 0) (s 1) b (.ptr a 0 0) h) r (λs h r=>eT k (λs h=>B.zhb h (some [.int .i64 0]) λa h=>zbm.k5 C (zc3 16 (.str []) 0) (N 387) (N 388) Q (s 0) (s 1) (s 8) (.ptr a 0 0) h) r (λs h r=>eT k (λs h=>zbm.k5 C (zc3 16 (.str []) 0) (N 387) (N 388) Q (s 0) (s 1) (s 8) (s 9) h) r (λs h r=>eT k (λs h=>zbm.k4 C (zc3 16 (.str []) 0) (N 387) (N 388) Q (s 0) (s 1) (s 8) (s 9) (s 10) h) r (λs h r=>eT k (λs h=>zbm.k3 C (zc3 16 (.str []) 0) (N 387) (N 388) Q (s 0) (s 1) (s 8) (s 9) (s 10) (s 11) h) r (λs h r=>eT k (λs h=>zbm.k2 C (zc3 16 (.str []) 0) (N 387) (N 388) Q (s 0) (s 8) (s 9) (s 10) (s 11) (s 12) h) r (λs h r=>eT k (λs h=>zbm.k1 C (zc3 16 (.str []) 0) (N 387) (N 388) Q (s 9) (s 11) h) r (λs h r=>e1 r)))))))
theorem zc0.imp:zc0.Imp (AC P) N:=λa b c h Q r=>eF mixed (fn:=Tryz.f116) (λk=>zc0.L k (dn Q) (zby [a,b,c]) h r)
def zcu.I:Bx:=⟨[],[],32,[(3,pz [] 16)]⟩
theorem zcu.L:LkT P zcu.I Tryz.f117 λC Q s h=>zcu.cps C N (s 0) (s 1) (s 2) h Q:=λ{C} k Q s h r=>eT k (λs h=>B.pv (V.bin .sub (s 2) (.int .i64 1)) λa=>zd (zd2.l2 C (zc3 16 (.str []) 0) Q (s 0)) [(s 6),a] h) r (λs h r=>eT k (λs h=>zd (zd2.l2 C (zc3 16 (.str []) 0) Q (s 0)) [(s 6),(s 7)] h) r (λs h r=>eK (eL k [0] [6,7] (on1 (zd2.l2 C (zc3 16 (.str []) 0) Q)) r (λY1 s h r=>e1 r))))
theorem zcu.imp:zcu.Imp (AC P) N:=λa b c h Q r=>eF mixed (fn:=Tryz.f117) (λk=>zcu.L k (dn Q) (zby [a,b,c]) h r)
def zb7.I:Bx:=⟨[],[],133,[(5,pz [] 16),(11,pz [] 18),(16,pz [] 11),(17,pz [] 18),(22,pz [] 11),(23,pz [] 18)]⟩
theorem zb7.L:LkT P zb7.I Tryz.f118 λC Q s h=>zb7.cps C N (s 0) (s 1) (s 2) h Q:=λ{C} k Q s h r=>eT k (λs h=>B.pv (V.bin .add (s 1) (.int .i64 1)) λc=>zd (zi.l12 C (zc3 16 (.str []) 0) (N 377) Q (s 0) (s 1) (s 2)) [c,(.int .i64 0)] h) r (λs h r=>eT k (λs h=>zd (zi.l12 C (zc3 16 (.str []) 0) (N 377) Q (s 0) (s 1) (s 2)) [(s 7),(.int .i64 0)] h) r (λs h r=>eS k (λs h=>Q (.bool false) h) (eT k (λs h=>zd (zi.l12 C (zc3 16 (.str []) 0) (N 377) Q (s 0) (s 1) (s 2)) [(s 7),(s 8)] h) r (λs h r=>eK (eL k [0,1,2] [7,8] (on3 (zi.l12 C (zc3 16 (.str []) 0) (N 377) Q)) r (λY1 s h r=>eT k (λs h=>zd (zi.l10 C (zc3 16 (.str []) 0) (N 377) Q Y1 (s 0) (s 1) (s 2) (s 8)) [(s 7)] h) r (λs h r=>eS k (λs h=>B.pv (V.bin .add (s 8) (.int .i64 1)) λa=>Y1 [(s 7),a] h) (eK (eS k (λs h=>B.pv (V.bin .eql (s 7) (s 2)) λd=>B.cond d (Q (.bool true) h) (zi.k8 C (zc3 16 (.str []) 0) (N 377) Q Y1 (s 0) (s 1) (s 2) (s 7) (s 8) h)) (eK (eL k [0,1,2,8] [7] (on4 (zi.l10 C (zc3 16 (.str []) 0) (N 377) Q Y1)) r (λY4 s h r=>e1 r))) (λs h r=>eT k (λs h=>zi.k8 C (zc3 16 (.str []) 0) (N 377) Q Y1 (s 0) (s 1) (s 2) (s 7) (s 8) h) r (λs h r=>eT k (λs h=>zi.k7 C (zc3 16 (.str []) 0) (N 377) Q Y1 (s 0) (s 1) (s 2) (s 7) (s 8) h) r (λs h r=>eT k (λs h=>zi.k6 C (zc3 16 (.str []) 0) (N 377) Q Y1 (s 0) (s 1) (s 2) (s 7) (s 8) h) r (λs h r=>eS k (λs h=>zi.k3 C (zc3 16 (.str []) 0) (N 377) Q Y1 (s 0) (s 1) (s 2) (s 7) (s 8) h) (eT k (λs h=>B.cond (s 61) (B.pv (V.bin .sub (s 7) (.int .i64 1)) λe=>zd (zi.l5 C (zc3 16 (.str []) 0) (N 377) Q Y1 (s 0) (s 1) (s 2) (s 7) (s 8)) [e] h) (zi.k3 C (zc3 16 (.str []) 0) (N 377) Q Y1 (s 0) (s 1) (s 2) (s 7) (s 8) h)) r (λs h r=>eC 61 r (λr=>eT k (λs h=>zd (zi.l5 C (zc3 16 (.str []) 0) (N 377) Q Y1 (s 0) (s 1) (s 2) (s 7) (s 8)) [(s 9)] h) r (λs h r=>eK (eL k [0,1,2,7,8] [9] (on5 (zi.l5 C (zc3 16 (.str []) 0) (N 377) Q Y1)) r (λY3 s h r=>e1 r)))) (λr=>e1 r))) (λs h r=>eT k (λs h=>B.cond (s 98) (B.pv (V.bin .add (s 7) (.int .i64 1)) λb=>zd (zi.l2 C (zc3 16 (.str []) 0) (N 377) Q Y1 (s 0) (s 1) (s 2) (s 7) (s 8)) [b] h) (B.pv (V.bin .add (s 8) (.int .i64 1)) λa=>Y1 [(s 7),a] h)) r (λs h r=>eC 98 r (λr=>eT k (λs h=>zd (zi.l2 C (zc3 16 (.str []) 0) (N 377) Q Y1 (s 0) (s 1) (s 2) (s 7) (s 8)) [(s 10)] h) r (λs h r=>eK (eL k [0,1,2,7,8] [10] (on5 (zi.l2 C (zc3 16 (.str []) 0) (N 377) Q Y1)) r (λY2 s h r=>e1 r)))) (λr=>e1 r))))))))) (λs h r=>e1 r)))))) (λs h r=>e1 r)))
theorem zb7.imp:zb7.Imp (AC P) N:=λa b c h Q r=>eF mixed (fn:=Tryz.f118) (λk=>zb7.L k (dn Q) (zby [a,b,c]) h r)
def zeh.I:Bx:=⟨[],[],17,[]⟩
theorem zeh.L:LkT P zeh.I Tryz.f119 λC Q s h=>zeh.cps C N (s 0) (s 1) h Q:=λ{C} k Q s h r=>e1 r
theorem zeh.imp:zeh.Imp (AC P) N:=λa b h Q r=>eF mixed (fn:=Tryz.f119) (λk=>zeh.L k (dn Q) (zby [a,b]) h r)
def zcj.I:Bx:=⟨[],[],84,[(1,pz [] 16),(3,pz [] 15),(5,pz [] 14),(8,pz [] 16)]⟩
theorem zcj.L:LkT P zcj.I Tryz.f120 λC Q s h=>zcj.cps C N (s 0) (s 1) (s 2) (s 3) h Q:=λ{C} k Q s h r=>eT k (λs h=>zz.k8 C (zc3 16 (.str []) 0) (N 377) Q (s 0) (s 1) (s 2) (s 3) h) r (λs h r=>eT k (λs h=>zz.k7 C (zc3 16 (.str []) 0) (N 377) Q (s 0) (s 1) (s 2) h) r (λs h r=>eT k (λs h=>zd (zz.l6 C (zc3 16 (.str []) 0) (N 377) Q (s 0) (s 1)) [(s 9),(s 10)] h) r (λs h r=>eS k (λs h=>Q (s 9) h) (eK (eL k [0,1] [9,10] (on2 (zz.l6 C (zc3 16 (.str []) 0) (N 377) Q)) r (λY1 s h r=>eK (eS k (λs h=>zd (zz.l3 C (zc3 16 (.str []) 0) (N 377) Q Y1 (s 0) (s 1) (s 9)) [(s 10)] h) (eK (eL k [0,1,10] [9] (on3 (zz.l5 C (zc3 16 (.str []) 0) (N 377) Q Y1)) r (λY3 s h r=>e1 r))) (λs h r=>eS k (λs h=>zz.k1 C (zc3 16 (.str []) 0) (N 377) Q Y1 (s 0) (s 1) (s 9) (s 10) h) (eK (eL k [0,1,9] [10] (on3 (zz.l3 C (zc3 16 (.str []) 0) (N 377) Q Y1)) r (λY2 s h r=>e1 r))) (λs h r=>e1 r)))))) (λs h r=>e1 r))))
theorem zcj.imp:zcj.Imp (AC P) N:=λa b c d h Q r=>eF mixed (fn:=Tryz.f120) (λk=>zcj.L k (dn Q) (zby [a,b,c,d]) h r)
def zc9.I:Bx:=⟨[],[],168,[(1,pz [] 16),(3,pz [] 14),(5,pz [] 15),(8,pz [] 16),(10,pz [] 16),(13,pz [] 14),(15,pz [] 15),(18,pz [] 16),(21,pz [] 16)]⟩
theorem zc9.L:LkT P zc9.I Tryz.f121 λC Q s h=>zc9.cps C N (s 0) (s 1) (s 2) (s 3) h Q:=λ{C} k Q s h r=>eT k (λs h=>zk.k16 C (zc3 16 (.str []) 0) (N 377) Q (s 0) (s 1) (s 2) (s 3) h) r (λs h r=>eT k (λs h=>zk.k15 C (zc3 16 (.str []) 0) (N 377) Q (s 0) (s 1) (s 2) h) r (λs h r=>eT k (λs h=>zd (zk.l14 C (zc3 16 (.str []) 0) (N 377) Q (s 0) (s 1) (s 11)) [(s 10)] h) r (λs h r=>eS k (λs h=>zd (zk.l12 C (zc3 16 (.str []) 0) (N 377) Q (s 0) (s 1) (s 10)) [(s 11)] h) (eK (eL k [0,1,11] [10] (on3 (zk.l14 C (zc3 16 (.str []) 0) (N 377) Q)) r (λY5 s h r=>e1 r))) (λs h r=>eS k (λs h=>zk.k10 C (zc3 16 (.str []) 0) (N 377) Q (s 0) (s 1) (s 10) (s 11) h) (eK (eL k [0,1,10] [11] (on3 (zk.l12 C (zc3 16 (.str []) 0) (N 377) Q)) r (λY4 s h r=>e1 r))) (λs h r=>eT k (λs h=>zk.k9 C (zc3 16 (.str []) 0) (N 377) Q (s 0) (s 1) (s 10) (s 11) h) r (λs h r=>eT k (λs h=>zk.k8 C (zc3 16 (.str []) 0) (N 377) Q (s 0) (s 1) (s 10) (s 11) h) r (λs h r=>eT k (λs h=>B.pv (V.bin .sub (s 11) (.int .i64 1)) λa=>zd (zk.l7 C (zc3 16 (.str []) 0) (N 377) Q (s 0) (s 1)) [(s 10),a] h) r (λs h r=>eT k (λs h=>zd (zk.l7 C (zc3 16 (.str []) 0) (N 377) Q (s 0) (s 1)) [(s 10),(s 11)] h) r (λs h r=>eS k (λs h=>zk.k1 C (zc3 16 (.str []) 0) (N 377) Q (s 0) (s 1) (s 11) h) (eK (eL k [0,1] [10,11] (on2 (zk.l7 C (zc3 16 (.str []) 0) (N 377) Q)) r (λY1 s h r=>eK (eS k (λs h=>zd (zk.l4 C (zc3 16 (.str []) 0) (N 377) Q Y1 (s 0) (s 1) (s 10)) [(s 11)] h) (eK (eL k [0,1,11] [10] (on3 (zk.l6 C (zc3 16 (.str []) 0) (N 377) Q Y1)) r (λY3 s h r=>e1 r))) (λs h r=>eS k (λs h=>zk.k2 C (zc3 16 (.str []) 0) (N 377) Q Y1 (s 0) (s 1) (s 10) (s 11) h) (eK (eL k [0,1,10] [11] (on3 (zk.l4 C (zc3 16 (.str []) 0) (N 377) Q Y1)) r (λY2 s h r=>e1 r))) (λs h r=>e1 r)))))) (λs h r=>e1 r))))))))))
theorem zc9.imp:zc9.Imp (AC P) N:=λa b c d h Q r=>eF mixed (fn:=Tryz.f121) (λk=>zc9.L k (dn Q) (zby [a,b,c,d]) h r)
def zcd.I:Bx:=⟨[],[],25,[]⟩
theorem zcd.L:LkT P zcd.I Tryz.f123 λC Q s h=>zcd.cps C N (s 0) h Q:=λ{C} k Q s h r=>eT k (λs h=>zcd.k4 C N Q (s 0) (s 2) h) r (λs h r=>eT k (λs h=>zcd.k3 C N Q (s 0) (s 2) h) r (λs h r=>eT k (λs h=>zcd.k2 C N Q (s 0) (s 2) h) r (λs h r=>eT k (λs h=>zcd.k1 C N Q (s 0) (s 2) h) r (λs h r=>e1 r))))
theorem zcd.imp:zcd.Imp (AC P) N:=λa h Q r=>eF mixed (fn:=Tryz.f123) (λk=>zcd.L k (dn Q) (zby [a]) h r)
def zcq.I:Bx:=⟨[],[],53,[(4,pz [] 17),(6,pz [] 18)]⟩
theorem zcq.L:LkT P zcq.I Tryz.f124 λC Q s h=>zcq.cps C N (s 0) (s 1) (s 2) (s 3) h Q:=λ{C} k Q s h r=>eT k (λs h=>zd (zbo.l3 C (zc3 24 (.zbp) 0) Q (s 0) (s 1) (s 2) (s 3)) [(s 8)] h) r (λs h r=>eK (eL k [0,1,2,3] [8] (on4 (zbo.l3 C (zc3 24 (.zbp) 0) Q)) r (λY1 s h r=>eT k (λs h=>zd (zbo.l2 C (zc3 24 (.zbp) 0) Q Y1 (s 0) (s 1) (s 2) (s 3) (s 8)) [(s 8)] h) r (λs h r=>eS k (λs h=>B.pv (V.bin .add (s 8) (.int .i64 1)) λa=>Y1 [a] h) (eK (eT k (λs h=>zd (zbo.l2 C (zc3 24 (.zbp) 0) Q Y1 (s 0) (s 1) (s 2) (s 3) (s 8)) [(s 9)] h) r (λs h r=>eK (eL k [0,1,2,3,8] [9] (on5 (zbo.l2 C (zc3 24 (.zbp) 0) Q Y1)) r (λY2 s h r=>e1 r))))) (λs h r=>e1 r)))))
theorem zcq.imp:zcq.Imp (AC P) N:=λa b c d h Q r=>eF mixed (fn:=Tryz.f124) (λk=>zcq.L k (dn Q) (zby [a,b,c,d]) h r)
def zdi.I:Bx:=⟨[],[],60,[(10,pz [] 20)]⟩
theorem zdi.L:LkT P zdi.I Tryz.f125 λC Q s h=>zdi.cps C N (s 0) (s 1) (s 2) (s 3) h Q:=λ{C} k Q s h r=>eT k (λs h=>B.pv (V.bin .sub (s 2) (s 1)) λa=>zbj.k5 C (zc3 24 (.zbp) 0) (N 591) Q (s 0) (s 3) (s 8) (.int .i64 0) a h) r (λs h r=>eT k (λs h=>B.pv (V.bin .sub (s 2) (s 1)) λa=>zbj.k5 C (zc3 24 (.zbp) 0) (N 591) Q (s 0) (s 3) (s 8) (s 9) a h) r (λs h r=>eT k (λs h=>zbj.k5 C (zc3 24 (.zbp) 0) (N 591) Q (s 0) (s 3) (s 8) (s 9) (s 10) h) r (λs h r=>eS k (λs h=>B.pv (V.bin .sub (s 10) (.int .i64 1)) λb=>zd (zbj.l2 C (zc3 24 (.zbp) 0) (N 591) Q (s 0) (s 3) (s 8) (s 9)) [b] h) (eT k (λs h=>zd (zbj.l4 C (zc3 24 (.zbp) 0) (N 591) Q (s 0) (s 3) (s 8) (s 9) (s 10)) [(s 11)] h) r (λs h r=>eK (eL k [0,3,8,9,10] [11] (on5 (zbj.l4 C (zc3 24 (.zbp) 0) (N 591) Q)) r (λY2 s h r=>e1 r)))) (λs h r=>eT k (λs h=>zd (zbj.l2 C (zc3 24 (.zbp) 0) (N 591) Q (s 0) (s 3) (s 8) (s 9)) [(s 12)] h) r (λs h r=>eK (eL k [0,3,8,9] [12] (on4 (zbj.l2 C (zc3 24 (.zbp) 0) (N 591) Q)) r (λY1 s h r=>e1 r)))))))
theorem zdi.imp:zdi.Imp (AC P) N:=λa b c d h Q r=>eF mixed (fn:=Tryz.f125) (λk=>zdi.L k (dn Q) (zby [a,b,c,d]) h r)
def zcs.I:Bx:=⟨[],[],67,[(10,pz [] 20)]⟩
theorem zcs.L:LkT P zcs.I Tryz.f126 λC Q s h=>zcs.cps C N (s 0) (s 1) (s 2) (s 3) h Q:=λ{C} k Q s h r=>eT k (λs h=>B.pv (V.bin .geq (s 8) (.int .i64 8)) λa=>B.cond a (zn.k7 C (zc3 24 (.zbp) 0) (N 298) (N 299) Q (s 0) (s 1) (s 8) h) (Q (.tup []) h)) r (λs h r=>eT k (λs h=>B.cond (s 17) (zn.k7 C (zc3 24 (.zbp) 0) (N 298) (N 299) Q (s 0) (s 1) (s 8) h) (Q (.tup []) h)) r (λs h r=>eC 17 r (λr=>eT k (λs h=>B.call C (N 299) [(s 8)] h λb h=>zn.k6 C (zc3 24 (.zbp) 0) (N 298) (N 299) Q (s 0) (s 1) (s 8) (s 9) b h) r (λs h r=>eT k (λs h=>zn.k6 C (zc3 24 (.zbp) 0) (N 298) (N 299) Q (s 0) (s 1) (s 8) (s 9) (s 10) h) r (λs h r=>eT k (λs h=>zd (zn.l5 C (zc3 24 (.zbp) 0) (N 298) (N 299) Q (s 0) (s 1) (s 8) (s 9) (s 10)) [(s 11)] h) r (λs h r=>eK (eL k [0,1,8,9,10] [11] (on5 (zn.l5 C (zc3 24 (.zbp) 0) (N 298) (N 299) Q)) r (λY1 s h r=>eT k (λs h=>zn.k3 C (zc3 24 (.zbp) 0) (N 298) (N 299) Q Y1 (s 0) (s 1) (s 8) (s 9) (s 10) (s 11) h) r (λs h r=>eS k (λs h=>B.pv (V.bin .add (s 11) (.int .i64 1)) λc=>Y1 [c] h) (eK (eT k (λs h=>zn.k2 C (zc3 24 (.zbp) 0) (N 298) (N 299) Q Y1 (s 0) (s 1) (s 8) (s 9) (s 10) (s 11) (s 12) h) r (λs h r=>eT k (λs h=>zn.k1 C (zc3 24 (.zbp) 0) (N 298) (N 299) Q Y1 (s 0) (s 1) (s 8) (s 9) (s 10) (s 11) (s 12) h) r (λs h r=>e1 r)))) (λs h r=>e1 r)))))))) (λr=>e1 r)))
theorem zcs.imp:zcs.Imp (AC P) N:=λa b c d h Q r=>eF mixed (fn:=Tryz.f126) (λk=>zcs.L k (dn Q) (zby [a,b,c,d]) h r)
def zc1.I:Bx:=⟨[],[],63,[]⟩
theorem zc1.L:LkT P zc1.I Tryz.f127 λC Q s h=>zc1.cps C N (s 0) (s 1) (s 2) (s 3) h Q:=λ{C} k Q s h r=>eT k (λs h=>B.pv (V.bin .sub (s 2) (s 1)) λb=>B.zhb h (some [.int .i64 0]) λa h=>zr.k6 C (zc3 24 (.zbp) 0) (N 589) (N 590) Q (s 0) (s 1) (s 3) b (.ptr a 0 0) h) r (λs h r=>eT k (λs h=>B.zhb h (some [.int .i64 0]) λa h=>zr.k6 C (zc3 24 (.zbp) 0) (N 589) (N 590) Q (s 0) (s 1) (s 3) (s 10) (.ptr a 0 0) h) r (λs h r=>eT k (λs h=>zr.k6 C (zc3 24 (.zbp) 0) (N 589) (N 590) Q (s 0) (s 1) (s 3) (s 10) (s 11) h) r (λs h r=>eT k (λs h=>zr.k5 C (zc3 24 (.zbp) 0) (N 589) (N 590) Q (s 0) (s 1) (s 3) (s 10) (s 11) (s 12) h) r (λs h r=>eT k (λs h=>zr.k4 C (zc3 24 (.zbp) 0) (N 589) (N 590) Q (s 0) (s 1) (s 3) (s 10) (s 11) (s 12) (s 13) h) r (λs h r=>eT k (λs h=>zr.k3 C (zc3 24 (.zbp) 0) (N 589) (N 590) Q (s 0) (s 3) (s 10) (s 11) (s 12) (s 13) (s 14) h) r (λs h r=>eS k (λs h=>zr.k1 C (zc3 24 (.zbp) 0) (N 589) (N 590) Q (s 11) (s 13) h) (eT k (λs h=>B.cond (s 34) (zr.k2 C (zc3 24 (.zbp) 0) (N 589) (N 590) Q (s 0) (s 3) (s 10) (s 11) (s 12) (s 13) (s 14) h) (zr.k1 C (zc3 24 (.zbp) 0) (N 589) (N 590) Q (s 11) (s 13) h)) r (λs h r=>eC 34 r (λr=>eT k (λs h=>B.call C (N 589) [(s 0),(s 12),(s 13),(s 14),(s 11),(s 3)] h λc h=>zr.k1 C (zc3 24 (.zbp) 0) (N 589) (N 590) Q (s 11) c h) r (λs h r=>e1 r)) (λr=>e1 r))) (λs h r=>e1 r)))))))
theorem zc1.imp:zc1.Imp (AC P) N:=λa b c d h Q r=>eF mixed (fn:=Tryz.f127) (λk=>zc1.L k (dn Q) (zby [a,b,c,d]) h r)
def zcv.I:Bx:=⟨[],[],34,[(3,pz [] 16)]⟩
theorem zcv.L:LkT P zcv.I Tryz.f128 λC Q s h=>zcv.cps C N (s 0) (s 1) (s 2) (s 3) h Q:=λ{C} k Q s h r=>eT k (λs h=>B.pv (V.bin .sub (s 2) (.int .i64 1)) λa=>zd (zc5.l2 C (zc3 24 (.zbp) 0) Q (s 0)) [(s 8),a] h) r (λs h r=>eT k (λs h=>zd (zc5.l2 C (zc3 24 (.zbp) 0) Q (s 0)) [(s 8),(s 9)] h) r (λs h r=>eK (eL k [0] [8,9] (on1 (zc5.l2 C (zc3 24 (.zbp) 0) Q)) r (λY1 s h r=>e1 r))))
theorem zcv.imp:zcv.Imp (AC P) N:=λa b c d h Q r=>eF mixed (fn:=Tryz.f128) (λk=>zcv.L k (dn Q) (zby [a,b,c,d]) h r)
def zb8.I:Bx:=⟨[],[],141,[(5,pz [] 18),(11,pz [] 18),(16,pz [] 13),(17,pz [] 18),(22,pz [] 13),(23,pz [] 18)]⟩
theorem zb8.L:LkT P zb8.I Tryz.f129 λC Q s h=>zb8.cps C N (s 0) (s 1) (s 2) (s 3) h Q:=λ{C} k Q s h r=>eT k (λs h=>B.pv (V.bin .add (s 1) (.int .i64 1)) λc=>zd (zf.l12 C (zc3 24 (.zbp) 0) Q (s 0) (s 1) (s 2) (s 3)) [c,(.int .i64 0)] h) r (λs h r=>eT k (λs h=>zd (zf.l12 C (zc3 24 (.zbp) 0) Q (s 0) (s 1) (s 2) (s 3)) [(s 9),(.int .i64 0)] h) r (λs h r=>eS k (λs h=>Q (.bool false) h) (eT k (λs h=>zd (zf.l12 C (zc3 24 (.zbp) 0) Q (s 0) (s 1) (s 2) (s 3)) [(s 9),(s 10)] h) r (λs h r=>eK (eL k [0,1,2,3] [9,10] (on4 (zf.l12 C (zc3 24 (.zbp) 0) Q)) r (λY1 s h r=>eT k (λs h=>zd (zf.l10 C (zc3 24 (.zbp) 0) Q Y1 (s 0) (s 1) (s 2) (s 3) (s 10)) [(s 9)] h) r (λs h r=>eS k (λs h=>B.pv (V.bin .add (s 10) (.int .i64 1)) λa=>Y1 [(s 9),a] h) (eK (eS k (λs h=>B.pv (V.bin .eql (s 9) (s 2)) λd=>B.cond d (Q (.bool true) h) (zf.k8 C (zc3 24 (.zbp) 0) Q Y1 (s 0) (s 1) (s 2) (s 3) (s 9) (s 10) h)) (eK (eL k [0,1,2,3,10] [9] (on5 (zf.l10 C (zc3 24 (.zbp) 0) Q Y1)) r (λY4 s h r=>e1 r))) (λs h r=>eT k (λs h=>zf.k8 C (zc3 24 (.zbp) 0) Q Y1 (s 0) (s 1) (s 2) (s 3) (s 9) (s 10) h) r (λs h r=>eT k (λs h=>zf.k7 C (zc3 24 (.zbp) 0) Q Y1 (s 0) (s 1) (s 2) (s 3) (s 9) (s 10) h) r (λs h r=>eT k (λs h=>zf.k6 C (zc3 24 (.zbp) 0) Q Y1 (s 0) (s 1) (s 2) (s 3) (s 9) (s 10) h) r (λs h r=>eS k (λs h=>zf.k3 C (zc3 24 (.zbp) 0) Q Y1 (s 0) (s 1) (s 2) (s 3) (s 9) (s 10) h) (eT k (λs h=>B.cond (s 65) (B.pv (V.bin .sub (s 9) (.int .i64 1)) λe=>zd (zf.l5 C (zc3 24 (.zbp) 0) Q Y1 (s 0) (s 1) (s 2) (s 3) (s 9) (s 10)) [e] h) (zf.k3 C (zc3 24 (.zbp) 0) Q Y1 (s 0) (s 1) (s 2) (s 3) (s 9) (s 10) h)) r (λs h r=>eC 65 r (λr=>eT k (λs h=>zd (zf.l5 C (zc3 24 (.zbp) 0) Q Y1 (s 0) (s 1) (s 2) (s 3) (s 9) (s 10)) [(s 11)] h) r (λs h r=>eK (eL k [0,1,2,3,9,10] [11] (on6 (zf.l5 C (zc3 24 (.zbp) 0) Q Y1)) r (λY3 s h r=>e1 r)))) (λr=>e1 r))) (λs h r=>eT k (λs h=>B.cond (s 104) (B.pv (V.bin .add (s 9) (.int .i64 1)) λb=>zd (zf.l2 C (zc3 24 (.zbp) 0) Q Y1 (s 0) (s 1) (s 2) (s 3) (s 9) (s 10)) [b] h) (B.pv (V.bin .add (s 10) (.int .i64 1)) λa=>Y1 [(s 9),a] h)) r (λs h r=>eC 104 r (λr=>eT k (λs h=>zd (zf.l2 C (zc3 24 (.zbp) 0) Q Y1 (s 0) (s 1) (s 2) (s 3) (s 9) (s 10)) [(s 12)] h) r (λs h r=>eK (eL k [0,1,2,3,9,10] [12] (on6 (zf.l2 C (zc3 24 (.zbp) 0) Q Y1)) r (λY2 s h r=>e1 r)))) (λr=>e1 r))))))))) (λs h r=>e1 r)))))) (λs h r=>e1 r)))
theorem zb8.imp:zb8.Imp (AC P) N:=λa b c d h Q r=>eF mixed (fn:=Tryz.f129) (λk=>zb8.L k (dn Q) (zby [a,b,c,d]) h r)
def zck.I:Bx:=⟨[],[],90,[(1,pz [] 16),(3,pz [] 17),(5,pz [] 16),(8,pz [] 16)]⟩
theorem zck.L:LkT P zck.I Tryz.f130 λC Q s h=>zck.cps C N (s 0) (s 1) (s 2) (s 3) (s 4) h Q:=λ{C} k Q s h r=>eT k (λs h=>zm.k8 C (zc3 24 (.zbp) 0) Q (s 0) (s 1) (s 2) (s 3) (s 4) h) r (λs h r=>eT k (λs h=>zm.k7 C (zc3 24 (.zbp) 0) Q (s 0) (s 1) (s 2) (s 4) h) r (λs h r=>eT k (λs h=>zd (zm.l6 C (zc3 24 (.zbp) 0) Q (s 0) (s 1) (s 4)) [(s 11),(s 12)] h) r (λs h r=>eS k (λs h=>Q (s 11) h) (eK (eL k [0,1,4] [11,12] (on3 (zm.l6 C (zc3 24 (.zbp) 0) Q)) r (λY1 s h r=>eK (eS k (λs h=>zd (zm.l3 C (zc3 24 (.zbp) 0) Q Y1 (s 0) (s 1) (s 4) (s 11)) [(s 12)] h) (eK (eL k [0,1,4,12] [11] (on4 (zm.l5 C (zc3 24 (.zbp) 0) Q Y1)) r (λY3 s h r=>e1 r))) (λs h r=>eS k (λs h=>zm.k1 C (zc3 24 (.zbp) 0) Q Y1 (s 0) (s 1) (s 4) (s 11) (s 12) h) (eK (eL k [0,1,4,11] [12] (on4 (zm.l3 C (zc3 24 (.zbp) 0) Q Y1)) r (λY2 s h r=>e1 r))) (λs h r=>e1 r)))))) (λs h r=>e1 r))))
theorem zck.imp:zck.Imp (AC P) N:=λa b c d e h Q r=>eF mixed (fn:=Tryz.f130) (λk=>zck.L k (dn Q) (zby [a,b,c,d,e]) h r)
def zda.I:Bx:=⟨[],[],178,[(1,pz [] 16),(3,pz [] 16),(5,pz [] 17),(8,pz [] 16),(10,pz [] 16),(13,pz [] 16),(15,pz [] 17),(18,pz [] 16),(21,pz [] 16)]⟩
theorem zda.L:LkT P zda.I Tryz.f131 λC Q s h=>zda.cps C N (s 0) (s 1) (s 2) (s 3) (s 4) h Q:=λ{C} k Q s h r=>eT k (λs h=>zg.k16 C (zc3 24 (.zbp) 0) Q (s 0) (s 1) (s 2) (s 3) (s 4) h) r (λs h r=>eT k (λs h=>zg.k15 C (zc3 24 (.zbp) 0) Q (s 0) (s 1) (s 2) (s 4) h) r (λs h r=>eT k (λs h=>zd (zg.l14 C (zc3 24 (.zbp) 0) Q (s 0) (s 1) (s 4) (s 13)) [(s 12)] h) r (λs h r=>eS k (λs h=>zd (zg.l12 C (zc3 24 (.zbp) 0) Q (s 0) (s 1) (s 4) (s 12)) [(s 13)] h) (eK (eL k [0,1,4,13] [12] (on4 (zg.l14 C (zc3 24 (.zbp) 0) Q)) r (λY5 s h r=>e1 r))) (λs h r=>eS k (λs h=>zg.k10 C (zc3 24 (.zbp) 0) Q (s 0) (s 1) (s 4) (s 12) (s 13) h) (eK (eL k [0,1,4,12] [13] (on4 (zg.l12 C (zc3 24 (.zbp) 0) Q)) r (λY4 s h r=>e1 r))) (λs h r=>eT k (λs h=>zg.k9 C (zc3 24 (.zbp) 0) Q (s 0) (s 1) (s 4) (s 12) (s 13) h) r (λs h r=>eT k (λs h=>zg.k8 C (zc3 24 (.zbp) 0) Q (s 0) (s 1) (s 4) (s 12) (s 13) h) r (λs h r=>eT k (λs h=>B.pv (V.bin .sub (s 13) (.int .i64 1)) λa=>zd (zg.l7 C (zc3 24 (.zbp) 0) Q (s 0) (s 1) (s 4)) [(s 12),a] h) r (λs h r=>eT k (λs h=>zd (zg.l7 C (zc3 24 (.zbp) 0) Q (s 0) (s 1) (s 4)) [(s 12),(s 13)] h) r (λs h r=>eS k (λs h=>zg.k1 C (zc3 24 (.zbp) 0) Q (s 0) (s 1) (s 13) h) (eK (eL k [0,1,4] [12,13] (on3 (zg.l7 C (zc3 24 (.zbp) 0) Q)) r (λY1 s h r=>eK (eS k (λs h=>zd (zg.l4 C (zc3 24 (.zbp) 0) Q Y1 (s 0) (s 1) (s 4) (s 12)) [(s 13)] h) (eK (eL k [0,1,4,13] [12] (on4 (zg.l6 C (zc3 24 (.zbp) 0) Q Y1)) r (λY3 s h r=>e1 r))) (λs h r=>eS k (λs h=>zg.k2 C (zc3 24 (.zbp) 0) Q Y1 (s 0) (s 1) (s 4) (s 12) (s 13) h) (eK (eL k [0,1,4,12] [13] (on4 (zg.l4 C (zc3 24 (.zbp) 0) Q Y1)) r (λY2 s h r=>e1 r))) (λs h r=>e1 r)))))) (λs h r=>e1 r))))))))))
theorem zda.imp:zda.Imp (AC P) N:=λa b c d e h Q r=>eF mixed (fn:=Tryz.f131) (λk=>zda.L k (dn Q) (zby [a,b,c,d,e]) h r)
def zea.I:Bx:=⟨[],[],6,[]⟩
theorem zea.L:LkT P zea.I Tryz.f132 λC Q s h=>zea.cps C N (s 0) h Q:=λ{C} k Q s h r=>e1 r
theorem zea.imp:zea.Imp (AC P) N:=λa h Q r=>eF mixed (fn:=Tryz.f132) (λk=>zea.L k (dn Q) (zby [a]) h r)
def zfg.I:Bx:=⟨[4],[],9,[]⟩
theorem zfg.L:LkT P zfg.I Tryz.f141 λC Q s h=>zfg.cps C N (s 0) (s 1) h Q:=λ{C} k Q s h r=>e1 r
theorem zfg.imp:zfg.Imp (AC P) N:=λa b h Q r=>eF mixed (fn:=Tryz.f141) (λk=>zfg.L k (dn Q) (zby [a,b]) h r)
def zcf.I:Bx:=⟨[],[],27,[]⟩
theorem zcf.L:LkT P zcf.I Tryz.f155 λC Q s h=>zcf.cps C N (s 0) (s 1) h Q:=λ{C} k Q s h r=>eT k (λs h=>B.pv (V.bin .lss (s 1) (.int .i64 0)) λa=>B.cond a (False) (zjp.k1 C (zc3 16 (.str []) 0) Q (s 0) (s 1) h)) r (λs h r=>eT k (λs h=>zjp.k1 C (zc3 16 (.str []) 0) Q (s 0) (s 1) h) r (λs h r=>e1 r))
theorem zcf.imp:zcf.Imp (AC P) N:=λa b h Q r=>eF mixed (fn:=Tryz.f155) (λk=>zcf.L k (dn Q) (zby [a,b]) h r)
def zdp.I:Bx:=⟨[],[],27,[]⟩
theorem zdp.L:LkT P zdp.I Tryz.f156 λC Q s h=>zdp.cps C N (s 0) (s 1) h Q:=λ{C} k Q s h r=>eT k (λs h=>zd (zdp.l2 C N Q (s 0) (s 1)) [(.int .i64 0)] h) r (λs h r=>eT k (λs h=>zd (zdp.l2 C N Q (s 0) (s 1)) [(s 4)] h) r (λs h r=>eK (eL k [0,1] [4] (on2 (zdp.l2 C N Q)) r (λY1 s h r=>e1 r))))
theorem zdp.imp:zdp.Imp (AC P) N:=λa b h Q r=>eF mixed (fn:=Tryz.f156) (λk=>zdp.L k (dn Q) (zby [a,b]) h r)
def zfr.I:Bx:=⟨[],[],14,[]⟩
theorem zfr.L:LkT P zfr.I Tryz.f157 λC Q s h=>zfr.cps C N (s 0) (s 1) h Q:=λ{C} k Q s h r=>e1 r
theorem zfr.imp:zfr.Imp (AC P) N:=λa b h Q r=>eF mixed (fn:=Tryz.f157) (λk=>zfr.L k (dn Q) (zby [a,b]) h r)
def ze5.I:Bx:=⟨[],[],14,[]⟩
theorem ze5.L:LkT P ze5.I Tryz.f158 λC Q s h=>ze5.cps C N (s 0) (s 1) h Q:=λ{C} k Q s h r=>e1 r
theorem ze5.imp:ze5.Imp (AC P) N:=λa b h Q r=>eF mixed (fn:=Tryz.f158) (λk=>ze5.L k (dn Q) (zby [a,b]) h r)
def zdf.I:Bx:=⟨[],[],76,[(3,pz [] 20),(5,pz [] 14),(6,pz [] 24)]⟩
theorem zdf.L:LkT P zdf.I Tryz.f159 λC Q s h=>zdf.cps C N (s 0) (s 1) (s 2) (s 3) h Q:=λ{C} k Q s h r=>eT k (λs h=>zd (zct.l4 C (zc3 16 (.str []) 0) (N 377) Q (s 0) (s 2) (s 3)) [(s 8)] h) r (λs h r=>eK (eL k [0,2,3] [8] (on3 (zct.l4 C (zc3 16 (.str []) 0) (N 377) Q)) r (λY1 s h r=>eK (eT k (λs h=>B.pv (V.bin .geq (s 9) (s 2)) λa=>B.cond a (Q (.tup []) h) (zct.k2 C (zc3 16 (.str []) 0) (N 377) Q Y1 (s 0) (s 2) (s 3) (s 8) (s 9) h)) r (λs h r=>eT k (λs h=>zct.k2 C (zc3 16 (.str []) 0) (N 377) Q Y1 (s 0) (s 2) (s 3) (s 8) (s 9) h) r (λs h r=>eT k (λs h=>zct.k1 C (zc3 16 (.str []) 0) (N 377) Q Y1 (s 0) (s 2) (s 3) (s 8) (s 9) h) r (λs h r=>e1 r)))))))
theorem zdf.imp:zdf.Imp (AC P) N:=λa b c d h Q r=>eF mixed (fn:=Tryz.f159) (λk=>zdf.L k (dn Q) (zby [a,b,c,d]) h r)
def zd1.I:Bx:=⟨[],[],7,[]⟩
theorem zd1.L:LkT P zd1.I Tryz.f160 λC Q s h=>zd1.cps C N (s 0) h Q:=λ{C} k Q s h r=>e1 r
theorem zd1.imp:zd1.Imp (AC P) N:=λa h Q r=>eF mixed (fn:=Tryz.f160) (λk=>zd1.L k (dn Q) (zby [a]) h r)
def zdk.I:Bx:=⟨[],[],33,[(1,pz [] 10),(2,pz [] 10),(3,pz [] 10)]⟩
theorem zdk.L:LkT P zdk.I Tryz.f161 λC Q s h=>zdk.cps C N (s 0) h Q:=λ{C} k Q s h r=>e1 r
theorem zdk.imp:zdk.Imp (AC P) N:=λa h Q r=>eF mixed (fn:=Tryz.f161) (λk=>zdk.L k (dn Q) (zby [a]) h r)
def zcl.I:Bx:=⟨[],[],15,[]⟩
theorem zcl.L:LkT P zcl.I Tryz.f162 λC Q s h=>zcl.cps C N (s 0) (s 1) (s 2) h Q:=λ{C} k Q s h r=>e1 r
theorem zcl.imp:zcl.Imp (AC P) N:=λa b c h Q r=>eF mixed (fn:=Tryz.f162) (λk=>zcl.L k (dn Q) (zby [a,b,c]) h r)
def zdv.I:Bx:=⟨[],[],36,[]⟩
theorem zdv.L:LkT P zdv.I Tryz.f163 λC Q s h=>zdv.cps C N (s 0) (s 1) (s 2) (s 3) (s 4) h Q:=λ{C} k Q s h r=>e1 r
theorem zdv.imp:zdv.Imp (AC P) N:=λa b c d e h Q r=>eF mixed (fn:=Tryz.f163) (λk=>zdv.L k (dn Q) (zby [a,b,c,d,e]) h r)
def zdg.I:Bx:=⟨[],[],82,[(3,pz [] 22),(5,pz [] 16),(6,pz [] 24)]⟩
theorem zdg.L:LkT P zdg.I Tryz.f164 λC Q s h=>zdg.cps C N (s 0) (s 1) (s 2) (s 3) (s 4) h Q:=λ{C} k Q s h r=>eT k (λs h=>zd (zbu.l4 C (zc3 24 (.zbp) 0) Q (s 0) (s 2) (s 3) (s 4)) [(s 10)] h) r (λs h r=>eK (eL k [0,2,3,4] [10] (on4 (zbu.l4 C (zc3 24 (.zbp) 0) Q)) r (λY1 s h r=>eK (eT k (λs h=>B.pv (V.bin .geq (s 11) (s 2)) λa=>B.cond a (Q (.tup []) h) (zbu.k2 C (zc3 24 (.zbp) 0) Q Y1 (s 0) (s 2) (s 3) (s 4) (s 10) (s 11) h)) r (λs h r=>eT k (λs h=>zbu.k2 C (zc3 24 (.zbp) 0) Q Y1 (s 0) (s 2) (s 3) (s 4) (s 10) (s 11) h) r (λs h r=>eT k (λs h=>zbu.k1 C (zc3 24 (.zbp) 0) Q Y1 (s 0) (s 2) (s 3) (s 4) (s 10) (s 11) h) r (λs h r=>e1 r)))))))
theorem zdg.imp:zdg.Imp (AC P) N:=λa b c d e h Q r=>eF mixed (fn:=Tryz.f164) (λk=>zdg.L k (dn Q) (zby [a,b,c,d,e]) h r)
def zcm.I:Bx:=⟨[],[],18,[]⟩
theorem zcm.L:LkT P zcm.I Tryz.f165 λC Q s h=>zcm.cps C N (s 0) (s 1) (s 2) (s 3) h Q:=λ{C} k Q s h r=>e1 r
theorem zcm.imp:zcm.Imp (AC P) N:=λa b c d h Q r=>eF mixed (fn:=Tryz.f165) (λk=>zcm.L k (dn Q) (zby [a,b,c,d]) h r)
def zdw.I:Bx:=⟨[],[],41,[]⟩
theorem zdw.L:LkT P zdw.I Tryz.f166 λC Q s h=>zdw.cps C N (s 0) (s 1) (s 2) (s 3) (s 4) (s 5) h Q:=λ{C} k Q s h r=>e1 r
theorem zdw.imp:zdw.Imp (AC P) N:=λa b c d e f h Q r=>eF mixed (fn:=Tryz.f166) (λk=>zdw.L k (dn Q) (zby [a,b,c,d,e,f]) h r)
def zfs.I:Bx:=⟨[3],[5,9],12,[]⟩
theorem zfs.L:LkT P zfs.I Tryz.f172 λC Q s h=>zfs.cps C N (s 0) (s 1) h Q:=λ{C} k Q s h r=>e1 r
theorem zfs.imp:zfs.Imp (AC P) N:=λa b h Q r=>eF mixed (fn:=Tryz.f172) (λk=>zfs.L k (dn Q) (zby [a,b]) h r)
def zdt.I:Bx:=⟨[],[],28,[(1,pz [] 9)]⟩
theorem zdt.L:LkT P zdt.I Tryz.f173 λC Q s h=>zdt.cps C N (s 0) (s 1) (s 2) (s 3) h Q:=λ{C} k Q s h r=>e1 r
theorem zdt.imp:zdt.Imp (AC P) N:=λa b c d h Q r=>eF mixed (fn:=Tryz.f173) (λk=>zdt.L k (dn Q) (zby [a,b,c,d]) h r)
def zdu.I:Bx:=⟨[],[],32,[(1,pz [] 11)]⟩
theorem zdu.L:LkT P zdu.I Tryz.f174 λC Q s h=>zdu.cps C N (s 0) (s 1) (s 2) (s 3) (s 4) h Q:=λ{C} k Q s h r=>e1 r
theorem zdu.imp:zdu.Imp (AC P) N:=λa b c d e h Q r=>eF mixed (fn:=Tryz.f174) (λk=>zdu.L k (dn Q) (zby [a,b,c,d,e]) h r)
def ze4.I:Bx:=⟨[],[],14,[]⟩
theorem ze4.L:LkT P ze4.I Tryz.f175 λC Q s h=>ze4.cps C N (s 0) (s 1) h Q:=λ{C} k Q s h r=>e1 r
theorem ze4.imp:ze4.Imp (AC P) N:=λa b h Q r=>eF mixed (fn:=Tryz.f175) (λk=>ze4.L k (dn Q) (zby [a,b]) h r)
theorem zhf.L0:F0 P Tryz.f83 zhf.I:=λhC Q s h hR=>eF0 hC 5 3 6 9 11 14 hR
theorem zhf.zqc:zhf.zly (AC P) N:=λa h Q hR=>eF mixed (fn:=Tryz.f83) (λhC=>zhf.L0 hC (dn Q) (zby [a]) h hR)
theorem zhz.L0:F0 P Tryz.f84 zhz.I:=λhC Q s h hR=>eF0 hC 5 3 6 9 11 14 hR
theorem zhz.zqc:zhz.zly (AC P) N:=λa h Q hR=>eF mixed (fn:=Tryz.f84) (λhC=>zhz.L0 hC (dn Q) (zby [a]) h hR)
theorem zhl.L0:F0 P Tryz.f85 zhl.I:=λhC Q s h hR=>eF0 hC 5 3 6 9 11 14 hR
theorem zhl.zqc:zhl.zly (AC P) N:=λa h Q hR=>eF mixed (fn:=Tryz.f85) (λhC=>zhl.L0 hC (dn Q) (zby [a]) h hR)
theorem zel.L0:F0 P Tryz.f87 zel.I:=λhC Q s h hR=>eF0 hC 5 3 6 9 11 14 hR
theorem zel.zqc:zel.zly (AC P) N:=λa h Q hR=>eF mixed (fn:=Tryz.f87) (λhC=>zel.L0 hC (dn Q) (zby [a]) h hR)
theorem z9.L0:F0 P Tryz.f88 z9.I:=λhC Q s h hR=>eF0 hC 5 3 6 9 11 14 hR
theorem z9.zqc:z9.zly (AC P) N:=λa h Q hR=>eF mixed (fn:=Tryz.f88) (λhC=>z9.L0 hC (dn Q) (zby [a]) h hR)
theorem zbi.L0:F0 P Tryz.f90 zbi.I:=λhC Q s h hR=>eF0 hC 5 3 6 9 11 14 hR
theorem zbi.zqc:zbi.zly (AC P) N:=λa h Q hR=>eF mixed (fn:=Tryz.f90) (λhC=>zbi.L0 hC (dn Q) (zby [a]) h hR)
theorem zbq.L0:F0 P Tryz.f91 zbq.I:=λhC Q s h hR=>eF0 hC 5 3 6 9 11 14 hR
theorem zbq.zqc:zbq.zly (AC P) N:=λa h Q hR=>eF mixed (fn:=Tryz.f91) (λhC=>zbq.L0 hC (dn Q) (zby [a]) h hR)
theorem zbh.L0:F0 P Tryz.f93 zbh.I:=λhC Q s h hR=>eF0 hC 5 3 6 9 11 14 hR
theorem zbh.zqc:zbh.zly (AC P) N:=λa h Q hR=>eF mixed (fn:=Tryz.f93) (λhC=>zbh.L0 hC (dn Q) (zby [a]) h hR)
theorem zh0.L0:F0 P Tryz.f95 zh0.I:=λhC Q s h hR=>eF0 hC 5 3 6 9 11 14 hR
theorem zh0.zqc:zh0.zly (AC P) N:=λa h Q hR=>eF mixed (fn:=Tryz.f95) (λhC=>zh0.L0 hC (dn Q) (zby [a]) h hR)
theorem zhh.L0:F0 P Tryz.f96 zhh.I:=λhC Q s h hR=>eF0 hC 5 3 6 9 11 14 hR
theorem zhh.zqc:zhh.zly (AC P) N:=λa h Q hR=>eF mixed (fn:=Tryz.f96) (λhC=>zhh.L0 hC (dn Q) (zby [a]) h hR)
theorem zbb.L0:F0 P Tryz.f97 zbb.I:=λhC Q s h hR=>eF0 hC 5 3 6 9 11 14 hR
theorem zbb.zqc:zbb.zly (AC P) N:=λa h Q hR=>eF mixed (fn:=Tryz.f97) (λhC=>zbb.L0 hC (dn Q) (zby [a]) h hR)
theorem zhy.L0:F0 P Tryz.f98 zhy.I:=λhC Q s h hR=>eF0 hC 5 3 6 9 11 14 hR
theorem zhy.zqc:zhy.zly (AC P) N:=λa h Q hR=>eF mixed (fn:=Tryz.f98) (λhC=>zhy.L0 hC (dn Q) (zby [a]) h hR)
theorem zhg.L0:F0 P Tryz.f99 zhg.I:=λhC Q s h hR=>eF0 hC 5 3 6 9 11 14 hR
theorem zhg.zqc:zhg.zly (AC P) N:=λa h Q hR=>eF mixed (fn:=Tryz.f99) (λhC=>zhg.L0 hC (dn Q) (zby [a]) h hR)
theorem zhm.L0:F0 P Tryz.f100 zhm.I:=λhC Q s h hR=>eF0 hC 5 3 6 9 11 14 hR
theorem zhm.zqc:zhm.zly (AC P) N:=λa h Q hR=>eF mixed (fn:=Tryz.f100) (λhC=>zhm.L0 hC (dn Q) (zby [a]) h hR)
theorem zgv.L0:F0 P Tryz.f101 zgv.I:=λhC Q s h hR=>eF0 hC 5 3 6 9 11 14 hR
theorem zgv.zqc:zgv.zly (AC P) N:=λa h Q hR=>eF mixed (fn:=Tryz.f101) (λhC=>zgv.L0 hC (dn Q) (zby [a]) h hR)
theorem zhk.L0:F0 P Tryz.f102 zhk.I:=λhC Q s h hR=>eF0 hC 5 3 6 9 11 14 hR
theorem zhk.zqc:zhk.zly (AC P) N:=λa h Q hR=>eF mixed (fn:=Tryz.f102) (λhC=>zhk.L0 hC (dn Q) (zby [a]) h hR)
theorem zgu.L0:F0 P Tryz.f103 zgu.I:=λhC Q s h hR=>eF0 hC 5 3 6 9 11 14 hR
theorem zgu.zqc:zgu.zly (AC P) N:=λa h Q hR=>eF mixed (fn:=Tryz.f103) (λhC=>zgu.L0 hC (dn Q) (zby [a]) h hR)
theorem zhj.L0:F0 P Tryz.f104 zhj.I:=λhC Q s h hR=>eF0 hC 5 3 6 9 11 14 hR
theorem zhj.zqc:zhj.zly (AC P) N:=λa h Q hR=>eF mixed (fn:=Tryz.f104) (λhC=>zhj.L0 hC (dn Q) (zby [a]) h hR)
theorem zhi.L0:F0 P Tryz.f105 zhi.I:=λhC Q s h hR=>eF0 hC 5 3 6 9 11 14 hR
theorem zhi.zqc:zhi.zly (AC P) N:=λa h Q hR=>eF mixed (fn:=Tryz.f105) (λhC=>zhi.L0 hC (dn Q) (zby [a]) h hR)
end Go.Ab.S12z
namespace Go.Ab
variable{C:zh}{N:zN}
section
variable{h h':zb}{x:za}{b:List UInt8}
end
theorem SlX.cutR{h:zb}{es:Nat}{x:za}{L R S:List (List za)}(hs:SlX h es x L (R++S)):SlX h es x L R:=by
 refine⟨λp hp=>hs.len p (by rcases List.mem_append.1 hp with h|h;exact List.mem_append_left _ h;exact List.mem_append_right _ (List.mem_append_left _ h)),?_⟩;rcases hs.at_ with⟨e,e2,e'⟩|⟨id,g,off,cp,b,hi,h1,h1',h2,h3,h4,hh,h5⟩
 ·exact .inl ⟨e,(List.append_eq_nil_iff.1 e2).1,e'⟩
 ·have hl:∀p∈L++R,p.length=es:=λp hp=>hs.len p (by rcases List.mem_append.1 hp with h|h;exact List.mem_append_left _ h;exact List.mem_append_right _ (List.mem_append_left _ h))
  have hfl:=zoa hl;rw[List.length_append]at h1' h4 h5 hfl;have hm:(L.length+R.length)*es <= (L.length+(R.length+S.length))*es:=Nat.mul_le_mul_right _ (by omega);refine .inr ⟨id,g,off,cp,b,hi,h1,by omega,h2,h3,by omega,hh,?_⟩;have:((b.cells.drop off).take ((L.length+(R.length+S.length))*es)).take ((L.length+R.length)*es)=(L++R).flatten:=by
   rw[h5,<-List.append_assoc,List.flatten_append (L₁:=L++R),List.take_append_of_le_length (by omega),List.take_of_length_le (by omega)]
  rw[<-this,List.take_take,Nat.min_eq_left hm]
abbrev zv7(h:zb)(l:List Ob):Prop:=∀o∈l,o.at h
theorem zv7.mono{h h':zb}{l:List Ob}(ha:zv7 h l)(hle:h.le h'):zv7 h' l:=λo hm=>(ha o hm).zmf λ_ _ _ e=>hle _ _ e
structure DK(T Ad:Type) where
 n:Nat
 bytes:Nat
 z:List za
 pos:0<n
 small:bytes <= 1000
 zlen:z.length=n
 cells:T->Ad->List za
 len:∀t a,(cells t a).length=n
 at_:zb->T->Ad->Prop
 mono:∀{h h':zb}{t:T}{a:Ad},h.le h'->at_ h t a->at_ h' t a
 ok:T->Prop
 at_ok:∀{h:zb}{t:T}{a:Ad},at_ h t a->ok t
 obs:Bool->T->Ad->List Ob
 zxg:∀{b:Bool}{h:zb}{t:T}{a:Ad},ok t->zv7 h (obs b t a)->at_ h t a
section
variable{T Ad:Type}(K:DK T Ad)
abbrev DK.cs(p:T×Ad):List za:=K.cells p.1 p.2
def DK.os(b:Bool)(P:List (T×Ad)):List Ob:=P.flatMap λp=>K.obs b p.1 p.2
def Dl(h:zb)(x:za)(L:List T):Prop:=∃(P:List (T×Ad))(R:List (List za)),P.map (·.1)=L /\ SlX h K.n x (P.map K.cs) R /\ ∀p∈P,K.at_ h p.1 p.2
structure DEl(h:zb)(x:za)(i:Nat)(t:T)(a:Ad):Prop where
 idx:V.zb4 K.n x (.int .i64 (i:Int))=some (elp K.n x i 0)
 ldn:A.zoj h (elp K.n x i 0) K.n=some (.agg (K.cells t a))
 fld:∀f o,V.fieldAddr o (elp K.n x i f)=some (elp K.n x i (f+o))
 ld:∀f,f<K.n->A.ldv h (elp K.n x i f)=(K.cells t a)[f]?
 at_:K.at_ h t a
variable{K}{h h' h0:zb}{x:za}{L M:List T}
theorem slX_el{h:zb}{x:za}{P:List (T×Ad)}{R:List (List za)}(s:SlX h K.n x (P.map K.cs) R)(ha:∀p∈P,K.at_ h p.1 p.2){i:Nat}{p:T×Ad}(hi:P[i]?=some p):DEl K h x i p.1 p.2:=by
 have hc:(P.map K.cs)[i]?=some (K.cells p.1 p.2):=by rw[List.getElem?_map,hi];rfl
 have hl:i<(P.map K.cs).length:=(List.getElem?_eq_some_iff.1 hc).1;exact⟨s.zjk hl,s.elem hc,λf o=>s.zob hl f o,λf hf=>s.ldv hc hf,ha p (List.mem_of_getElem? hi)⟩
theorem Dl.get(hd:Dl K h x L){i:Nat}{t:T}(hi:L[i]?=some t):∃a,DEl K h x i t a:=by
 obtain⟨P,R,rfl,s,ha⟩:=hd;rw[List.getElem?_map]at hi;obtain⟨p,hp,rfl⟩:=Option.map_eq_some_iff.1 hi;exact⟨p.2,slX_el s ha hp⟩
theorem Dl.mono(hd:Dl K h x L)(hle:h.le h'):Dl K h' x L:=by
 obtain⟨P,R,e,s,ha⟩:=hd;exact⟨P,R,e,s.mono hle,λp hp=>K.mono hle (ha p hp)⟩
theorem Dl.zbg(hd:Dl K h x L):V.zbg x=some (.int .i64 L.length):=by
 obtain⟨P,R,rfl,s,ha⟩:=hd;simpa using s.zbg
theorem Dl.zbl(hd:Dl K h x L):x.zbl=true:=by
 obtain⟨P,R,rfl,s,ha⟩:=hd;exact s.zbl
theorem Dl.zbp(K:DK T Ad)(h:zb):Dl K h .zbp []:=⟨[],[],rfl,SlX.zbp h K.n,λ_ h=>by cases h⟩
theorem Dl.ok(hd:Dl K h x L):∀t∈L,K.ok t:=by
 obtain⟨P,R,rfl,s,ha⟩:=hd;intro t ht;obtain⟨p,hp,rfl⟩:=List.mem_map.1 ht;exact K.at_ok (ha p hp)
theorem dl_of{P:List (T×Ad)}{R:List (List za)}{b:Bool}{l:List Ob}(hok:∀p∈P,K.ok p.1)(hl:zv7 h l)(h1: .sl K.n x (P.map K.cs) R∈l)(h2:∀o∈K.os b P,o∈l):Dl K h x (P.map (·.1)):=⟨P,R,rfl,hl _ h1,λp hp=>K.zxg (hok p hp) λo ho=>hl o (h2 o (List.mem_flatMap.2 ⟨p,hp,ho⟩))⟩
theorem DK.ztu(b:Bool)(P P':List (T×Ad)):K.os b (P++P')=K.os b P++K.os b P':=List.flatMap_append
theorem DK.os_one(b:Bool)(p:T×Ad):K.os b [p]=K.obs b p.1 p.2:=by simp[DK.os]
abbrev Df(K:DK T Ad)(h0 h:zb)(x:za)(P:List (T×Ad)):Prop:=zcx h0 h (.sl K.n x (P.map K.cs) []::K.os false P)
def SameE(K:DK T Ad)[DecidableEq T](C:zh)(f:Nat):Prop:=∀(t u:T)(a b:Ad)(h:zb)(Q:zQ),K.at_ h t a->K.at_ h u b->Q (.bool (decide (t=u))) h->C f [.agg (K.cells t a),.agg (K.cells u b)] h Q
def OneE(K:DK T Ad)(b:Bool)(C:zh)(f:Nat):Prop:=∀(t:T)(a:Ad)(h:zb)(Q:zQ),K.at_ h t a->(∀a' h',zcx h h' (K.obs b t a')->Q (.agg (K.cells t a')) h')->C f [.agg (K.cells t a)] h Q
def KeptE(K:DK T Ad)[DecidableEq T](C:zh)(f:Nat):Prop:=∀(t u:T)(a b:Ad)(h:zb)(Q:zQ),K.ok t->zv7 h (K.obs true t a)->K.at_ h u b->Q (.bool (decide (t=u))) h->C f [.agg (K.cells t a),.agg (K.cells u b)] h Q
def MarkE(K:DK T Ad)(mk:Int->Int->T)(C:zh)(f:Nat):Prop:=∀(k i:Int)(h:zb)(Q:zQ),(∀a' h',zcx h h' (K.obs false (mk k i) a')->Q (.agg (K.cells (mk k i) a')) h')->C f [.int .i64 k,.int .i64 i] h Q
theorem zt6(K:DK T Ad)(t:T)(a:Ad):zer [(0,some K.n,.agg (K.cells t a))] (zgc 1 K.z)=some (K.cells t a):=by
 have hrep:zgc 1 K.z=K.z:=by unfold zgc;split<;>simp_all
 have h1:=K.len t a;rw[hrep];simp[h1,K.zlen]
@[simp] def sameD.k1(C:zh)(n f:Nat)(Q:zQ)(Y1:zL)(v0 v1 v5:za)(h:zb):Prop:=B.pv (V.zbg v0) λv13=>B.pv (V.bin .lss v5 v13) λv14=>B.cond v14 (B.pv (V.zb4 n v0 v5) λv19=>B.ldn h v19 n λv20=>B.pv (V.zb4 n v1 v5) λv23=>B.ldn h v23 n λv24=>B.call C f [v20,v24] h λv25 h=>B.pv (V.un .not v25) λv26=>B.cond v26 (Q (.bool false) h) (B.pv (V.bin .add v5 (.int .i64 1)) λv16=>Y1 [v16] h)) (Q (.bool true) h)
@[simp] def sameD.l2(C:zh)(n f:Nat)(Q:zQ)(v0 v1:za):zG|[v5],h,Y1=>sameD.k1 C n f Q Y1 v0 v1 v5 h|_,_,_=>False
def sameD(C:zh)(n f:Nat)(v0 v1:za)(h:zb)(Q:zQ):Prop:=B.pv (V.zbg v0) λv7=>B.pv (V.zbg v1) λv9=>B.pv (V.bin .neq v7 v9) λv10=>B.cond v10 (Q (.bool false) h) (zd (sameD.l2 C n f Q v0 v1) [(.int .i64 0)] h)
theorem sameD_spec[DecidableEq T]{f:Nat}(sf:SameE K C f){y:za}{Q:zQ}(hx:Dl K h x L)(hy:Dl K h y M)(hlen:L.length<4611686018427387904)(hq:Q (.bool (decide (L=M))) h):sameD C K.n f x y h Q:=by
 have hlx:=hx.zbg;have hly:=hy.zbg;simp -dsimp[sameD,hlx,hly];refine B.zl (λhb=>?_) (λhb=>?_)<;>simp -dsimp at hb ⊢
 ·rw[decide_eq_false λe=>hb (by rw[e])]at hq
  exact hq
 ·refine zd.intro (λn vs hh=>∃k,k+n=L.length /\ vs=[.int .i64 k] /\ hh=h /\ L.take k=M.take k) L.length ?_ ⟨0,by simp,by simp,rfl,by simp⟩
  rintro Y n vs _ ⟨k,hn,rfl,rfl,he⟩ hY;simp -dsimp[hlx];refine B.zl (λhc=>?_) (λhc=>?_)<;>simp -dsimp at hc ⊢
  ·obtain⟨w,hw⟩:=zgd hc
   obtain⟨u,hu⟩:=zgd (L:=M) (k:=k) (by omega);obtain⟨a,ea⟩:=hx.get hw;obtain⟨b,eb⟩:=hy.get hu;simp -dsimp only[ea.idx,ea.ldn,eb.idx,eb.ldn,B.ze,B.zno];refine sf _ _ _ _ _ _ ea.at_ eb.at_ ?_;simp -dsimp only[V.zjm,B.ze];refine B.zl (λhd=>?_) (λhd=>?_)<;>simp -dsimp at hd ⊢
   ·rw[decide_eq_false λe=>by subst e;rw[hw]at hu;cases hu;exact hd rfl]at hq
    exact hq
   ·simp[zjf (n:=k) (by omega)]
    refine hY (L.length-(k+1)) _ _ (by omega) ⟨k+1,by omega,by simp,rfl,?_⟩;rw[take_succ hw,take_succ hu,he,hd]
  ·rw[List.take_of_length_le (by omega),List.take_of_length_le (by omega)]at he
   rw[decide_eq_true he]at hq;exact hq
def zxk(mk:Int->Int->T):List T:=(List.range 12).map fun(i:Nat)=>mk 1 (i:Int)
@[simp] def zv5.k1(C:zh)(n bytes fm:Nat)(z:List za)(Q:zQ)(Y1:zL)(v0 v3 v6:za)(h:zb):Prop:=B.pv (V.bin .lss v6 (.int .i64 12)) λv27=>B.cond v27 (B.call C fm [(.int .i64 1),v6] h λv32 h=>B.zhb h (zer [(0,some n,v32)] (zgc 1 z)) λi33 h=>B.ziw h n bytes v3 (.sl i33 0 0 1 n 1) λv34 h=>B.pv (V.bin .add v6 (.int .i64 1)) λv29=>Y1 [v34,v29] h) (B.pv (V.zbg v0) λv37=>B.pv (V.zhn n v3 none (some v37)) λv38=>Q v38 h)
@[simp] def zv5.l2(C:zh)(n bytes fm:Nat)(z:List za)(Q:zQ)(v0:za):zG|[v3,v6],h,Y1=>zv5.k1 C n bytes fm z Q Y1 v0 v3 v6 h|_,_,_=>False
@[simp] def zv5.k3(C:zh)(n bytes fm fl:Nat)(z:List za)(Q:zQ)(Y2:zL)(v0 v3 v4:za)(h:zb):Prop:=B.pv (V.zbg v0) λv13=>B.pv (V.bin .lss v4 v13) λv14=>B.cond v14 (B.pv (V.zb4 n v0 v4) λv19=>B.ldn h v19 n λv20=>B.call C fl [v20] h λv21 h=>B.pv (V.zqy 0 n v21 (.agg z)) λc5=>B.pv (V.zfp 0 n c5) λv23=>B.zhb h (zer [(0,some n,v23)] (zgc 1 z)) λi24 h=>B.ziw h n bytes v3 (.sl i24 0 0 1 n 1) λv25 h=>B.pv (V.bin .add v4 (.int .i64 1)) λv16=>Y2 [v25,v16] h) (zd (zv5.l2 C n bytes fm z Q v0) [v3,(.int .i64 0)] h)
@[simp] def zv5.l4(C:zh)(n bytes fm fl:Nat)(z:List za)(Q:zQ)(v0:za):zG|[v3,v4],h,Y2=>zv5.k3 C n bytes fm fl z Q Y2 v0 v3 v4 h|_,_,_=>False
def zv5(C:zh)(n bytes fm fl:Nat)(z:List za)(v0:za)(h:zb)(Q:zQ):Prop:=B.pv (V.zbg v0) λv8=>B.pv (V.bin .add v8 (.int .i64 12)) λv9=>0<n /\ B.mks h bytes (some z) (.int .i64 0) v9 λv10 h=>zd (zv5.l4 C n bytes fm fl z Q v0) [v10,(.int .i64 0)] h
theorem setN_whole(K:DK T Ad)(t:T)(a:Ad):V.zqy 0 K.n (.agg (K.cells t a)) (.agg K.z)=some (.agg (K.cells t a)):=by
 simp[K.len t a,K.zlen]
theorem fieldN_whole(K:DK T Ad)(t:T)(a:Ad):V.zfp 0 K.n (.agg (K.cells t a))=some (.agg (K.cells t a)):=by
 have:=K.len t a;simp[this];rw[<-this,List.take_length]
theorem lentD_spec{mk:Int->Int->T}{fm fl:Nat}(sm:MarkE K mk C fm)(sl:OneE K true C fl){Q:zQ}(hx:Dl K h x L)(hlen:L.length <= 100000000)
  (hq:∀x' (P PM:List (T×Ad)) h',P.map (·.1)=L->PM.map (·.1)=zxk mk->zcx h h' (.sl K.n x' (P.map K.cs) (PM.map K.cs)::(K.os true P++K.os false PM))->Q x' h'):zv5 C K.n K.bytes fm fl K.z x h Q:=by
 have hlx:=hx.zbg;have hmul:∀n:Nat,n <= 100000100->n*K.bytes <= 140737488355328:=λn hn=>by
  have:=Nat.mul_le_mul hn K.small;omega
 have e1:IntKind.i64.wrap ((L.length:Int)+12)=(L.length:Int)+12:=wrap_i64 (by omega) (by omega);simp -dsimp[zv5,hlx,e1];refine⟨K.pos,(zcx.start h).mks (es:=K.n) K.zlen (by omega) (by omega) ?_ (by omega) λy h1 ho=>?_⟩
 ·have:=hmul (L.length+12) (by omega)
  have e:((L.length:Int)+12)*K.bytes=((L.length+12)*K.bytes:Nat):=by simp
  rw[e];omega
 refine zd.intro (λn vs hh=>∃(k:Nat)(y:za)(P:List (T×Ad))(R:List (List za)),k+n=L.length /\ vs=[y,.int .i64 k] /\ P.map (·.1)=L.take k /\ zcx h hh (.sl K.n y (P.map K.cs) R::K.os true P)) L.length ?_ ⟨0,y,[],_,by simp,by simp,by simp,by simpa[DK.os]using ho⟩;rintro Y n vs hh ⟨k,y3,P,R3,hn,rfl,hP,ho3⟩ hY;have hPl:P.length=k:=by have:=congrArg List.length hP;simp at this;omega
 simp -dsimp[hlx];refine B.zl (λhc=>?_) (λhc=>?_)<;>simp -dsimp at hc ⊢
 ·obtain⟨w,hw⟩:=zgd hc
  obtain⟨a,ea⟩:=(hx.mono ho3.le).get hw;simp -dsimp only[ea.idx,ea.ldn,B.ze,B.zno];refine sl _ _ _ _ ea.at_ λa' h4 o4=>?_;simp -dsimp only[setN_whole K _ a',fieldN_whole K _ a',zt6 K _ a',B.ze];refine(ho3.join o4).push 0 rfl (K.len _ a') K.pos (by simp;exact hmul _ (by omega)) (by simp[maxLen];omega) λy5 h5 o5 _=>?_;simp -dsimp[zjf (n:=k) (by omega)];refine hY (L.length-(k+1)) _ _ (by omega) ⟨k+1,y5,P++[(w,a')],[],by omega,by simp,?_,?_⟩
  ·rw[take_succ hw,List.map_append,hP];rfl
  ·rw[DK.ztu,DK.os_one,List.map_append]
   simpa using o5
 ·have hk:k=L.length:=by omega
  rw[hk,List.take_length]at hP;refine zd.intro (λn vs hh=>∃(j:Nat)(y:za)(PM:List (T×Ad))(R:List (List za)),j+n=12 /\ vs=[y,.int .i64 j] /\ PM.map (·.1)=(List.range j).map (fun(i:Nat)=>mk 1 (i:Int)) /\ zcx h hh (.sl K.n y (P.map K.cs++PM.map K.cs) R::(K.os true P++K.os false PM))) 12 ?_
   ⟨0,y3,[],R3,by simp,by simp,by simp,by simpa[DK.os]using ho3⟩
  rintro Z n' vs h4 ⟨j,y4,PM,R4,hj,rfl,hPM,o4⟩ hZ;have hMl:PM.length=j:=by have:=congrArg List.length hPM;simpa using this
  simp -dsimp only[zv5.l2,zv5.k1,V.zei,B.ze];refine B.zl (λhd=>?_) (λhd=>?_)<;>simp -dsimp at hd
  ·refine sm _ _ _ _ λa' h5 o5=>?_
   simp -dsimp only[zt6 K _ a'];refine(o4.join o5).push 0 rfl (K.len _ a') K.pos (by simp;exact hmul _ (by omega)) (by simp[maxLen];omega) λy6 h6 o6 _=>?_;simp -dsimp[zjf (n:=j) (by omega)];refine hZ (12-(j+1)) _ _ (by omega) ⟨j+1,y6,PM++[(mk 1 j,a')],[],by omega,by simp,?_,?_⟩
   ·rw[List.map_append,hPM,List.range_succ,List.map_append];rfl
   ·rw[DK.ztu,DK.os_one,List.map_append]
    simpa using o6
  ·have hj12:j=12:=by omega
   subst hj12;obtain⟨x',e2,e3,e4⟩:=(o4.zg1 0 rfl).slice K.pos (lo:=0) (hi:=L.length) (a:=none) (b:=some (.int .i64 L.length)) (.inl ⟨rfl,rfl⟩) (.inr ⟨_,rfl⟩) (by omega) (by simp;omega);simp -dsimp only[hlx,e2,B.ze];have h1:((P.map K.cs++PM.map K.cs++R4).take L.length).drop 0=P.map K.cs:=by
    rw[List.append_assoc,List.take_append_of_le_length (by simp;omega),List.take_of_length_le (by simp;omega),List.drop_zero]
   have h2:(P.map K.cs++PM.map K.cs++R4).drop L.length=PM.map K.cs++R4:=by
    rw[List.append_assoc,List.drop_append_of_le_length (by simp;omega),List.drop_of_length_le (by simp;omega),List.nil_append]
   rw[h1,h2]at e3;have e5:SlX h4 K.n x' (P.map K.cs) (PM.map K.cs):=e3.cutR;refine hq x' P PM h4 hP hPM ?_;exact o4.zpz 0 rfl (o':= .sl K.n x' (P.map K.cs) (PM.map K.cs)) e5 (λid b hf hb=>o4.zp7 0 rfl id b (by show zhs y4=some id;rw[<-e4];exact hf) hb) (λj b hb _=>hb) (.inl e4)
def zv6(K:DK T Ad)(mk:Int->Int->T)(h:zb)(x:za)(L:List T):Prop:=∃P PM:List (T×Ad),P.map (·.1)=L /\ PM.map (·.1)=zxk mk /\ SlX h K.n x (P.map K.cs) (PM.map K.cs) /\ zv7 h (K.os true P) /\ (∀p∈P,K.ok p.1) /\ ∀p∈PM,K.at_ h p.1 p.2
theorem zv6.mono{mk:Int->Int->T}(hd:zv6 K mk h x L)(hle:h.le h'):zv6 K mk h' x L:=by
 obtain⟨P,PM,e1,e2,s,a1,a0,a2⟩:=hd;exact⟨P,PM,e1,e2,s.mono hle,a1.mono hle,a0,λp hp=>K.mono hle (a2 p hp)⟩
theorem zv6.dl{mk:Int->Int->T}(hd:zv6 K mk h x L):Dl K h x L:=by
 obtain⟨P,PM,e1,e2,s,a1,a0,a2⟩:=hd;exact⟨P,_,e1,s,λp hp=>K.zxg (a0 p hp) λo ho=>a1 o (List.mem_flatMap.2 ⟨p,hp,ho⟩)⟩
theorem mks12_ok{mk:Int->Int->T}{PM:List (T×Ad)}(hmk:∀k i,K.ok (mk k i))(e2:PM.map (·.1)=zxk mk):∀p∈PM,K.ok p.1:=λp hp=>by
 have:p.1∈PM.map (·.1):=List.mem_map.2 ⟨p,hp,rfl⟩
 rw[e2,zxk,List.mem_map]at this
 obtain⟨i,_,e⟩:=this
 rw[<-e];exact hmk _ _
theorem zv6.of{mk:Int->Int->T}{P PM:List (T×Ad)}(hmk:∀k i,K.ok (mk k i))(hok:∀t∈L,K.ok t)(e1:P.map (·.1)=L)(e2:PM.map (·.1)=zxk mk)(ho:zcx h0 h (.sl K.n x (P.map K.cs) (PM.map K.cs)::(K.os true P++K.os false PM))):zv6 K mk h x L:=⟨P,PM,e1,e2,ho.zg1 0 rfl,λo hm=>ho.is o (List.mem_cons_of_mem _ (List.mem_append_left _ hm)),λp hp=>hok _ (e1 ▸ List.mem_map.2 ⟨p,hp,rfl⟩),λp hp=>K.zxg (mks12_ok hmk e2 p hp) λo hm=>ho.is o (List.mem_cons_of_mem _ (List.mem_append_right _ (List.mem_flatMap.2 ⟨p,hp,hm⟩)))⟩
@[simp] def keptD.k1(C:zh)(n fk fm fs:Nat)(Q:zQ)(Y1:zL)(v1 v5 v6:za)(h:zb):Prop:=B.pv (V.zbg v5) λv19=>B.pv (V.bin .lss v6 v19) λv20=>B.cond v20 (B.pv (V.zbg v1) λv25=>B.pv (V.bin .lss v6 v25) λv26=>B.gd h v26 true (λK=>K v5 h) λv28 h=>B.gd h v26 true (λK=>K v6 h) λv29 h=>B.gd h v26 true (λK=>B.pv (V.zb4 n v28 v29) λv=>K v h) λv30 h=>B.gd h v26 true (λK=>B.ldn h v30 n λv=>K v h) λv31 h=>B.gd h v26 true (λK=>K v1 h) λv32 h=>B.gd h v26 true (λK=>K v6 h) λv33 h=>B.gd h v26 true (λK=>B.pv (V.zb4 n v32 v33) λv=>K v h) λv34 h=>B.gd h v26 true (λK=>B.ldn h v34 n λv=>K v h) λv35 h=>B.gd h v26 true (λK=>B.call C fk [v31,v35] h K) λv36 h=>B.gd h v26 true (λK=>B.pv (V.un .not v36) λv=>K v h) λv37 h=>B.pick v26 v37 (.bool false) λv38=>B.gd h v38 false (λK=>K v6 h) λv40 h=>B.gd h v38 false (λK=>K v1 h) λv41 h=>B.gd h v38 false (λK=>B.pv (V.zbg v41) λv=>K v h) λv42 h=>B.gd h v38 false (λK=>B.pv (V.bin .geq v40 v42) λv=>K v h) λv43 h=>B.gd h v38 false (λK=>K v43 h) λv44 h=>B.gd h v44 true (λK=>K v5 h) λv45 h=>B.gd h v44 true (λK=>K v6 h) λv46 h=>B.gd h v44 true (λK=>B.pv (V.zb4 n v45 v46) λv=>K v h) λv47 h=>B.gd h v44 true (λK=>B.ldn h v47 n λv=>K v h) λv48 h=>B.gd h v44 true (λK=>K v6 h) λv49 h=>B.gd h v44 true (λK=>K v1 h) λv50 h=>B.gd h v44 true (λK=>B.pv (V.zbg v50) λv=>K v h) λv51 h=>B.gd h v44 true (λK=>B.pv (V.bin .sub v49 v51) λv=>K v h) λv52 h=>B.gd h v44 true (λK=>B.call C fm [(.int .i64 1),v52] h (B.zoy h [(v47,some n)] K)) λv53 h=>B.gd h v44 true (λK=>B.call C fs [v48,v53] h K) λv54 h=>B.gd h v44 true (λK=>B.pv (V.un .not v54) λv=>K v h) λv55 h=>B.gd h v38 false (λK=>B.pick v44 v55 (.bool false) λv=>K v h) λv56 h=>B.pick v38 (.bool true) v56 λv57=>B.cond v57 (Q (.bool false) h) (B.pv (V.bin .add v6 (.int .i64 1)) λv22=>Y1 [v22] h)) (Q (.bool true) h)
@[simp] def keptD.l2(C:zh)(n fk fm fs:Nat)(Q:zQ)(v1 v5:za):zG|[v6],h,Y1=>keptD.k1 C n fk fm fs Q Y1 v1 v5 v6 h|_,_,_=>False
@[simp] def keptD.k3(C:zh)(n fk fm fs:Nat)(Q:zQ)(v0 v1:za)(h:zb):Prop:=B.pv (V.zbg v1) λv14=>B.pv (V.bin .add v14 (.int .i64 12)) λv15=>B.pv (V.zhn n v0 none (some v15)) λv16=>zd (keptD.l2 C n fk fm fs Q v1 v16) [(.int .i64 0)] h
def keptD(C:zh)(n fk fm fs:Nat)(v0 v1:za)(h:zb)(Q:zQ):Prop:=B.pv (V.zbg v0) λv8=>B.pv (V.zbg v1) λv10=>B.pv (V.bin .neq v8 v10) λv11=>B.cond v11 (Q (.bool false) h) (keptD.k3 C n fk fm fs Q v0 v1 h)
theorem keptD_spec[DecidableEq T]{mk:Int->Int->T}{fk fm fs:Nat}(hmk:∀k i,K.ok (mk k i))(sk:KeptE K C fk)(sm:MarkE K mk C fm)(ss:SameE K C fs){y:za}{Q:zQ}(hx:zv6 K mk h x L)(hy:Dl K h y M)(hlen:L.length <= 100000000)
  (hq:∀h',h.le h'->Q (.bool (decide (L=M))) h'):keptD C K.n fk fm fs x y h Q:=by
 have hlx:=hx.dl.zbg;have hly:=hy.zbg;simp -dsimp[keptD,hlx,hly];refine B.zl (λhb=>?_) (λhb=>?_)<;>simp -dsimp at hb ⊢
 ·have hq:=hq h (zb.le_refl h)
  rw[decide_eq_false λe=>hb (by rw[e])]at hq;exact hq
 ·obtain⟨P,PM,rfl,hPM,s,a1,a0,a2⟩:=hx
  have hMl:PM.length=12:=by have:=congrArg List.length hPM;simpa[zxk]using this
  rw[List.length_map]at hb hlen;have e1:IntKind.i64.wrap ((M.length:Int)+12)=((M.length+12:Nat):Int):=by rw[wrap_i64 (by omega) (by omega)];omega
  obtain⟨z,e2,e3,e4⟩:=s.slice K.pos (lo:=0) (hi:=M.length+12) (a:=none) (b:=some (.int .i64 ((M.length+12:Nat):Int))) (.inl ⟨rfl,rfl⟩) (.inr ⟨_,rfl⟩) (by omega) (by simp;omega);have h1:((P.map K.cs++PM.map K.cs).take (M.length+12)).drop 0=(P++PM).map K.cs:=by rw[List.drop_zero,List.take_of_length_le,List.map_append];simp;omega
  rw[h1]at e3;have hlz:=e3.zbg;simp only[List.length_map,List.length_append,hMl]at hlz;simp only[hly,V.zfe,e1,e2,B.ze];refine zd.intro (λn vs hh=>∃k,k+n=P.length+12 /\ vs=[.int .i64 k] /\ h.le hh /\ (P.map (·.1)).take k=M.take k) (P.length+12) ?_ ⟨0,by simp,by simp,zb.le_refl h,by simp⟩;rintro Y n vs hh ⟨k,hn,rfl,hle,he⟩ hY;have e3:=e3.mono hle;simp -dsimp[hlz];refine B.zl (λhc=>?_) (λhc=>?_)<;>simp -dsimp at hc ⊢
  ·by_cases hkL:k<P.length
   ·obtain⟨p,hp⟩:=zgd hkL
    have hkM:k<M.length:=by omega
    obtain⟨u,hu⟩:=zgd hkM;obtain⟨b,eb⟩:=(hy.mono hle).get hu;have hpz:((P++PM).map K.cs)[k]?=some (K.cells p.1 p.2):=by rw[List.getElem?_map,List.getElem?_append_left hkL,hp];rfl
    have hkz:k<((P++PM).map K.cs).length:=by simp;omega
    have e5:=e3.elem hpz;have e6:=e3.zjk (k:= .i64) hkz;have hw:(P.map (·.1))[k]?=some p.1:=by rw[List.getElem?_map,hp];rfl
    simp -dsimp only[hly,V.zei,show ((k:Int)<(M.length:Int)) by omega,decide_true,B.zi3,B.zra,B.zdr,zlj,e6,e5,eb.idx,eb.ldn,B.ze,B.zno];refine sk _ _ _ _ _ _ (a0 p (List.mem_of_getElem? hp)) (zv7.mono (l:=K.obs true p.1 p.2) (λo ho=>a1 o (List.mem_flatMap.2 ⟨p,List.mem_of_getElem? hp,ho⟩)) hle) eb.at_ ?_;simp -dsimp only[B.zi3,B.zdr,V.zjm,B.ze,B.zht];by_cases hwu:p.1=u
    ·simp -dsimp only[hwu,decide_true,Bool.not_true,B.gd_f,Bool.not_false,B.zdr,hly,V.zln,show ¬ ((M.length:Int) <= (k:Int)) by omega,decide_false,B.zi3,B.zf8,B.zio,B.ze,B.cond_false,V.zfe,zjf (n:=k) (by omega)]
     refine hY (P.length+12-(k+1)) _ _ (by omega) ⟨k+1,by omega,rfl,hle,?_⟩;rw[take_succ hw,take_succ hu,he,hwu]
    ·simp -dsimp only[hwu,decide_false,Bool.not_false,B.gd_f,Bool.not_true,B.zf8,B.zht,B.cond_true,B.gd_tup]
     have hq:=hq hh hle;rw[decide_eq_false λe=>by rw[e,hu]at hw;cases hw;exact hwu rfl]at hq;exact hq
   ·have hkM:¬ k<M.length:=by omega
    obtain⟨p,hp⟩:=zgd (L:=PM) (k:=k-P.length) (by omega);have hpz:((P++PM).map K.cs)[k]?=some (K.cells p.1 p.2):=by rw[List.getElem?_map,List.getElem?_append_right (by omega),hp];rfl
    have hkz:k<((P++PM).map K.cs).length:=by simp;omega
    have e5:=e3.elem hpz;have e6:=e3.zjk (k:= .i64) hkz;have hm:p.1=mk 1 ((k-M.length:Nat):Int):=by
     have:(PM.map (·.1))[k-P.length]?=some p.1:=by rw[List.getElem?_map,hp];rfl
     rw[hPM,zxk,List.getElem?_map,List.getElem?_range (by omega)]at this;simp only[Option.map_some,Option.some.injEq]at this;rw[<-this];congr 2;omega
    have e7:IntKind.i64.wrap ((k:Int)-M.length)=((k-M.length:Nat):Int):=by rw[wrap_i64 (by omega) (by omega)];omega
    simp -dsimp only[hly,V.zei,show ¬ ((k:Int)<(M.length:Int)) by omega,decide_false,B.zi3,B.zra,B.zf8,gv_false,B.zio,B.gd_f,Bool.not_false,B.zdr,zlj,V.zln,show ((M.length:Int) <= (k:Int)) by omega,decide_true,e6,e5,V.zjw,e7,B.ze,B.zno];refine sm _ _ _ _ λa' h5 o5=>⟨?_,?_⟩
    ·intro q hq
     rw[List.mem_singleton.1 hq];exact⟨_,e5,(e3.mono o5.le).elem hpz⟩
    ·simp -dsimp only[zlj,B.zi3,B.zdr,B.ze,decide_true]
     refine ss _ _ _ _ _ _ (K.mono (zb.le_trans hle o5.le) (a2 p (List.mem_of_getElem? hp))) (K.zxg (hmk _ _) o5.is) ?_;simp -dsimp only[hm,zlj,decide_true,decide_false,V.zjm,Bool.not_true,Bool.not_false,B.zi3,B.gd_f,B.zdr,B.zht,B.zio,B.ze,B.cond_false,V.zfe,zjf (n:=k) (by omega)];refine hY (P.length+12-(k+1)) _ _ (by omega) ⟨k+1,by omega,rfl,zb.le_trans hle o5.le,?_⟩;rw[List.take_of_length_le (by simp;omega),List.take_of_length_le (by omega)]at he ⊢;exact he
  ·have hq:=hq hh hle
   rw[List.take_of_length_le (by simp;omega),List.take_of_length_le (by omega)]at he;rw[decide_eq_true he]at hq;exact hq
end
variable{C:zh}{N:zN}
structure Itm where
 Code:List UInt8
 Life:Int
 zf7:List Part
 zes:List (List UInt8)
 deriving DecidableEq
def few:Nat:=100000000
abbrev Itm.ok(t:Itm):Prop:=t.zf7.length <= few /\ t.zes.length <= few
def zuw(b:Bool)(x:za)(l:List Part):Ob:= .sl 2 x (l.map Part.cs) (bif b then znl else [])
def zul(b:Bool)(x:za)(l:List (List UInt8)):Ob:= .sl 1 x (l.map tc) (bif b then zi7 else [])
def zeg:DK Itm (za×za) where
 n:=4
 bytes:=72
 z:=[.str [],.int .i64 0,.zbp,.zbp]
 pos:=by omega
 small:=by omega
 zlen:=rfl
 cells t a:=[.str t.Code,.int .i64 t.Life,a.1,a.2]
 len _ _:=rfl
 at_ h t a:=(∃R,SlX h 2 a.1 (t.zf7.map Part.cs) R) /\ (∃R,SlX h 1 a.2 (t.zes.map tc) R) /\ t.ok
 mono hle ha:=⟨ha.1.imp λ_ r=>r.mono hle,ha.2.1.imp λ_ r=>r.mono hle,ha.2.2⟩
 ok:=Itm.ok
 at_ok ha:=ha.2.2
 obs b t a:=[zuw b a.1 t.zf7,zul b a.2 t.zes]
 zxg {b h t a} hk ha:=⟨⟨_,show SlX h 2 a.1 (t.zf7.map Part.cs) (bif b then znl else []) from ha (zuw b a.1 t.zf7) (by simp)⟩,⟨_,show SlX h 1 a.2 (t.zes.map tc) (bif b then zi7 else []) from ha (zul b a.2 t.zes) (by simp)⟩,hk⟩
abbrev iCells(t:Itm)(a:za×za):List za:=[.str t.Code,.int .i64 t.Life,a.1,a.2]
theorem Itm.eq_iff(t u:Itm):t=u↔((t.Code=u.Code /\ t.Life=u.Life) /\ t.zf7=u.zf7) /\ t.zes=u.zes:=by
 cases t;cases u;simp[Itm.mk.injEq,and_assoc]
def zfb.Spec(C:zh)(N:zN):Prop:=SameE zeg C (N 110)
theorem zfb.spec(i:zfb.Imp C N)(s1:zev.Spec C N)(s2:zed.Spec C N):zfb.Spec C N:=by
 intro t u a b h Q ha hb hq;obtain⟨⟨R1,a1⟩,⟨R2,a2⟩,a3,a4⟩:(∃R,SlX h 2 a.1 (t.zf7.map Part.cs) R) /\ (∃R,SlX h 1 a.2 (t.zes.map tc) R) /\ t.ok:=ha;obtain⟨⟨S1,b1⟩,⟨S2,b2⟩,b3,b4⟩:(∃R,SlX h 2 b.1 (u.zf7.map Part.cs) R) /\ (∃R,SlX h 1 b.2 (u.zes.map tc) R) /\ u.ok:=hb;unfold few at a3 a4;apply i;simp +contextual -dsimp[zeg];refine B.zmc (v:= .bool (decide (t.zf7=u.zf7))) (λ_ Q hq=>s1 _ _ _ _ _ _ _ _ a1 b1 (by omega) hq) ?_;simp +contextual -dsimp;refine B.zmc (v:= .bool (decide (t.zes=u.zes))) (λ_ Q hq=>s2 _ _ _ _ _ _ _ _ a2 b2 (by omega) hq) ?_;simp -dsimp;refine z8 ?_;have:decide (t=u)=(((decide (t.Code=u.Code)&&decide (t.Life=u.Life))&&decide (t.zf7=u.zf7))&&decide (t.zes=u.zes)):=by
  rw[Bool.eq_iff_iff];simp only[decide_eq_true_eq,Bool.and_eq_true];exact Itm.eq_iff t u
 rw[this]at hq;exact hq
def zf3.Spec(C:zh)(N:zN):Prop:=OneE zeg true C (N 399)
theorem zf3.spec(i:zf3.Imp C N)(s1:zey.Spec C N)(s2:zen.Spec C N):zf3.Spec C N:=by
 intro t a h Q ha hq;obtain⟨⟨R1,a1⟩,⟨R2,a2⟩,a3,a4⟩:(∃R,SlX h 2 a.1 (t.zf7.map Part.cs) R) /\ (∃R,SlX h 1 a.2 (t.zes.map tc) R) /\ t.ok:=ha;apply i;simp -dsimp[zeg];refine s1 _ _ _ _ _ a1 a3 λx1 h1 o1=>?_;have c1:=(o1.zg1 0 rfl).zbl;simp -dsimp[c1];refine s2 _ _ _ _ _ (a2.mono o1.le) a4 λx2 h2 o2=>?_;have c2:=(o2.zg1 0 rfl).zbl;simp -dsimp[c2];exact z8 (hq (x1,x2) h2 (o1.join o2))
def zf4.Spec(C:zh)(N:zN):Prop:=KeptE zeg C (N 400)
theorem zf4.spec(i:zf4.Imp C N)(s0:zfb.Spec C N)(s1:zee.Spec C N)(s2:zd8.Spec C N):zf4.Spec C N:=by
 intro t u a b h Q hok ha hb hq;apply i;have ha':=zeg.zxg hok ha;obtain⟨⟨S1,b1⟩,⟨S2,b2⟩,b3,b4⟩:(∃R,SlX h 2 b.1 (u.zf7.map Part.cs) R) /\ (∃R,SlX h 1 b.2 (u.zes.map tc) R) /\ u.ok:=hb;have k1:SlX h 2 a.1 (t.zf7.map Part.cs) znl:=ha (zuw true a.1 t.zf7) (by simp[zeg]);have k2:SlX h 1 a.2 (t.zes.map tc) zi7:=ha (zul true a.2 t.zes) (by simp[zeg]);simp -dsimp[zeg];refine s0 t u a b h _ ha' ⟨⟨S1,b1⟩,⟨S2,b2⟩,b3,b4⟩ ?_;simp +contextual -dsimp;refine B.zmc (v:= .bool (decide (t.zf7=u.zf7))) (λ_ Q hq=>s1 _ _ _ _ _ _ _ k1 b1 hok.1 hq) ?_;simp +contextual -dsimp;refine B.zmc (v:= .bool (decide (t.zes=u.zes))) (λ_ Q hq=>s2 _ _ _ _ _ _ _ k2 b2 hok.2 hq) ?_;simp -dsimp;refine z8 ?_;have:decide (t=u)=(decide (t=u)&&decide (t.zf7=u.zf7)&&decide (t.zes=u.zes)):=by
  by_cases h:t=u
  ·subst h;simp
  ·simp[h]
 rw[this]at hq;exact hq
def zlb(k i:Int):Itm:=⟨[],mark k i,[],[]⟩
theorem zta(k i:Int):zeg.ok (zlb k i):=⟨by simp[zlb],by simp[zlb]⟩
def zfa.Spec(C:zh)(N:zN):Prop:=MarkE zeg zlb C (N 109)
theorem zfa.spec(i:zfa.Imp C N)(s1:zhe.Spec C N):zfa.Spec C N:=by
 intro k j h Q hq;apply i;simp -dsimp;refine s1 _ _ _ _ ?_;simp -dsimp;exact z8 (hq (.zbp,.zbp) _ (by simpa[zeg,zlb,zuw,zul]using ((zcx.start h).zbp 2).zbp 1))
def zd0.Spec(C:zh)(N:zN):Prop:=∀(x y:za)(L M:List Itm)(h:zb)(Q:zQ),Dl zeg h x L->Dl zeg h y M->L.length<4611686018427387904->Q (.bool (decide (L=M))) h->C (N 134) [x,y] h Q
theorem zd0.spec(i:zd0.Imp C N)(s1:zfb.Spec C N):zd0.Spec C N:=λx y L M h Q hx hy hl hq=>i x y h Q (sameD_spec (K:=zeg) s1 hx hy hl (z8 hq))
def zcz.Spec(C:zh)(N:zN):Prop:=∀(x:za)(L:List Itm)(h:zb)(Q:zQ),Dl zeg h x L->L.length <= 100000000->(∀x' P PM h',P.map (·.1)=L->PM.map (·.1)=zxk zlb->zcx h h' (.sl 4 x' (P.map zeg.cs) (PM.map zeg.cs)::(zeg.os true P++zeg.os false PM))->Q x' h')->C (N 391) [x] h Q
theorem zcz.spec(i:zcz.Imp C N)(s1:zfa.Spec C N)(s2:zf3.Spec C N):zcz.Spec C N:=λx L h Q hx hl hq=>i x h Q (lentD_spec (K:=zeg) s1 s2 hx hl λx' P PM h' e1 e2 ho=>z8 (hq x' P PM h' e1 e2 ho))
def zdj.Spec(C:zh)(N:zN):Prop:=∀(x y:za)(L M:List Itm)(h:zb)(Q:zQ),zv6 zeg zlb h x L->Dl zeg h y M->L.length <= 100000000->Q (.bool (decide (L=M))) h->C (N 392) [x,y] h Q
theorem zdj.spec(i:zdj.Imp C N)(s1:zf4.Spec C N)(s2:zfa.Spec C N)(s3:zfb.Spec C N):zdj.Spec C N:=λx y L M h Q hx hy hl hq=>i x y h Q (keptD_spec (K:=zeg) zta s1 s2 s3 hx hy hl λh' hle=>dn_le hle hq)
variable{C:zh}{N:zN}
abbrev zif:List UInt8->List UInt8->Bool:=Op.bytesLess
theorem lessB_nil(a:List UInt8):zif a []=false:=by cases a<;>rfl
theorem ztw(a b:UInt8)(as1 bs:List UInt8):zif (a::as1) (b::bs)=(decide (a<b)||(a==b&&zif as1 bs)):=rfl
theorem u8_tri(a b:UInt8):a<b \/ a=b \/ b<a:=by
 simp only[UInt8.lt_iff_toNat_lt,<-UInt8.toNat_inj];omega
theorem zlc:∀a:List UInt8,zif a a=false
 | []=>rfl
 | a::as1=>by rw[ztw,zlc as1];simp
theorem zl7:∀{a b c:List UInt8},zif a b=true->zif b c=true->zif a c=true
 | _,[],_,h,_=>by rw[lessB_nil]at h;cases h
 | _,_::_,[],_,h=>by rw[lessB_nil]at h;cases h
 | [],_::_,_::_,_,_=>rfl
 | a::as1,b::bs,c::cs,h1,h2=>by
  rw[ztw]at h1 h2 ⊢
  simp only[Bool.or_eq_true,decide_eq_true_eq,Bool.and_eq_true,beq_iff_eq]at h1 h2 ⊢
  rcases h1 with h1|⟨rfl,h1⟩
  ·rcases h2 with h2|⟨rfl,h2⟩
   ·left;simp only[UInt8.lt_iff_toNat_lt]at *;omega
   ·exact .inl h1
  ·rcases h2 with h2|⟨rfl,h2⟩
   ·exact .inl h2
   ·exact .inr ⟨rfl,zl7 h1 h2⟩
theorem zpg:∀{a b:List UInt8},zif a b=false->zif b a=false->a=b
 | [],[],_,_=>rfl
 | [],_::_,h,_=>by cases h
 | _::_,[],_,h=>by cases h
 | a::as1,b::bs,h1,h2=>by
  rw[ztw]at h1 h2
  simp only[Bool.or_eq_false_iff,decide_eq_false_iff_not,Bool.and_eq_false_iff,beq_eq_false_iff_ne]at h1 h2
  obtain rfl:a=b:=by rcases u8_tri a b with h|h|h<;>simp_all
  rw[zpg (h1.2.resolve_left λh=>h rfl) (h2.2.resolve_left λh=>h rfl)]
theorem zq5{a b:List UInt8}(h:zif a b=true):zif b a=false:=by
 cases e:zif b a with
 | false=>rfl
 | true=>have:=zl7 h e;rw[zlc]at this;cases this
theorem zwi{a b:List UInt8}(h:zif a b=true):a≠b:=λe=>by subst e;rw[zlc]at h;cases h
theorem zn6{a b:List UInt8}(h:zif a b=false)(hne:a≠b):zif b a=true:=by
 cases e:zif b a with
 | true=>rfl
 | false=>exact absurd (zpg h e) hne
abbrev cmpB:=Lib.compareBytes
theorem zuc:∀a b:List UInt8,cmpB a b=if zif a b then -1 else if zif b a then 1 else 0
 | [],[]=>rfl
 | [],_::_=>rfl
 | _::_,[]=>rfl
 | a::as1,b::bs=>by
  have ih:=zuc as1 bs
  show (if a<b then -1 else if b<a then 1 else cmpB as1 bs)=_
  rw[ih,ztw,ztw]
  rcases u8_tri a b with h|rfl|h
  ·simp[h]
  ·have hi:¬ a<a:=by simp only[UInt8.lt_iff_toNat_lt];omega
   simp
  ·have h1:¬ a<b:=by simp only[UInt8.lt_iff_toNat_lt]at *;omega
   have h2:a≠b:=λe=>by subst e;exact h1 h
   have h3:(a==b)=false:=by simp[h2]
   simp[h,h1,h3]
theorem zud{a b:List UInt8}:cmpB a b<0↔zif a b=true:=by
 rw[zuc];split
 ·simp[*]
 ·split<;>simp[*]
theorem cmpB_zero{a b:List UInt8}:cmpB a b=0↔a=b:=by
 rw[zuc];split
 ·rename_i h;simp[zwi h]
 ·split
  ·rename_i h;simp[(zwi h).symm]
  ·rename_i h1 h2;simp[zpg (by simpa using h1) (by simpa using h2)]
theorem rise_ext{T:Type}{lt:T->T->Prop}(asym:∀a b,lt a b->lt b a->False){l m:List T}(s:l.Pairwise lt)(t:m.Pairwise lt)(e:∀x,x∈l↔x∈m):l=m:=by
 have nd:∀{l:List T},l.Pairwise lt->l.Nodup:=λh=>h.imp λ{a b} hab e=>by subst e;exact asym a a hab hab
 exact List.Perm.eq_of_pairwise (le:=lt) (λa b _ _ h1 h2=>(asym a b h1 h2).elim) s t ((List.perm_ext_iff_of_nodup (nd s) (nd t)).2 e)
variable{C:zh}{N:zN}
theorem SlX.sliceIn{T:Type}{h:zb}{es:Nat}{x:za}{f:T->List za}{L:List T}{R:List (List za)}(hs:SlX h es x (L.map f) R)(hes:0<es){lo hi:Nat}{a b:Option za}(ha:a=none /\ lo=0 \/ ∃k,a=some (.int k lo))(hb:b=none /\ hi=L.length \/ ∃k,b=some (.int k hi))(h1:lo <= hi)(h2:hi <= L.length):
  ∃x' R',V.zhn es x a b=some x' /\ SlX h es x' (((L.take hi).drop lo).map f) R' /\ zhs x'=zhs x:=by
 obtain⟨x',e1,e2,e3⟩:=hs.slice hes ha (by simpa using hb) h1 (by simp;omega);refine⟨x',(L.map f++R).drop hi,e1,?_,e3⟩
 rwa [List.take_append_of_le_length (by simpa using h2),<-List.map_take,<-List.map_drop]at e2
section
variable{V:Type}
variable(E:V->List V)
variable{E}
variable{K:List V}{D:V->Option Nat}
end
theorem flat_take{α:Type}{n:Nat}:∀{css:List (List α)},(∀cs∈css,cs.length=n)->∀k:Nat,(css.take k).flatten=css.flatten.take (k*n)
 | [],_,k=>by simp
 | c::css,hl,0=>by simp
 | c::css,hl,k+1=>by
  have hc:c.length=n:=hl c (by simp)
  rw[List.take_succ_cons,List.flatten_cons,List.flatten_cons,flat_take (λp hp=>hl p (by simp[hp])) k,Nat.add_mul,Nat.one_mul,show k*n+n=c.length+k*n by omega,List.take_length_add_append]
theorem flat_drop{α:Type}{n:Nat}:∀{css:List (List α)},(∀cs∈css,cs.length=n)->∀k:Nat,(css.drop k).flatten=css.flatten.drop (k*n)
 | [],_,k=>by simp
 | c::css,hl,0=>by simp
 | c::css,hl,k+1=>by
  have hc:c.length=n:=hl c (by simp)
  rw[List.drop_succ_cons,List.flatten_cons,flat_drop (λp hp=>hl p (by simp[hp])) k,Nat.add_mul,Nat.one_mul,show k*n+n=c.length+k*n by omega,List.drop_length_add_append]
theorem lay_read{cells Z F:List za}{off lo T:Nat}(h5:(cells.drop off).take T=F)(hF:F.length=T)(hh:off+T <= cells.length)(hz:lo+Z.length <= T):
  ((cells.take (off+lo)++Z++cells.drop (off+lo+Z.length)).drop off).take T=F.take lo++Z++F.drop (lo+Z.length):=by
 subst h5;apply List.ext_getElem?;intro k;by_cases hk:k<T
 ·rw[List.getElem?_take_of_lt hk,List.getElem?_drop,List.append_assoc,List.append_assoc]
  have l1:(cells.take (off+lo)).length=off+lo:=by simp;omega
  have l2:(((cells.drop off).take T).take lo).length=lo:=by simp;omega
  rw[zq8 _ _ _ l1,zq8 _ _ _ l2,show off+k-(off+lo)=k-lo by omega];by_cases k1:k<lo
  ·rw[if_pos (by omega),if_pos k1,List.getElem?_take_of_lt (by omega),List.getElem?_take_of_lt (by omega),List.getElem?_take_of_lt (by omega),List.getElem?_drop]
  ·rw[if_neg (by omega),if_neg k1]
   split
   ·rfl
   ·rw[List.getElem?_drop,List.getElem?_drop,List.getElem?_take_of_lt (by omega),List.getElem?_drop]
    congr 1;omega
 ·rw[List.getElem?_take_eq_none (by omega),List.getElem?_eq_none]
  simp;omega
section
variable{h h0:zb}{es:Nat}{x:za}{L R:List (List za)}{l:List Ob}
theorem SlX.clrTail{lo:Nat}{z:List za}{K:zQ}(ho:SlX h es x L R)(hown:∀id b,zhs x=some id->h id=some b->b.own=true)(hz:z.length=es)(hlo:lo <= L.length)
  (hk:∀h',SlX h' es x (L.take lo++List.replicate (L.length-lo) z) R->(∀id b,zhs x=some id->h' id=some b->b.own=true)->But x h h'->K (.tup []) h'):
  ∃y,V.zhn es x (some (.int .i64 (lo:Int))) none=some y /\ A.clr h (some z) y K:=by
 rcases ho.at_ with⟨e,e',e''⟩|⟨id,g,off,cp,b,hi,h1,h1',h2,h3,h4,hh,h5⟩
 ·subst e e'
  have:lo=0:=by simpa using hlo
  subst this;refine⟨x,?_,?_⟩
  ·rcases e'' with rfl|rfl<;>rfl
  ·have:=hk h (by simpa using ho) hown (λ_ _ h _=>h)
   rcases e'' with rfl|rfl<;>exact this
 ·subst h1
  refine⟨.sl id g (off+lo*es) (L.length-lo) es (max L.length cp-lo),?_,?_⟩
  ·simp only[V.zhn,endsC_eq (.inr ⟨_,rfl⟩) (.inl ⟨rfl,rfl⟩)]
   rw[if_pos ⟨hlo,by omega⟩];simp
  ·simp only[A.clr]
   split
   ·rename_i h0
    refine hk h ?_ hown (λ_ _ h _=>h);rw[h0,List.take_of_length_le (by omega)];simpa using ho
   ·rename_i hne
    have hown':=hown id b rfl h2;generalize hZ:(List.replicate (L.length-lo) z).flatten=Z;have hzl:Z.length=(L.length-lo)*es:=by rw[<-hZ];simp[hz]
    have hTl:(L++R).length=L.length+R.length:=by simp
    have hmul:lo*es+(L.length-lo)*es=L.length*es:=by rw[<-Nat.add_mul];congr 1;omega
    have hmul2:L.length*es+R.length*es=(L.length+R.length)*es:=by rw[<-Nat.add_mul]
    have hbl:Nat.ble (0+(off+lo*es)+(L.length-lo)*es) hi=true:=by rw[Nat.ble_eq];omega
    have hput:V.zys (off+lo*es) ((L.length-lo)*es) (.agg Z) b.cells=some (b.cells.take (off+lo*es)++Z++b.cells.drop (off+lo*es+(L.length-lo)*es)):=by
     simp only[V.zys];rw[if_pos ⟨hzl,by omega⟩]
    simp only[A.stv,h2,h3,hown',hbl,Bool.true_and,cond_true,hput,A.ph];have rd:=lay_read (cells:=b.cells) (Z:=Z) (off:=off) (lo:=lo*es) h5 (by rw[zoa ho.len,hTl]) (by omega) (by rw[hzl];omega);have hnew:(L.take lo++List.replicate (L.length-lo) z++R).flatten=(L++R).flatten.take (lo*es)++Z++(L++R).flatten.drop (lo*es+Z.length):=by
     rw[List.flatten_append,List.flatten_append,hZ,hzl,hmul,<-flat_take ho.len,<-flat_drop ho.len,List.take_append_of_le_length hlo,List.drop_left]
    rw[<-hnew,hzl]at rd;have hll:(L.take lo++List.replicate (L.length-lo) z).length=L.length:=by simp;omega
    have hlen':∀p∈L.take lo++List.replicate (L.length-lo) z++R,p.length=es:=λp hp=>by
     rcases List.mem_append.1 hp with hp|hp
     ·rcases List.mem_append.1 hp with hp|hp
      ·exact ho.len p (List.mem_append_left _ (List.mem_of_mem_take hp))
      ·rw[(List.mem_replicate.1 hp).2];exact hz
     ·exact ho.len p (List.mem_append_right _ hp)
    refine hk _ ⟨hlen',.inr ⟨id,g,off,cp,_,hi,by rw[hll],by rw[hll];exact h1',zcg ..,zju ..,by rw[hll];exact h4,?_,by simp only;rw[hll];exact rd⟩⟩ (λj b1 hj hb1=>?_) (λj b1 e1 e2=>?_)
    ·simp;omega
    ·cases hj
     rw[zcg]at hb1;cases hb1;rfl
    ·rw[zba]
     ·exact e1
     ·intro e;subst e;exact e2 rfl
theorem zcx.clrTail{lo:Nat}{z:List za}{K:zQ}(ho:zcx h0 h l)(k:Nat)(hk:l[k]?=some (.sl es x L R))(hz:z.length=es)(hlo:lo <= L.length)(hK:∀h',zcx h0 h' (l.set k (.sl es x (L.take lo++List.replicate (L.length-lo) z) R))->But x h h'->K (.tup []) h'):∃y,V.zhn es x (some (.int .i64 (lo:Int))) none=some y /\ A.clr h (some z) y K:=(ho.zg1 k hk).clrTail (ho.zp7 k hk) hz hlo λh' h1 h2 h3=>hK h' (ho.zpz k hk h1 h2 h3 (.inl rfl)) h3
end
abbrev zlq(K T:Type):=List (K×T×Nat)
def zg6{K T:Type}(ps:zlq K T):List K:=ps.map (·.1)
theorem zow{K T:Type}(p:K×T×Nat)(r:zlq K T):zg6 (p::r)=p.1::zg6 r:=rfl
section
variable{K T:Type}[DecidableEq K]
def zls:zlq K T->K->Option T|[],_=>none|p::r,k=>if p.1=k then some p.2.1 else zls r k
def zx7:zlq K T->K->T->Nat->zlq K T|[],k,t,c=>[(k,t,c)]|p::r,k,t,c=>if p.1=k then (k,t,p.2.2)::r else p::zx7 r k t c
def clkP(ps:zlq K T)(k:K)(c:Nat):Nat:=if (zls ps k).isSome then c else c+1
def zu9:zlq K T->K->Option (Nat×T×Nat)|[],_=>none|p::r,k=>if p.1=k then some (0,p.2.1,p.2.2) else (zu9 r k).map fun(i,q)=>(i+1,q)
theorem zq9(k k':K)(t:T)(c:Nat):∀ps:zlq K T,zls (zx7 ps k t c) k'=if k'=k then some t else zls ps k'
 | []=>by
  simp only[zx7,zls]
  by_cases h:k'=k
  ·rw[if_pos h.symm,if_pos h]
  ·rw[if_neg (Ne.symm h),if_neg h]
 | p::r=>by
  have ih:=zq9 k k' t c r
  simp only[zx7]
  by_cases hp:p.1=k
  ·rw[if_pos hp]
   simp only[zls]
   by_cases h:k'=k
   ·rw[if_pos h.symm,if_pos h]
   ·rw[if_neg (Ne.symm h),if_neg h,if_neg (by rw[hp];exact Ne.symm h)]
  ·rw[if_neg hp]
   simp only[zls,ih]
   by_cases h:k'=k
   ·subst h;rw[if_neg hp,if_pos rfl,if_pos rfl]
   ·rw[if_neg h,if_neg h]
theorem zt5{k:K}:∀{ps:zlq K T},zls ps k=none↔k∉zg6 ps
 | []=>by simp[zls,zg6]
 | p::r=>by
  have ih:=zt5 (k:=k) (ps:=r)
  simp only[zls,zg6,List.map_cons,List.mem_cons,not_or]at ih ⊢
  by_cases hp:p.1=k
  ·simp[hp]
  ·simp[hp,ih,Ne.symm hp]
theorem zq7(k:K):∀ps:zlq K T,zls ps k=(zu9 ps k).map (·.2.1)
 | []=>rfl
 | p::r=>by
  simp only[zls,zu9]
  split
  ·rfl
  ·rw[zq7 k r];cases zu9 r k<;>rfl
theorem zwj{k:K}{t:T}{c i:Nat}{q:T×Nat}:∀{ps:zlq K T},zu9 ps k=some (i,q)->zx7 ps k t c=ps.set i (k,t,q.2) /\ i<ps.length
 | [],h=>by simp[zu9]at h
 | p::r,h=>by
  simp only[zu9]at h
  by_cases hp:p.1=k
  ·rw[if_pos hp]at h
   simp only[Option.some.injEq,Prod.mk.injEq]at h
   obtain⟨rfl,rfl⟩:=h
   simp[zx7,hp]
  ·rw[if_neg hp]at h
   cases hr:zu9 r k with
   | none=>simp[hr]at h
   | some x=>
    obtain⟨j,q'⟩:=x
    simp[hr]at h
    obtain⟨rfl,rfl⟩:=h
    have:=zwj (t:=t) (c:=c) hr
    simp[zx7,hp,this.1,this.2]
theorem zli{k:K}{t:T}{c:Nat}:∀{ps:zlq K T},zu9 ps k=none->zx7 ps k t c=ps++[(k,t,c)]
 | [],_=>rfl
 | p::r,h=>by
  simp only[zu9]at h
  by_cases hp:p.1=k
  ·rw[if_pos hp]at h;cases h
  ·rw[if_neg hp]at h
   cases hr:zu9 r k with
   | none=>simp[zx7,hp,zli hr]
   | some x=>simp[hr]at h
theorem keysP_put(k:K)(t:T)(c:Nat):∀ps:zlq K T,zg6 (zx7 ps k t c)=if k∈zg6 ps then zg6 ps else zg6 ps++[k]
 | []=>by simp[zx7,zg6]
 | p::r=>by
  have ih:=keysP_put k t c r
  by_cases hp:p.1=k
  ·rw[zx7,if_pos hp,zow,zow,if_pos (by simp[hp]),hp]
  ·rw[zx7,if_neg hp,zow,ih,zow]
   by_cases hm:k∈zg6 r
   ·rw[if_pos hm,if_pos (by simp[hm])]
   ·rw[if_neg hm,if_neg (by simp[hm,Ne.symm hp])];rfl
theorem zxh{ps:zlq K T}(h:(zg6 ps).Nodup)(k:K)(t:T)(c:Nat):(zg6 (zx7 ps k t c)).Nodup:=by
 rw[keysP_put];split
 ·exact h
 ·rename_i hk
  rw[List.nodup_append];exact⟨h,List.pairwise_singleton _ _,λa ha b hb e=>hk (by rw[List.mem_singleton.1 hb]at e;rw[<-e];exact ha)⟩
theorem getP_mem{k:K}{t:T}:∀{ps:zlq K T},zls ps k=some t->∃n,(k,t,n)∈ps
 | [],h=>by simp[zls]at h
 | p::r,h=>by
  simp only[zls]at h
  by_cases hp:p.1=k
  ·rw[if_pos hp]at h
   cases h
   exact⟨p.2.2,by rw[<-hp];simp⟩
  ·rw[if_neg hp]at h
   obtain⟨n,hn⟩:=getP_mem h
   exact⟨n,by simp[hn]⟩
theorem mem_getP{ps:zlq K T}(hn:(zg6 ps).Nodup){p:K×T×Nat}(hp:p∈ps):zls ps p.1=some p.2.1:=by
 induction ps with
 | nil=>cases hp
 | cons q r ih=>
  simp only[zg6,List.map_cons,List.nodup_cons]at hn;simp only[zls];rcases List.mem_cons.1 hp with rfl|hp
  ·rw[if_pos rfl]
  ·rw[if_neg,ih hn.2 hp]
   intro e;exact hn.1 (by rw[e];exact List.mem_map_of_mem hp)
end
structure KeyE(kd:KD){K:Type}[DecidableEq K](κ:K->za):Prop where
 same:∀a b,V.sameK kd (κ a) (κ b)=some (decide (a=b))
theorem keyS:KeyE .s (λs:List UInt8=> .str s):=⟨λa b=>by
 simp only[V.sameK];congr 1;rw[Bool.eq_iff_iff,beq_iff_eq,decide_eq_true_eq]⟩
def zpv{K T:Type}(κ:K->za)(v:T->za)(ps:zlq K T):List (za×za×Nat):=ps.map λp=>(κ p.1,v p.2.1,p.2.2)
section
variable{kd:KD}{K T:Type}[DecidableEq K]{κ:K->za}{v:T->za}
theorem zxv(hκ:KeyE kd κ)(k:K):∀(ps:zlq K T)(i:Nat),V.findK kd (κ k) (zpv κ v ps) i=some ((zu9 ps k).map fun(j,q)=>(i+j,v q.1,q.2))
 | [],i=>rfl
 | p::r,i=>by
  simp only[zpv,List.map_cons,V.findK,hκ.same,zu9]
  by_cases hp:k=p.1
  ·rw[if_pos hp.symm];simp[hp]
  ·rw[if_neg (Ne.symm hp)]
   have ih:=zxv hκ k r (i+1)
   simp only[zpv]at ih
   simp only[hp,decide_false,ih]
   cases zu9 r k with
   | none=>rfl
   | some x=>obtain⟨j,q⟩:=x;simp only[Option.map_some];congr 3;omega
theorem fset_enc(hκ:KeyE kd κ)(k:K)(t:T)(ps:zlq K T)(c:Nat):A.fset (some kd) (κ k) (v t) (zpv κ v ps) c=some (zpv κ v (zx7 ps k t c),clkP ps k c,.undef):=by
 simp only[A.fset,zxv hκ,clkP,zq7];cases h:zu9 ps k with
 | none=>simp[zli h,zpv]
 | some x=>
  obtain⟨j,q⟩:=x;have:=zwj (t:=t) (c:=c) h;simp only[Option.map_some,Option.isSome_some,if_true,Nat.zero_add,this.1,zpv,List.map_set]
end
def zia(es:List (za×za×Nat))(c:Nat):Blk:=zj5 (.map es c)
theorem zcx.newBlk{h0 h:zb}{l:List Ob}(ho:zcx h0 h l){id:Nat}(hid:h id=none){b:Blk}(hb:b.own=true):zcx h0 (upd h id b) (l++[.blk id b]):=
 ho.join ⟨zld _ hid,λo hm=>by rw[List.mem_singleton.1 hm];exact zcg ..,λo hm j hj=>by rw[List.mem_singleton.1 hm]at hj;cases hj;exact⟨hid,λb hb'=>by rw[zcg]at hb';cases hb';exact hb⟩,List.pairwise_singleton _ _⟩
theorem zcx.zsg{h0 h:zb}{l:List Ob}{K T:Type}(ho:zcx h0 h l)(κ:K->za)(v:T->za){Q:zQ}(hq:∀id h',h id=none->zcx h0 h' (l++[.blk id (zia (zpv κ v []) 0)])->h.le h'->Q (.mp id) h'):B.zsg h Q:=λid hid=>hq id _ hid (ho.newBlk hid rfl) (zld _ hid)
section
variable{h0 h:zb}{l:List Ob}{kd:KD}{K T:Type}[DecidableEq K]{κ:K->za}{v:T->za}
theorem zcx.setBlk(ho:zcx h0 h l)(k:Nat){id:Nat}{b b':Blk}(hk:l[k]?=some (.blk id b))(hb:b'.own=true):zcx h0 (upd h id b') (l.set k (.blk id b')):=
 ho.zpz k hk (zcg ..) (λj c hj hc=>by cases hj;rw[zcg]at hc;cases hc;exact hb) (λj c e1 e2=>by rw[zba];exact e1;intro e;subst e;exact e2 rfl) (.inl rfl)
theorem ztv{id:Nat}{es:List (za×za×Nat)}{c:Nat}(hb:h id=some (zia es c)):A.zr9 h (.mp id)=some (es,c):=by simp[A.zr9,hb,zia,zj5]
theorem objT_blk{id:Nat}{es es':List (za×za×Nat)}{c c':Nat}{u:za}{f:List (za×za×Nat)->Nat->Option (List (za×za×Nat)×Nat×za)}{Q:zQ}(hb:h id=some (zia es c))(hf:f es c=some (es',c',u))
  (hq:Q u (upd h id (zia es' c'))):A.zv3 h (.mp id) f Q:=by
 unfold zia zj5 at *;simp only[A.zv3,hb,hf];exact hq
theorem lkp_blk{id:Nat}{c:Nat}{ps:zlq K T}(hκ:KeyE kd κ)(hb:h id=some (zia (zpv κ v ps) c))(z:T)(k:K)(ok:Bool):
  A.lkp h (some kd) (some (v z)) ok (.mp id) (κ k)=some (bif ok then .tup [v ((zls ps k).getD z),.bool (zls ps k).isSome] else v ((zls ps k).getD z)):=by
 simp only[A.lkp,A.entries,ztv hb,zxv hκ,zq7];cases zu9 ps k with
 | none=>rfl
 | some x=>rfl
theorem zcx.lkp(ho:zcx h0 h l)(i:Nat){id c:Nat}{ps:zlq K T}(hi:l[i]?=some (.blk id (zia (zpv κ v ps) c)))(hκ:KeyE kd κ)(z:T)(k:K):A.lkp h (some kd) (some (v z)) false (.mp id) (κ k)=some (v ((zls ps k).getD z)):=lkp_blk hκ (ho.at i hi) z k false
theorem zcx.mset(ho:zcx h0 h l)(i:Nat){id c:Nat}{ps:zlq K T}(hi:l[i]?=some (.blk id (zia (zpv κ v ps) c)))(hκ:KeyE kd κ)(k:K)(t:T){Q:zb->Prop}
  (hq:∀h',zcx h0 h' (l.set i (.blk id (zia (zpv κ v (zx7 ps k t c)) (clkP ps k c))))->But (.mp id) h h'->(∀j,j≠id->h' j=h j)->Q h'):B.mset h kd (.mp id) (κ k) (v t) Q:=
 objT_blk (ho.at i hi) (fset_enc hκ k t ps c) (hq _ (ho.setBlk i hi rfl) (λj b e1 e2=>by rw[zba];exact e1;intro e;subst e;exact e2 rfl) λj hj=>zba _ _ hj)
end
def zm2{K T:Type}(ps:zlq K T)(c:Nat):Prop:=(∀p∈ps,p.2.2<c) /\ (ps.map (·.2.2)).Nodup
section
variable{K T:Type}{ps D:zlq K T}{c:Nat}
theorem zm2.nil(c:Nat):zm2 ([]:zlq K T) c:=⟨λ_ h=>(by cases h),List.Pairwise.nil⟩
theorem zm2.put[DecidableEq K](hb:zm2 ps c)(k:K)(t:T):zm2 (zx7 ps k t c) (clkP ps k c):=by
 unfold clkP;rw[zq7];cases h:zu9 ps k with
 | none=>
  rw[zli h];simp only[Option.map_none,Option.isSome_none,Bool.false_eq_true,if_false];refine⟨λp hp=>?_,?_⟩
  ·rcases List.mem_append.1 hp with hp|hp
   ·have:=hb.1 p hp;omega
   ·rw[List.mem_singleton.1 hp];exact Nat.lt_succ_self _
  ·rw[List.map_append,List.nodup_append]
   refine⟨hb.2,List.pairwise_singleton _ _,λa ha b hb2=>?_⟩;obtain⟨p,hp,rfl⟩:=List.mem_map.1 ha;rw[List.map_singleton,List.mem_singleton]at hb2;have:=hb.1 p hp;subst hb2;exact Nat.ne_of_lt this
 | some x=>
  obtain⟨j,q⟩:=x;have he:=zwj (t:=t) (c:=c) h;simp only[Option.map_some,Option.isSome_some,if_true,he.1];have hq:(ps.map (·.2.2))[j]?=some q.2:=by
   have:∀(ps:zlq K T)(j:Nat)(q:T×Nat),zu9 ps k=some (j,q)->(ps.map (·.2.2))[j]?=some q.2:=by
    intro ps
    induction ps with
    | nil=>intro j q h;cases h
    | cons p r ih=>
     intro j q h;simp only[zu9]at h;split at h
     ·cases h;rfl
     ·cases e:zu9 r k with
      | none=>rw[e]at h;cases h
      | some y=>
       obtain⟨j',q'⟩:=y;rw[e]at h;simp only[Option.map_some,Option.some.injEq,Prod.mk.injEq]at h;obtain⟨rfl,rfl⟩:=h;simpa using ih _ _ e
   exact this _ _ _ h
  have hm:(ps.set j (k,t,q.2)).map (·.2.2)=ps.map (·.2.2):=by
   rw[List.map_set];apply List.ext_getElem?;intro i;rw[List.getElem?_set];split
   ·rename_i e;subst e
    split
    ·exact hq.symm
    ·rename_i e2;simp at e2;omega
   ·rfl
  refine⟨λp hp=>?_,by rw[hm];exact hb.2⟩;have:p.2.2∈(ps.set j (k,t,q.2)).map (·.2.2):=List.mem_map.2 ⟨p,hp,rfl⟩;rw[hm]at this;obtain⟨p',hp',e⟩:=List.mem_map.1 this;rw[<-e];exact hb.1 p' hp'
theorem zm2.inj(hb:zm2 ps c){p q:K×T×Nat}(hp:p∈ps)(hq:q∈ps)(e:p.2.2=q.2.2):p=q:=by
 obtain⟨i,hi,rfl⟩:=List.mem_iff_getElem.1 hp;obtain⟨j,hj,rfl⟩:=List.mem_iff_getElem.1 hq;have:i=j:=by
  refine(List.getElem_inj (h₀:=by simpa using hi) (h₁:=by simpa using hj) hb.2).1 ?_;simpa using e
 subst this;rfl
theorem zm2.all(hb:zm2 ps c)(h1:∀p∈D,p∈ps)(h2:(D.map (·.2.2)).Nodup)(h3:∀p∈ps,p.2.2∈D.map (·.2.2)):D.Perm ps:=by
 have nd:∀{l:zlq K T},(l.map (·.2.2)).Nodup->l.Nodup:=λh=>List.Pairwise.of_map (S:=(· ≠ ·)) (λp:K×T×Nat=>p.2.2) (λa b h e=>h (by rw[e])) h;refine(List.perm_ext_iff_of_nodup (nd h2) (nd hb.2)).2 λp=>⟨h1 p,λhp=>?_⟩;obtain⟨q,hq,e⟩:=List.mem_map.1 (h3 p hp)
 rwa [hb.inj (h1 q hq) hp e]at hq
end
def zje(m since:Nat)(seen:List Nat)(last:Nat):Blk:=zj5 (.mapIter (some m) since seen last)
section
variable{h0 h:zb}{l:List Ob}{K T:Type}{κ:K->za}{v:T->za}{ps:zlq K T}{m c:Nat}{Q:zQ}
theorem zcx.nextMapB(ho:zcx h0 h l)(j:Nat){it since last:Nat}{seen:List Nat}(hbm:h m=some (zia (zpv κ v ps) c))(hj:l[j]?=some (.blk it (zje m since seen last)))(hb:zm2 ps c)(hs:c <= since)(hsl:since <= last)
  (hdone:(∀p∈ps,p.2.2∈seen)->Q (.tup [.bool false]) h)
  (hstep:∀p∈ps,p.2.2∉seen->∀h',zcx h0 h' (l.set j (.blk it (zje m since (seen++[p.2.2]) c)))->(∀k,k≠it->h' k=h k)->A.zj6 h' (.ptr it 0 0)=some (.tup [κ p.1,v p.2.1])->Q (.tup [.bool true,κ p.1,v p.2.1]) h'):
  B.zhw h (.ptr it 0 0) Q:=by
 have hbi:h it=some (zje m since seen last):=ho.at j hj;have hne:m≠it:=λe=>by
  subst e;rw[hbm]at hbi;have:=Option.some.inj hbi;unfold zia zje zj5 at this;cases this
 show A.zhw h (.ptr it 0 0) Q;have hall:((zpv κ v ps).all λe=>Nat.blt e.2.2 since)=true:=by
  rw[List.all_eq_true];intro e he;obtain⟨p,hp,rfl⟩:=List.mem_map.1 he;have:=hb.1 p hp;rw[Nat.blt_eq];show p.2.2<since;omega
 have hle:Nat.ble since last=true:=by rw[Nat.ble_eq];exact hsl
 have hst:A.steps h (.ptr it 0 0)=some (it,match (zpv κ v ps).filter (λe=> !seen.contains e.2.2) with
   | []=>[(zje m since seen last,.tup [.bool false])]
   | l=>l.map λe=>({ zje m since seen last with obj:=some (.mapIter (some m) since (seen++[e.2.2]) c) },.tup [.bool true,e.1,e.2.1])):=by
  simp only[A.steps,hbi];unfold zje zj5;simp only[ztv hbm,hall,hle,Bool.and_self,cond_true];rfl
 simp only[A.zhw,hst];intro p hp
 have hf:∀e,e∈(zpv κ v ps).filter (λe=> !seen.contains e.2.2)↔∃q∈ps,q.2.2∉seen /\ e=(κ q.1,v q.2.1,q.2.2):=λe=>by
  rw[List.mem_filter];constructor
  ·rintro⟨he,hc⟩
   obtain⟨q,hq,rfl⟩:=List.mem_map.1 he;refine⟨q,hq,?_,rfl⟩;simpa using hc
  ·rintro⟨q,hq,hn,rfl⟩
   exact⟨List.mem_map.2 ⟨q,hq,rfl⟩,by simpa using hn⟩
 cases hfl:(zpv κ v ps).filter (λe=> !seen.contains e.2.2) with
 | nil=>
  rw[hfl]at hp;rw[List.mem_singleton.1 hp];have:upd h it (zje m since seen last)=h:=upd_self hbi;rw[this];refine hdone λq hq=>?_;by_cases hn:q.2.2∈seen
  ·exact hn
  ·have:=(hf _).2 ⟨q,hq,hn,rfl⟩
   rw[hfl]at this;cases this
 | cons e0 es0=>
  rw[hfl]at hp;obtain⟨e,he,rfl⟩:=List.mem_map.1 hp;rw[<-hfl]at he;obtain⟨q,hq,hn,rfl⟩:=(hf _).1 he;have hblk:({ zje m since seen last with obj:=some (.mapIter (some m) since (seen++[q.2.2]) c) }:Blk)=zje m since (seen++[q.2.2]) c:=rfl;show Q _ (upd h it { zje m since seen last with obj:=some (.mapIter (some m) since (seen++[q.2.2]) c) });rw[hblk];refine hstep q hq hn _ (ho.setBlk j hj rfl) (λk hk=>zba _ _ hk) ?_;have hbm':upd h it (zje m since (seen++[q.2.2]) c) m=some (zia (zpv κ v ps) c):=by rw[zba _ _ hne];exact hbm
  have hfind:(zpv κ v ps).find? (λe=>Nat.beq e.2.2 q.2.2)=some (κ q.1,v q.2.1,q.2.2):=by
   have key:∀(ps:zlq K T),(ps.map (·.2.2)).Nodup->q∈ps->(zpv κ v ps).find? (λe=>Nat.beq e.2.2 q.2.2)=some (κ q.1,v q.2.1,q.2.2):=by
    intro ps
    induction ps with
    | nil=>intro _ h;cases h
    | cons a r ih=>
     intro hnd hm;simp only[List.map_cons,List.nodup_cons]at hnd;simp only[zpv,List.map_cons,List.find?_cons];rcases List.mem_cons.1 hm with rfl|hm
     ·simp[Nat.beq_refl]
     ·have hne:a.2.2≠q.2.2:=λe=>hnd.1 (by rw[e];exact List.mem_map.2 ⟨q,hm,rfl⟩)
      have:Nat.beq a.2.2 q.2.2=false:=by
       cases e:Nat.beq a.2.2 q.2.2 with
       | false=>rfl
       | true=>exact absurd (Nat.eq_of_beq_eq_true e) hne
      rw[this];exact ih hnd.2 hm
   exact key ps hb.2 hq
  simp only[A.zj6,upd_get];unfold zje zj5;have hbm'':=hbm';unfold zje zj5 at hbm'';simp only[ztv hbm'',List.getLast?_append,List.getLast?_singleton,Option.some_or,Nat.beq_refl,cond_true,hfind]
end
structure zom{T:Type}(less:T->T->Bool):Prop where
 asym:∀{a b},less a b=true->less b a=false
 zsf:∀{a b c},less a b=false->less b c=false->less a c=false
section
variable{T:Type}{less:T->T->Bool}
theorem zom.irr(W:zom less)(a:T):less a a=false:=by
 cases h:less a a with
 | false=>rfl
 | true=>have:=W.asym h;rw[h]at this;cases this
theorem zom.trans(W:zom less){a b c:T}(h1:less a b=true)(h2:less b c=true):less a c=true:=by
 cases h:less a c with
 | true=>rfl
 | false=>have:=W.zsf h (W.asym h2);rw[h1]at this;cases this
def lt'(less:T->T->Bool)(x y:T×Nat):Prop:=less x.1 y.1=true \/ (less y.1 x.1=false /\ x.2<y.2)
theorem lt'_trans(W:zom less){x y z:T×Nat}(h1:lt' less x y)(h2:lt' less y z):lt' less x z:=by
 unfold lt' at *;rcases h1 with h1|⟨h1,n1⟩<;>rcases h2 with h2|⟨h2,n2⟩
 ·exact .inl (W.trans h1 h2)
 ·left
  cases h:less x.1 z.1 with
  | true=>rfl
  | false=>have:=W.zsf h h2;rw[h1]at this;cases this
 ·left
  cases h:less x.1 z.1 with
  | true=>rfl
  | false=>have:=W.zsf h1 h;rw[h2]at this;cases this
 ·exact .inr ⟨W.zsf h2 h1,by omega⟩
theorem lt'_gt{x y:T×Nat}(hn:y.2<x.2):lt' less x y↔less x.1 y.1=true:=⟨λh=>h.elim id λ⟨_,h⟩=>by omega,.inl⟩
theorem lt'_le(W:zom less){x y:T×Nat}(hn:x.2<y.2):lt' less x y↔less y.1 x.1=false:=⟨λh=>h.elim (λh=>W.asym h) λ⟨h,_⟩=>h,λh=> .inr ⟨h,hn⟩⟩
end
variable{C:zh}{N:zN}
theorem zg0{a:Nat}(h:a<4611686018427387904):V.bin .add (.int .i64 (a:Int)) (.int .i64 1)=some (.int .i64 ((a+1:Nat):Int)):=by
 rw[V.zfe,wrap_i64 (by omega) (by omega)];simp
theorem zx6{a:Nat}(h:1 <= a)(ha:a<4611686018427387904):V.bin .sub (.int .i64 (a:Int)) (.int .i64 1)=some (.int .i64 ((a-1:Nat):Int)):=by
 rw[V.zjw,wrap_i64 (by omega) (by omega)];congr 2;omega
theorem zpt{a b:Nat}:V.bin .lss (.int .i64 (a:Int)) (.int .i64 (b:Int))=some (.bool (decide (a<b))):=by rw[V.zei];congr 3;exact propext (by omega)
theorem leqN{a b:Nat}:V.bin .leq (.int .i64 (a:Int)) (.int .i64 (b:Int))=some (.bool (decide (a <= b))):=by rw[V.bin_leq];congr 3;exact propext (by omega)
theorem gtrN{a b:Nat}:V.bin .gtr (.int .i64 (a:Int)) (.int .i64 (b:Int))=some (.bool (decide (b<a))):=by rw[V.bin_gtr];congr 3;exact propext (by omega)
structure zdo(E:z6){X:Type}(cs:X->List za)(v:X->za):Prop where
 pos:0<E.es
 small:E.bytes <= 1000
 zlen:E.z.length=E.es
 len:∀t,(cs t).length=E.es
 new:∀t,zer [(0,E.kp,v t)] (zgc 1 E.z)=some (cs t)
 ld:∀{h:zb}{x:za}{L R:List (List za)}{i:Nat}{t:X}{K:za->Prop},SlX h E.es x L R->L[i]?=some (cs t)->K (v t)->E.ld h (elp E.es x i 0) K
 kpt:∀{h:zb}{x:za}{L R:List (List za)}{i:Nat}{t:X},SlX h E.es x L R->L[i]?=some (cs t)->Kp h (elp E.es x i 0) E.kp
 st:∀{h0 h:zb}{x:za}{L R:List (List za)}{i:Nat}{c:List za}{t:X}{K:zb->Prop},zcx h0 h [.sl E.es x L R]->L[i]?=some c ->
  (∀h',zcx h0 h' [.sl E.es x (L.set i (cs t)) R]->K h')->E.st h (elp E.es x i 0) (v t) K
theorem zdo.comp{E:z6}{X Y:Type}{cs:X->List za}{v:X->za}(S:zdo E cs v)(f:Y->X):zdo E (λy=>cs (f y)) (λy=>v (f y)):=⟨S.pos,S.small,S.zlen,λt=>S.len _,λt=>S.new _,λh1 h2 h3=>S.ld h1 h2 h3,λh1 h2=>S.kpt h1 h2,λh1 h2 h3=>S.st h1 h2 h3⟩
theorem seqF{X:Type}{es bytes f:Nat}{z:List za}{sh:List Ck}{cs:X->List za}(hp:0<es)(hb:bytes <= 1000)(hz:z.length=es)(hl:∀t,(cs t).length=es):zdo (zth es bytes z f sh) cs (λt=> .agg (cs t)) where
 pos:=hp
 small:=hb
 zlen:=hz
 len:=hl
 new t:=by
  have hrep:zgc 1 z=z:=by unfold zgc;split<;>simp
  have h1:=hl t;show zer [(0,some es,za.agg (cs t))] (zgc 1 z)=_;rw[hrep];simp[h1,hz]
 ld hs hc hk:=by
  simp only[zth,B.zno]at hs ⊢;rw[hs.elem hc];exact hk
 kpt hs hc:=⟨_,hs.elem hc⟩
 st ho hc hk:=ho.stElem 0 rfl hc (hl _) λh' h1 _=>hk h' h1
theorem seqS{X:Type}{bytes f:Nat}{z:za}{v:X->za}(hb:bytes <= 1000)(hc:∀t,(v t).zbl=true):zdo (zc3 bytes z f) (λt=>[v t]) v where
 pos:=Nat.one_pos
 small:=hb
 zlen:=rfl
 len _:=rfl
 new t:=by simp[zc3,hc,zgc]
 ld hs hcc hk:=by
  simp only[zc3,B.zhd]at hs ⊢;rw[hs.cell hcc];exact hk
 kpt hs hcc:=⟨_,hs.cell hcc⟩
 st {h0 h x L R i c t K} ho hcc hk:=by
  have hs:SlX h 1 x L R:=ho.zg1 0 rfl;have hcl:c.length=1:=hs.len c (List.mem_append_left _ (List.mem_of_getElem? hcc));obtain⟨u,rfl⟩:=List.length_eq_one_iff.1 hcl;exact ho.st 0 rfl hcc (by show 0<1;omega) (hc _) λh' h1 _=>hk h' h1
def Rw(E:z6){X:Type}(cs:X->List za)(h0 h:zb)(x:za)(G:List X)(R:List (List za)):Prop:=zcx h0 h [.sl E.es x (G.map cs) R]
section
variable{E:z6}{X:Type}{cs:X->List za}{v:X->za}{h0 h:zb}{x:za}{G:List X}{R:List (List za)}
theorem Rw.idx(ho:Rw E cs h0 h x G R){i:Nat}(hi:i<G.length):V.zb4 E.es x (.int .i64 (i:Int))=some (elp E.es x i 0):=(zcx.zg1 ho 0 rfl).zjk (by simpa using hi)
theorem Rw.lenE(ho:Rw E cs h0 h x G R):V.zbg x=some (.int .i64 G.length):=by have:=(zcx.zg1 ho 0 rfl).zbg;simpa using this
theorem Rw.le(ho:Rw E cs h0 h x G R):h0.le h:=zcx.le ho
theorem Rw.ld(ho:Rw E cs h0 h x G R)(S:zdo E cs v){i:Nat}{t:X}(hg:G[i]?=some t){K:za->Prop}(hk:K (v t)):E.ld h (elp E.es x i 0) K:=
 S.ld (zcx.zg1 ho 0 rfl) (by rw[List.getElem?_map,hg];rfl) hk
theorem Rw.st(ho:Rw E cs h0 h x G R)(S:zdo E cs v){i:Nat}{t:X}(hi:i<G.length){K:zb->Prop}(hk:∀h',Rw E cs h0 h' x (G.set i t) R->K h'):E.st h (elp E.es x i 0) (v t) K:=
 S.st ho (c:=cs G[i]) (by rw[List.getElem?_map,List.getElem?_eq_getElem hi];rfl) λh' h1=>hk h' (by unfold Rw;rwa [List.map_set])
theorem set_mid{P Q:List X}{a b:X}{i:Nat}(hi:i=P.length):(P++a::Q).set i b=P++b::Q:=by subst hi;simp
theorem get_mid{P Q:List X}{a:X}{i:Nat}(hi:i=P.length):(P++a::Q)[i]?=some a:=by subst hi;simp
theorem set_mid2{P Q T:List X}{a b c:X}{j:Nat}(hj:j=P.length+1+Q.length):(P++a::(Q++b::T)).set j c=P++a::(Q++c::T):=by
 have:=set_mid (P:=P++a::Q) (Q:=T) (a:=b) (b:=c) (i:=j) (by simp;omega);simpa using this
theorem get_mid2{P Q T:List X}{a b:X}{j:Nat}(hj:j=P.length+1+Q.length):(P++a::(Q++b::T))[j]?=some b:=by
 have:=get_mid (P:=P++a::Q) (Q:=T) (a:=b) (i:=j) (by simp;omega);simpa using this
theorem Rw.swapDn{P Q T:List X}{a b:X}{i j:Nat}(ho:Rw E cs h0 h x (P++a::(Q++b::T)) R)(S:zdo E cs v)(hi:i=P.length)(hj:j=P.length+1+Q.length){K:zb->Prop}
  (hk:∀h',Rw E cs h0 h' x (P++b::(Q++a::T)) R->K h'):E.st h (elp E.es x j 0) (v a) λh=>E.st h (elp E.es x i 0) (v b) K:=by
 refine ho.st S (by simp;omega) λh1 o1=>?_;rw[set_mid2 hj]at o1;refine o1.st S (by simp;omega) λh2 o2=>hk h2 ?_
 rwa [set_mid hi]at o2
end
structure zej(C:zh){X:Type}(v:X->za)(c:X->X->Int)(f:za)(h0:zb):Prop where
 call:∀(h:zb)(a b:X)(K:zQ),h0.le h->K (.int .i64 (c a b)) h->B.ziu h C f [v a,v b] K
section
variable{E:z6}{T:Type}{cs:T->List za}{v:T->za}{c:T->T->Int}{h0 h:zb}{x f:za}{R:List (List za)}{Q:zQ}
def zgb(c:T->T->Int)(a b:T):Bool:=decide (c a b<0)
theorem zxi{X:Type}(L:List X):L=[] \/ ∃L0 y,L=L0++[y]:=by
 rcases List.eq_nil_or_concat L with h|⟨A,b,h⟩
 ·exact .inl h
 ·exact .inr ⟨A,b,by rw[h,List.concat_eq_append]⟩
theorem zlg(S:zdo E cs v)(W:zom (zgb c)){P M U:List (T×Nat)}(hlen:(P++(M++U)).length <= 100000000)(ht:M.Pairwise λa b=>a.2<b.2)
  (hc:zej C v c f h0) {a b:Nat} (ha:a=P.length) (hb:b=P.length+M.length) (ho:Rw E (λp:T×Nat=>cs p.1) h0 h x (P++(M++U)) R)
  (hq:∀h' M',M'.Perm M->M'.Pairwise (lt' (zgb c))->Rw E (λp:T×Nat=>cs p.1) h0 h' x (P++(M'++U)) R->Q (.tup []) h'):
  zbo.cps C E x (.int .i64 (a:Int)) (.int .i64 (b:Int)) f h Q:=by
 have S':=S.comp (λp:T×Nat=>p.1);subst ha;have hlen':P.length+M.length+U.length <= 100000000:=by simpa[Nat.add_assoc]using hlen
 simp -dsimp only[zbo.cps,zg0 (show P.length<4611686018427387904 by omega),B.ze];cases M with
 | nil=>
  intro Y hY;refine hY _ _ ?_;simp -dsimp only[zbo.l3,zpt,B.ze];rw[show decide (P.length+1<b)=false by simp at hb ⊢;omega,B.cond_false];exact hq h [] (List.Perm.refl _) .nil ho
 | cons m M1=>
 simp only[List.length_cons]at hlen' hb;rw[List.pairwise_cons]at ht;refine zd.intro (λt vs hh=>∃(i:Nat)(L M2:List (T×Nat)),t=M2.length /\ vs=[.int .i64 i] /\ i=P.length+L.length /\ i+M2.length=b /\ Rw E (λp:T×Nat=>cs p.1) h0 hh x (P++(L++(M2++U))) R /\
  (L++M2).Perm (m::M1) /\ L.Pairwise (lt' (zgb c)) /\ M2.Pairwise (λa b=>a.2<b.2) /\ ∀p∈L,∀q∈M2,p.2<q.2) M1.length ?_
  ⟨P.length+1,[m],M1,rfl,rfl,by simp,by omega,by simpa using ho,List.Perm.refl _,List.pairwise_singleton ..,ht.2,by simpa using ht.1⟩
 rintro Y t vs hh ⟨i,L,M2,rfl,rfl,hi,hib,o,hp,hs,ht2,htt⟩ hY;simp -dsimp only[zbo.l3,zpt,B.ze];cases M2 with
 | nil=>
  rw[show decide (i<b)=false by simp at hib ⊢;omega,B.cond_false];rw[List.append_nil]at hp;exact hq hh L hp hs o
 | cons x0 M2=>
  simp only[List.length_cons]at hib;rw[show decide (i<b)=true by simp;omega,B.cond_true];rw[List.pairwise_cons]at ht2;have hll:P.length+(L.length+(M2.length+1))=b:=by omega
  refine zd.intro (λt vs h2=>∃(L1 L2:List (T×Nat)),t=L1.length /\ vs=[.int .i64 ((P.length+L1.length:Nat):Int)] /\ L=L1++L2 /\ Rw E (λp:T×Nat=>cs p.1) h0 h2 x (P++(L1++x0::(L2++(M2++U)))) R /\
   ∀q∈L2,lt' (zgb c) x0 q) L.length ?_ ⟨L,[],rfl,by rw[hi],by simp,by simpa using o,by simp⟩
  rintro Z t vs h2 ⟨L1,L2,rfl,rfl,rfl,o2,hx⟩ hZ;rw[List.pairwise_append]at hs;have fin:(L1=[] \/ ∃L0 y,L1=L0++[y] /\ lt' (zgb c) y x0)->Y [.int .i64 ((i+1:Nat):Int)] h2:=λhz=>by
   have hlow:∀p∈L1,lt' (zgb c) p x0:=by
    rcases hz with rfl|⟨L0,y,rfl,hy⟩
    ·simp
    ·intro p hpm
     rcases List.mem_append.1 hpm with h1|h1
     ·exact lt'_trans W ((List.pairwise_append.1 hs.1).2.2 p h1 y (by simp)) hy
     ·rw[List.mem_singleton.1 h1];exact hy
   refine hY M2.length _ _ (by simp) ⟨i+1,L1++x0::L2,M2,rfl,rfl,by simp at hi ⊢;omega,by omega,by simpa using o2,?_,?_,ht2.2,?_⟩
   ·refine List.Perm.trans ?_ hp
    simp only[List.append_assoc,List.cons_append];refine List.Perm.append_left _ ?_;exact(List.perm_middle (l₁:=L2) (l₂:=M2) (a:=x0)).symm
   ·rw[List.pairwise_append,List.pairwise_cons]
    refine⟨hs.1,⟨hx,hs.2.1⟩,λp h1 q h2=>?_⟩;rcases List.mem_cons.1 h2 with rfl|h2
    ·exact hlow p h1
    ·exact hs.2.2 p h1 q h2
   ·intro p h1 q h2
    rcases List.mem_append.1 h1 with h1|h1
    ·exact htt p (List.mem_append_left _ h1) q (List.mem_cons_of_mem _ h2)
    ·rcases List.mem_cons.1 h1 with rfl|h1
     ·exact ht2.1 q h2
     ·exact htt p (List.mem_append_right _ h1) q (List.mem_cons_of_mem _ h2)
  have hll2:i=P.length+(L1.length+L2.length):=by simpa using hi
  simp -dsimp only[zbo.l2,zbo.k1,gtrN,B.ze];obtain rfl|⟨L0,y,rfl⟩:=zxi L1
  ·simp -dsimp[zg0 (show i<4611686018427387904 by omega)]
   exact fin (.inl rfl)
  ·have hyx:y.2<x0.2:=htt y (by simp) x0 (by simp)
   have o2':=o2;simp only[List.append_assoc,List.cons_append,List.nil_append]at o2';simp only[List.length_append,List.length_singleton]at hll2 hlen' hll;have hj:P.length+(L0++[y]).length=P.length+L0.length+1:=by simp[Nat.add_assoc]
   rw[show decide (P.length<P.length+(L0++[y]).length)=true by simp];rw[hj];simp -dsimp only[B.zi3,B.zra,B.zdr,zlj,zx6 (show 1 <= P.length+L0.length+1 by omega) (by omega),Nat.add_sub_cancel,o2.idx (i:=P.length+L0.length+1) (by simp;omega),o2.idx (i:=P.length+L0.length) (by simp),B.ze];have o3:Rw E (λp:T×Nat=>cs p.1) h0 h2 x ((P++L0)++y::([]++x0::(L2++(M2++U)))) R:=by simpa using o2
   have gy:((P++L0)++y::([]++x0::(L2++(M2++U))))[P.length+L0.length]?=some y:=get_mid (by simp);have gx:((P++L0)++y::([]++x0::(L2++(M2++U))))[P.length+L0.length+1]?=some x0:=get_mid2 (by simp);refine o3.ld S' gx ?_;refine o3.ld S' gy ?_;refine hc.call _ _ _ _ o2.le ?_;simp -dsimp only[B.zi3,B.zra,B.zdr,zlj,V.zei,B.ze,B.zht];refine B.zl (λhb2=>?_) (λhb2=>?_)
   ·simp -dsimp only[zx6 (show 1 <= P.length+L0.length+1 by omega) (by omega),Nat.add_sub_cancel,o2.idx (i:=P.length+L0.length+1) (by simp;omega),o2.idx (i:=P.length+L0.length) (by simp),B.ze]
    refine o3.ld S' gy ?_;refine o3.ld S' gx ?_;refine o3.swapDn S' (by simp) (by simp) λh4 o4=>?_;refine hZ L0.length _ _ (by simp) ⟨L0,y::L2,rfl,rfl,by simp,by simpa using o4,?_⟩;intro q hq2;rcases List.mem_cons.1 hq2 with rfl|hq2
    ·exact(lt'_gt hyx).2 hb2
    ·exact hx q hq2
   ·simp -dsimp only[zg0 (show i<4611686018427387904 by omega),B.ze]
    exact fin (.inr ⟨L0,y,rfl,(lt'_le W hyx).2 hb2⟩)
end
variable{C:zh}{N:zN}
section
variable{E:z6}{X:Type}{cs:X->List za}{v:X->za}{h0 h:zb}{x f:za}{R:List (List za)}{Q:zQ}
end
variable{C:zh}{N:zN}
section
variable{E:z6}{T:Type}{cs:T->List za}{v:T->za}{c:T->T->Int}{h0 h:zb}{x f:za}{R:List (List za)}{Q:zQ}
end
variable{C:zh}{N:zN}
section
variable{E:z6}{T:Type}{cs:T->List za}{v:T->za}{c:T->T->Int}{h0 h:zb}{x f:za}{R:List (List za)}{Q:zQ}
end
variable{C:zh}{N:zN}
section
variable{E:z6}{T:Type}{cs:T->List za}{v:T->za}{c:T->T->Int}{h0 h:zb}{x f:za}{R:List (List za)}{Q:zQ}
end
variable{C:zh}{N:zN}
section
variable{E:z6}{T:Type}{cs:T->List za}{v:T->za}{c:T->T->Int}{h0 h:zb}{x f:za}{R:List (List za)}{Q:zQ}
end
variable{C:zh}{N:zN}
section
variable{E:z6}{T:Type}{cs:T->List za}{v:T->za}{c:T->T->Int}{h0 h:zb}{x f:za}{R:List (List za)}{Q:zQ}
end
variable{C:zh}{N:zN}
section
variable{E:z6}{T:Type}{cs:T->List za}{v:T->za}{c:T->T->Int}{h0 h:zb}{x f:za}{R:List (List za)}{Q:zQ}
end
section
variable{T:Type}{c:T->T->Int}
end
variable{C:zh}{N:zN}
section
variable{E:z6}{T:Type}{cs:T->List za}{v:T->za}
def AskSpec(C:zh)(v:T->za)(f:za)(p:T->Bool)(h:zb):Prop:=∀(t:T)(h':zb)(K:zQ),h.le h'->K (.bool (p t)) h'->B.ziu h' C f [v t] K
def idxI(p:T->Bool)(L:List T):Int:=match L.findIdx? p with|some i=>(i:Int)|none=> -1
theorem findIdx_first{α:Type}{p:α->Bool}{L:List α}{k:Nat}(hk:k<L.length)(h:∀i,i<k->∀a,L[i]?=some a->p a=false)(hp:p L[k]=true):L.findIdx? p=some k:=by
 rw[List.findIdx?_eq_some_iff_getElem];exact⟨hk,hp,λj hj=>by simp[h j hj _ (List.getElem?_eq_getElem (by omega))]⟩
theorem zye(S:zdo E cs v){x f:za}{p:T->Bool}{L:List T}{R:List (List za)}{h:zb}{Q:zQ}(hx:SlX h E.es x (L.map cs) R)(hlen:L.length<4611686018427387904)(hf:AskSpec C v f p h)
  (hq:Q (.int .i64 (idxI p L)) h):zcn.cps C E x f h Q:=by
 have e1:=hx.zbg;rw[List.length_map]at e1;simp -dsimp only[zcn.cps,e1,B.ze];refine zd.intro (λt vs hh=>hh=h /\ ∃k:Nat,k+t=L.length /\ vs=[.int .i64 (k:Int)] /\ ∀i,i<k->∀a,L[i]?=some a->p a=false) L.length ?_ ⟨rfl,0,by omega,rfl,λi hi=>by omega⟩;rintro Y t vs h ⟨rfl,k,ht,rfl,hno⟩ hY;simp -dsimp only[zcn.l2,zcn.k1,zpt,B.ze];refine B.zl (λhb=>?_) (λhb=>?_)<;>simp only[decide_eq_true_eq,decide_eq_false_iff_not]at hb
 ·have hg:(L.map cs)[k]?=some (cs L[k]):=by rw[List.getElem?_map,List.getElem?_eq_getElem hb];rfl
  have hidx:V.zb4 E.es x (.int .i64 (k:Int))=some (elp E.es x k 0):=hx.zjk (by simpa using hb);simp -dsimp only[hidx,B.ze];refine S.ld hx hg ?_;refine hf _ _ _ (zb.le_refl _) ?_;refine B.zl (λhc=>?_) (λhc=>?_)
  ·have:idxI p L=(k:Int):=by rw[idxI,findIdx_first hb hno hc]
   rw[this]at hq;exact hq
  ·simp -dsimp only[zg0 (show k<4611686018427387904 by omega),B.ze]
   refine hY (L.length-(k+1)) _ _ (by omega) ⟨rfl,k+1,by omega,rfl,λi hi a ha=>?_⟩;by_cases e:i=k
   ·subst e;rw[List.getElem?_eq_getElem hb]at ha;cases ha;exact hc
   ·exact hno i (by omega) a ha
 ·have:idxI p L= -1:=by
   have:L.findIdx? p=none:=by
    rw[List.findIdx?_eq_none_iff];intro a ha;obtain⟨j,hj,rfl⟩:=List.getElem_of_mem ha;exact hno j (by omega) _ (List.getElem?_eq_getElem hj)
   rw[idxI,this]
  rw[this]at hq;exact hq
end
variable{C:zh}
structure zcw{X:Type}(a b:Nat)(G G':List X):Prop where
 perm:G'.Perm G
 out:∀i,i<a \/ b <= i->G'[i]?=G[i]?
theorem zcw.refl{X:Type}(a b:Nat)(G:List X):zcw a b G G:=⟨.refl _,λ_ _=>rfl⟩
theorem zcw.trans{X:Type}{a b:Nat}{G G' G'':List X}(x:zcw a b G G')(y:zcw a b G' G''):zcw a b G G'':=⟨y.perm.trans x.perm,λi hi=>(y.out i hi).trans (x.out i hi)⟩
theorem zcw.mono{X:Type}{a b a' b':Nat}{G G':List X}(x:zcw a b G G')(ha:a' <= a)(hb:b <= b'):zcw a' b' G G':=⟨x.perm,λi hi=>x.out i (by omega)⟩
theorem zcw.len{X:Type}{a b:Nat}{G G':List X}(x:zcw a b G G'):G'.length=G.length:=x.perm.length_eq
theorem zcw.same{X:Type}{a b:Nat}{G G':List X}(w:zcw a b G G'){k:Nat}(hk:k<a \/ b <= k)(h1:k<G'.length)(h2:k<G.length):G'[k]=G[k]:=by
 have:=w.out k hk;rw[List.getElem?_eq_getElem h1,List.getElem?_eq_getElem h2]at this;exact Option.some.inj this
def swp{X:Type}(G:List X)(i j:Nat)(hi:i<G.length)(hj:j<G.length):List X:=(G.set i G[j]).set j G[i]
theorem swp_perm{X:Type}{G:List X}{i j:Nat}(hi:i<G.length)(hj:j<G.length):(swp G i j hi hj).Perm G:=by
 unfold swp;exact List.set_set_perm hi hj
theorem swp_get{X:Type}{G:List X}{i j:Nat}(hi:i<G.length)(hj:j<G.length)(k:Nat):(swp G i j hi hj)[k]?=if k=j then some G[i] else if k=i then some G[j] else G[k]? :=by
 unfold swp;rw[List.getElem?_set];by_cases e:j=k
 ·subst e;simp[hj]
 ·rw[if_neg e,if_neg (Ne.symm e),List.getElem?_set]
  by_cases e2:i=k
  ·subst e2;simp[hi]
  ·rw[if_neg e2,if_neg (Ne.symm e2)]
theorem zff{X:Type}{G:List X}{i j a b:Nat}(hi:i<G.length)(hj:j<G.length)(h1:a <= i)(h2:i<b)(h3:a <= j)(h4:j<b):zcw a b G (swp G i j hi hj):=⟨swp_perm hi hj,λk hk=>by
 rw[swp_get,if_neg (by omega),if_neg (by omega)]⟩
section
variable{E:z6}{X:Type}{cs:X->List za}{v:X->za}{h0 h:zb}{x f:za}{G:List X}{R:List (List za)}{c:X->X->Int}
theorem Rw.swap(ho:Rw E cs h0 h x G R)(S:zdo E cs v){i j:Nat}(hi:i<G.length)(hj:j<G.length){K:zb->Prop}(hk:∀h',Rw E cs h0 h' x (swp G i j hi hj) R->K h'):
  E.st h (elp E.es x i 0) (v G[j]) λh=>E.st h (elp E.es x j 0) (v G[i]) K:=by
 refine ho.st S (t:=G[j]) hi λh1 o1=>?_;exact o1.st S (t:=G[i]) (by simpa using hj) λh2 o2=>hk h2 o2
theorem zkq(S:zdo E cs v)(hx:SlX h0 E.es x (G.map cs) R)(hc:zej C v c f h0){p:za}{n:Int}(ho:zcx h0 h [.box p [.int .i64 n]]){i j:Nat}(hi:i<G.length)(hj:j<G.length){Q:zQ}
  (hq:∀(i' j':Nat) (n':Int) h',(i'=i \/ i'=j)->(j'=i \/ j'=j)->zcx h0 h' [.box p [.int .i64 n']]->Q (.tup [.int .i64 (i':Int),.int .i64 (j':Int)]) h'):zgn.cps C E x (.int .i64 (i:Int)) (.int .i64 (j:Int)) p f h Q:=by
 have hxx:=hx.mono ho.le;have ii:V.zb4 E.es x (.int .i64 (i:Int))=some (elp E.es x i 0):=hxx.zjk (by simpa using hi);have ij:V.zb4 E.es x (.int .i64 (j:Int))=some (elp E.es x j 0):=hxx.zjk (by simpa using hj);have gi:(G.map cs)[i]?=some (cs G[i]):=by rw[List.getElem?_map,List.getElem?_eq_getElem hi];rfl
 have gj:(G.map cs)[j]?=some (cs G[j]):=by rw[List.getElem?_map,List.getElem?_eq_getElem hj];rfl
 obtain⟨id,rfl,hb⟩:=ho.zte 0 rfl;have ld:A.ldv h (.ptr id 0 0)=some (.int .i64 n):=by rw[zot hb];rfl
 simp -dsimp only[zgn.cps,zgn.k1,ij,B.ze];refine S.ld hxx gj ?_;simp -dsimp only[ii,B.ze];refine S.ld hxx gi ?_;refine hc.call _ _ _ _ ho.le ?_;simp -dsimp only[V.zei,B.ze];refine B.zl (λhd=>?_) (λhd=>?_)
 ·simp -dsimp only[B.zkw,B.zhd,ld,V.zfe,B.ze]
  refine ho.zyh 0 (off:=0) rfl rfl (by simp) λh2 o2 _=>?_;exact hq j i _ h2 (.inr rfl) (.inl rfl) (by simpa using o2)
 ·exact hq i j n h (.inl rfl) (.inr rfl) ho
abbrev O2I(C:zh)(E:z6)(f1:Nat):Prop:=∀(v0 v1 v2 v3 v4:za)(h:zb)(Q:zQ),zgn.cps C E v0 v1 v2 v3 v4 h (dn Q)->C f1 [v0,v1,v2,v3,v4] h Q
abbrev MedI(C:zh)(E:z6)(f1 f2:Nat):Prop:=∀(v0 v1 v2 v3 v4 v5:za)(h:zb)(Q:zQ),zgo.cps C E f1 v0 v1 v2 v3 v4 v5 h (dn Q)->C f2 [v0,v1,v2,v3,v4,v5] h Q
abbrev AdjI(C:zh)(E:z6)(f2 f3:Nat):Prop:=∀(v0 v1 v2 v3:za)(h:zb)(Q:zQ),ze2.cps C E f2 v0 v1 v2 v3 h (dn Q)->C f3 [v0,v1,v2,v3] h Q
theorem zkr{f1:Nat}(io:O2I C E f1)(S:zdo E cs v)(hx:SlX h0 E.es x (G.map cs) R)(hc:zej C v c f h0){p:za}{n:Int}(ho:zcx h0 h [.box p [.int .i64 n]]){i j k:Nat}(hi:i<G.length)(hj:j<G.length)(hk:k<G.length){Q:zQ}
  (hq:∀(m:Nat) (n':Int) h',(m=i \/ m=j \/ m=k)->zcx h0 h' [.box p [.int .i64 n']]->Q (.int .i64 (m:Int)) h'):zgo.cps C E f1 x (.int .i64 (i:Int)) (.int .i64 (j:Int)) (.int .i64 (k:Int)) p f h Q:=by
 simp -dsimp only[zgo.cps,zgo.k1];refine io _ _ _ _ _ _ _ (zkq S hx hc ho hi hj λa b n1 h1 ha hb o1=>z8 ?_);simp -dsimp only[V.zik,List.getElem?_cons_zero,List.getElem?_cons_succ,B.ze];have la:a<G.length:=by rcases ha with rfl|rfl<;>assumption
 have lb:b<G.length:=by rcases hb with rfl|rfl<;>assumption
 refine io _ _ _ _ _ _ _ (zkq S hx hc o1 lb hk λa2 b2 n2 h2 ha2 hb2 o2=>z8 ?_);simp -dsimp only[V.zik,List.getElem?_cons_zero,List.getElem?_cons_succ,B.ze];have la2:a2<G.length:=by rcases ha2 with rfl|rfl<;>assumption
 refine io _ _ _ _ _ _ _ (zkq S hx hc o2 la la2 λa3 b3 n3 h3 ha3 hb3 o3=>z8 ?_);simp -dsimp only[V.zik,List.getElem?_cons_zero,List.getElem?_cons_succ,B.ze];refine hq b3 n3 h3 ?_ o3;omega
theorem zgx{f1 f2:Nat}(io:O2I C E f1)(im:MedI C E f1 f2)(S:zdo E cs v)(hx:SlX h0 E.es x (G.map cs) R)(hc:zej C v c f h0){p:za}{n:Int}(ho:zcx h0 h [.box p [.int .i64 n]]){i:Nat}(hi:0<i)(hi2:i+1<G.length)(hl:G.length<4611686018427387904){Q:zQ}
  (hq:∀(m:Nat) (n':Int) h',i-1 <= m->m <= i+1->zcx h0 h' [.box p [.int .i64 n']]->Q (.int .i64 (m:Int)) h'):ze2.cps C E f2 x (.int .i64 (i:Int)) p f h Q:=by
 have e1:V.bin .sub (.int .i64 (i:Int)) (.int .i64 1)=some (.int .i64 ((i-1:Nat):Int)):=by
  rw[V.zjw,wrap_i64 (by omega) (by omega)];congr 2;omega
 simp -dsimp only[ze2.cps,ze2.k1,e1,zg0 (show i<4611686018427387904 by omega),B.ze];exact im _ _ _ _ _ _ _ _ (zkr io S hx hc ho (by omega) (by omega) hi2 λm n' h' hm o'=>z8 (hq m n' h' (by omega) (by omega) o'))
theorem zl3(S:zdo E cs v)(hl:G.length<4611686018427387904)(ho:Rw E cs h0 h x G R){a b:Nat}(hab:a<b)(hb:b <= G.length){Q:zQ}(hq:∀h' G',zcw a b G G'->Rw E cs h0 h' x G' R->Q (.tup []) h'):
  zc5.cps C E x (.int .i64 (a:Int)) (.int .i64 (b:Int)) f h Q:=by
 have e1:V.bin .sub (.int .i64 (b:Int)) (.int .i64 1)=some (.int .i64 ((b-1:Nat):Int)):=by
  rw[V.zjw,wrap_i64 (by omega) (by omega)];congr 2;omega
 simp -dsimp only[zc5.cps,e1,B.ze];refine zd.intro (λt vs hh=>∃(i j:Nat)(G':List X),t=j /\ vs=[.int .i64 (i:Int),.int .i64 (j:Int)] /\ a <= i /\ j<b /\ zcw a b G G' /\ Rw E cs h0 hh x G' R) (b-1) ?_ ⟨a,b-1,G,rfl,rfl,Nat.le_refl _,by omega,zcw.refl _ _ _,ho⟩;rintro Y j vs hh ⟨i,_,G',rfl,rfl,hi,hj,W,o⟩ hY;simp -dsimp only[zc5.l2,zc5.k1,zpt,B.ze];have hlen:=W.len;refine B.zl (λhc=>?_) (λhc=>hq hh G' W o);rw[decide_eq_true_eq]at hc;have li:i<G'.length:=by omega
 have lj:j<G'.length:=by omega
 simp -dsimp only[o.idx lj,B.ze];refine o.ld S (List.getElem?_eq_getElem lj) ?_;simp -dsimp only[o.idx li,B.ze];refine o.ld S (List.getElem?_eq_getElem li) ?_;have ij:=o.idx lj;refine o.st S (t:=G'[j]) li λh1 o1=>?_;simp -dsimp only[ij,B.ze];refine o1.st S (t:=G'[i]) (by simpa using lj) λh2 o2=>?_;have e2:V.bin .sub (.int .i64 (j:Int)) (.int .i64 1)=some (.int .i64 ((j-1:Nat):Int)):=by
  rw[V.zjw,wrap_i64 (by omega) (by omega)];congr 2;omega
 simp -dsimp only[zg0 (show i<4611686018427387904 by omega),e2,B.ze];exact hY (j-1) _ _ (by omega) ⟨i+1,j-1,_,rfl,rfl,by omega,by omega,W.trans (zff li lj hi (by omega) (by omega) hj),o2⟩
theorem quo4{a:Nat}(h:a<4611686018427387904):V.bin .quo (.int .i64 (a:Int)) (.int .i64 4)=some (.int .i64 ((a / 4:Nat):Int)):=by
 rw[V.znq _ _ _ (by omega),show (a:Int).tdiv 4=((a / 4:Nat):Int) from rfl,wrap_i64 (by omega) (by omega)]
theorem mulN{a b:Nat}(h:a*b<4611686018427387904):V.bin .mul (.int .i64 (a:Int)) (.int .i64 (b:Int))=some (.int .i64 ((a*b:Nat):Int)):=by
 rw[V.bin_mul,show (a:Int)*(b:Int)=((a*b:Nat):Int) by simp,wrap_i64 (by omega) (by omega)]
theorem zkz{a b:Nat}(h:a+b<4611686018427387904):V.bin .add (.int .i64 (a:Int)) (.int .i64 (b:Int))=some (.int .i64 ((a+b:Nat):Int)):=by
 rw[V.zfe,show (a:Int)+(b:Int)=((a+b:Nat):Int) by simp,wrap_i64 (by omega) (by omega)]
theorem zig{a b:Nat}(h:b <= a)(h2:a<4611686018427387904):V.bin .sub (.int .i64 (a:Int)) (.int .i64 (b:Int))=some (.int .i64 ((a-b:Nat):Int)):=by
 rw[V.zjw,show (a:Int)-(b:Int)=((a-b:Nat):Int) by omega,wrap_i64 (by omega) (by omega)]
theorem zy3{a b:Nat}:V.bin .geq (.int .i64 (a:Int)) (.int .i64 (b:Int))=some (.bool (decide (b <= a))):=by rw[V.zln];congr 3;exact propext (by omega)
theorem zmj{f1 f2 f3:Nat}(io:O2I C E f1)(im:MedI C E f1 f2)(ia:AdjI C E f2 f3)(S:zdo E cs v)(hx:SlX h E.es x (G.map cs) R)(h0le:h0.le h)(hc:zej C v c f h0)(hl:G.length <= 100000000){a b:Nat}(hab:a+8 <= b)(hb:b <= G.length){Q:zQ}
  (hq:∀(m:Nat) (hint:Int) h',a <= m->m<b->h.le h'->Q (.tup [.int .i64 (m:Int),.int .i64 hint]) h'):zr.cps C E f2 f3 x (.int .i64 (a:Int)) (.int .i64 (b:Int)) f h Q:=by
 have e1:=zig (a:=b) (b:=a) (by omega) (by omega);simp -dsimp only[zr.cps,e1,B.ze];intro id hid;have o:=(zcx.start h).zvp hid [.int .i64 0];simp only[List.nil_append]at o;have q4:=quo4 (a:=b-a) (by omega);have m1:=mulN (a:=(b-a) / 4) (b:=1) (by omega);have m2:=mulN (a:=(b-a) / 4) (b:=2) (by omega);have m3:=mulN (a:=(b-a) / 4) (b:=3) (by omega);have a1:=zkz (a:=a) (b:=(b-a) / 4*1) (by omega);have a2:=zkz (a:=a) (b:=(b-a) / 4*2) (by omega);have a3:=zkz (a:=a) (b:=(b-a) / 4*3) (by omega);have g8:V.bin .geq (.int .i64 ((b-a:Nat):Int)) (.int .i64 8)=some (.bool true):=by rw[V.zln,decide_eq_true (by omega)]
 have hc':zej C v c f h:=⟨λh2 s t K hle hk=>hc.call h2 s t K (zb.le_trans h0le hle) hk⟩;simp -dsimp only[zr.k6,zr.k5,zr.k4,zr.k3,q4,B.ze];have m1':V.bin .mul (.int .i64 (((b-a) / 4:Nat):Int)) (.int .i64 1)=some (.int .i64 (((b-a) / 4*1:Nat):Int)):=m1;have m2':V.bin .mul (.int .i64 (((b-a) / 4:Nat):Int)) (.int .i64 2)=some (.int .i64 (((b-a) / 4*2:Nat):Int)):=m2;have m3':V.bin .mul (.int .i64 (((b-a) / 4:Nat):Int)) (.int .i64 3)=some (.int .i64 (((b-a) / 4*3:Nat):Int)):=m3;simp -dsimp only[q4,m1',m2',m3',a1,a2,a3,g8,B.cond_true,zr.k5,zr.k4,zr.k3,zr.k2,B.ze];have fin:∀(m:Nat) (n':Int) h',a <= m->m<b->zcx h h' [.box (.ptr id 0 0) [.int .i64 n']]->zr.k1 C E f2 f3 Q (.ptr id 0 0) (.int .i64 (m:Int)) h':=λm n' h' k1 k2 o'=>by
  obtain⟨id',e,hb'⟩:=o'.zte 0 rfl;cases e;have ld:A.ldv h' (.ptr id 0 0)=some (.int .i64 n'):=by rw[zot hb'];rfl
  simp -dsimp only[zr.k1,B.zhd,ld,V.zg9,B.ze];refine B.zl (λ_=>hq m _ h' k1 k2 o'.le) (λ_=>?_);refine B.zl (λ_=>hq m _ h' k1 k2 o'.le) (λ_=>hq m _ h' k1 k2 o'.le)
 have g50:V.bin .geq (.int .i64 ((b-a:Nat):Int)) (.int .i64 50)=some (.bool (decide (50 <= b-a))):=zy3 (b:=50);simp -dsimp only[g50,B.ze];refine B.zl (λhd=>?_) (λhd=>?_)
 ·rw[decide_eq_true_eq]at hd
  refine ia _ _ _ _ _ _ (zgx io im S hx hc' o (by omega) (by omega) (by omega) λi n1 h1 i1 i2 o1=>z8 ?_);refine ia _ _ _ _ _ _ (zgx io im S hx hc' o1 (by omega) (by omega) (by omega) λj n2 h2 j1 j2 o2=>z8 ?_);refine ia _ _ _ _ _ _ (zgx io im S hx hc' o2 (by omega) (by omega) (by omega) λk n3 h3 k1 k2 o3=>z8 ?_);refine im _ _ _ _ _ _ _ _ (zkr io S hx hc' o3 (by omega) (by omega) (by omega) λm n4 h4 hm o4=>z8 ?_);exact fin m n4 h4 (by omega) (by omega) o4
 ·refine im _ _ _ _ _ _ _ _ (zkr io S hx hc' o (by omega) (by omega) (by omega) λm n4 h4 hm o4=>z8 ?_)
  exact fin m n4 h4 (by omega) (by omega) o4
end
end Go.Ab
