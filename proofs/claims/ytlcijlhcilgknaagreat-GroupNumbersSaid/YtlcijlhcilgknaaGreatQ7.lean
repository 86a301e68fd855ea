/- What is proved: a part of the way to the statement: L12z. No conditions. -/
import Derived.Test.YtlcijlhcilgknaaGreatRows
import Derived.Test.YtlcijlhcilgknaaGreatQ3
import Derived.Test.YtlcijlhcilgknaaGreatQ6
import Derived.Lib.Bytealg
import Derived.Test.YtlcijlhcilgknaaGreatQ2
set_option linter.unusedVariables false
set_option linter.unusedSimpArgs false
set_option maxRecDepth 100000
namespace Go.Ab.S12z
open List
open Go.Ab Go.Proofs
noncomputable abbrev P:Program:=Tryz.prog
def lkz:List (Nat×List Nat)->Nat->List Nat|[],_=>[]|(a,b)::r,k=>bif Nat.beq a k then b else lkz r k
def pz(e:List (Nat×List Nat)):Nat->List (Nat×List Nat)|0=>[]|n+1=>pz e n++[(n,lkz e n)]
@[reducible] def LkT(P:Program)(I:Bx)(f:Func)(F:zh->(zQ)->zcj->zb->Prop):Prop:=∀{C:zh}(hC:zo5 C)(Q:zQ)(s:zcj)(h:zb),F C Q s h->bwp P C I (f.body.getD .skip) (retB P I f.results.toList Q) s h
theorem eT{P:Program}{C:zh}{I:Bx}(hC:zo5 C){c:Code}{Q:Ex->zcj->zb->Prop}{s:zcj}{h:zb}(X:zcj->zb->Prop){p:Prop}(hR:p)(hb:∀s h,X s h->bwp P C I (cB c) Q s h)(e:bwp P C I (cA c) (Ex.then X Q) s h=p:=by kernel_rfl)(hk:isS c=true:=by kernel_rfl):bwp P C I c Q s h:=eS hC X (e1 hR e) hb hk
@[reducible] def on0(F:zG):List za->zG|[],u,v,w=>F  u v w|_,_,_,_=>False
@[reducible] def on1(F:za->zG):List za->zG|[a],u,v,w=>F a u v w|_,_,_,_=>False
@[reducible] def on2(F:za->za->zG):List za->zG|[a,b],u,v,w=>F a b u v w|_,_,_,_=>False
@[reducible] def on3(F:za->za->za->zG):List za->zG|[a,b,c],u,v,w=>F a b c u v w|_,_,_,_=>False
@[reducible] def on4(F:za->za->za->za->zG):List za->zG|[a,b,c,d],u,v,w=>F a b c d u v w|_,_,_,_=>False
@[reducible] def on5(F:za->za->za->za->za->zG):List za->zG|[a,b,c,d,e],u,v,w=>F a b c d e u v w|_,_,_,_=>False
@[reducible] def on6(F:za->za->za->za->za->za->zG):List za->zG|[a,b,c,d,e,f],u,v,w=>F a b c d e f u v w|_,_,_,_=>False
@[reducible] def on9(F:za->za->za->za->za->za->za->za->za->zG):List za->zG|[a,b,c,d,e,f,g,i,j],u,v,w=>F a b c d e f g i j u v w|_,_,_,_=>False
def N(k:Nat):Nat:=[0,0,0,0,0,0,0,0,0,0,0,0,0,0,0,0,0,0,134,0,72,0,0,0,0,0,0,0,0,0,0,0,0,0,168,0,0,0,0,0,0,0,140,0,0,0,0,0,52,0,0,0,0,0,63,0,65,0,0,0,0,0,51,0,133,0,0,0,0,0,0,0,0,0,68,167,0,106,136,0,83,84,85,86,87,88,89,90,91,92,93,94,95,96,97,98,99,100,101,102,103,104,105,0,0,0,35,135,112,34,44,107,137,138,139,141,28,142,143,144,145,146,147,148,149,150,151,152,153,154,157,0,80,18,67,69,169,170,171,0,0,0,0,0,0,0,0,0,0,0,0,0,0,0,0,0,0,0,0,0,0,0,0,0,0,0,0,0,0,0,0,0,0,0,0,0,0,0,0,0,0,0,0,0,0,0,53,0,0,64,66,0,0,0,0,0,0,0,0,0,0,0,0,0,0,0,59,158,0,0,0,0,0,0,0,0,0,0,0,0,0,0,0,0,0,0,0,0,0,0,0,0,0,0,0,0,0,0,0,0,0,0,0,0,0,0,0,0,0,0,0,0,0,0,0,0,0,0,0,0,0,0,0,0,0,0,0,0,0,0,0,0,0,0,0,0,0,0,0,0,0,0,0,0,0,0,0,76,0,0,0,0,0,0,0,0,0,0,161,160,0,0,0,0,122,123,0,0,0,0,0,0,0,0,0,0,0,0,0,71,0,0,0,0,79,0,0,0,0,0,0,0,0,0,0,0,0,0,0,0,0,0,0,0,0,0,0,0,0,0,0,0,0,0,0,0,0,0,0,0,0,0,0,0,37,42,0,108,0,0,0,0,0,109,0,75,155,119,120,121,118,117,116,115,114,113,159,162,163,132,173,8,12,14,0,0,20,0,0,33,43,45,0,0,0,50,9,13,81,15,0,0,0,0,0,0,0,0,0,0,0,0,0,0,0,0,0,0,0,0,0,0,0,0,0,0,0,0,0,0,0,0,61,0,0,110,22,25,26,0,0,0,0,30,0,0,0,0,0,0,0,0,0,0,0,0,0,0,0,0,70,0,0,111,0,156,0,0,0,0,172,175,0,0,0,0,0,0,0,0,0,0,0,0,0,0,0,0,0,0,0,0,0,0,0,0,0,0,0,0,0,0,0,0,0,0,0,0,0,0,0,0,0,0,0,0,0,0,0,0,0,0,0,0,0,0,0,0,0,0,0,0,0,0,0,0,0,0,0,0,0,0,0,11,10,6,7,0,24,23,21,0,31,16,32,40,39,38,36,62,56,58,57,60,55,54,74,73,41,77,78,130,131,129,128,127,126,125,124,166,165,164,174,17,19,3,27,29,4,5,47,48,46,49,82].getD k 0
theorem mixed:P.follows .mixedOrders=true:=by kernel_rfl
def zek.I:Bx:=⟨[],[],71,[]⟩
theorem zek.L:LkT P zek.I Tryz.f3 λC Q s h=>zek.cps C N (s 0) (s 1) h Q:=λ{C} k Q s h r=>e1 r
theorem zek.imp:zek.Imp (AC P) N:=λa b h Q r=>eF mixed (fn:=Tryz.f3) (λk=>zek.L k (dn Q) (zbz [a,b]) h r)
def zeb.I:Bx:=⟨[3,4,7,11,12],[21],87,[(4,[(0,[]),(1,[]),(3,[]),(4,[]),(2,[3,4]),(5,[]),(6,[]),(7,[])]),(5,[(0,[]),(1,[]),(3,[]),(4,[]),(2,[3]),(5,[]),(6,[]),(7,[]),(8,[]),(9,[])]),(10,pz [(9,[6])] 13)]⟩
theorem zeb.L:LkT P zeb.I Tryz.f4 λC Q s h=>zeb.cps C N (s 0) (s 1) (s 2) h Q:=λ{C} k Q s h r=>e1 r
theorem zeb.imp:zeb.Imp (AC P) N:=λa b c h Q r=>eF mixed (fn:=Tryz.f4) (λk=>zeb.L k (dn Q) (zbz [a,b,c]) h r)
def zj.I:Bx:=⟨[1,4,8],[103],120,[(9,[(0,[]),(1,[]),(3,[]),(4,[]),(5,[]),(2,[]),(6,[]),(7,[]),(8,[])])]⟩
theorem zj.L:LkT P zj.I Tryz.f5 λC Q s h=>zj.cps C N h Q:=λ{C} k Q s h r=>eT k (λs h=>zj.k10 C N Q h) r (λs h r=>eT k (λs h=>zd (zj.l9 C N Q (s 121)) [(.int .i64 0)] h) r (λs h r=>eS k (λs h=>zj.k5 C N Q h) (eT k (λs h=>zd (zj.l9 C N Q (s 121)) [(s 2)] h) r (λs h r=>eK (eL k [121] [2] (on1 (zj.l9 C N Q)) r (λY2 s h r=>eT k (λs h=>zd (zj.l7 C N Q Y2 (s 2) (s 121)) [(.int .i64 (-1))] h) r (λs h r=>eS k (λs h=>B.pv (V.bin .add (s 2) (.int .i64 1)) λa=>Y2 [a] h) (eK (eT k (λs h=>zd (zj.l7 C N Q Y2 (s 2) (s 121)) [(s 3)] h) r (λs h r=>eK (eL k [2,121] [3] (on2 (zj.l7 C N Q Y2)) r (λY3 s h r=>e1 r))))) (λs h r=>e1 r)))))) (λs h r=>eT k (λs h=>zj.k4 C N Q (s 5) h) r (λs h r=>eT k (λs h=>zd (zj.l3 C N Q) [.zbj,(.int .i64 59)] h) r (λs h r=>eT k (λs h=>zd (zj.l3 C N Q) [(s 6),(.int .i64 59)] h) r (λs h r=>eS k (λs h=>zj.k1 C N Q (s 6) h) (eT k (λs h=>zd (zj.l3 C N Q) [(s 6),(s 7)] h) r (λs h r=>eK (eL k [] [6,7] (on0 (zj.l3 C N Q)) r (λY1 s h r=>e1 r)))) (λs h r=>e1 r)))))))
theorem zj.imp:zj.Imp (AC P) N:=λh Q r=>eF mixed (fn:=Tryz.f5) (λk=>zj.L k (dn Q) (zbz []) h r)
def zdu.I:Bx:=⟨[],[],38,[]⟩
theorem zdu.L:LkT P zdu.I Tryz.f6 λC Q s h=>zdu.cps C N (s 0) (s 1) h Q:=λ{C} k Q s h r=>eT k (λs h=>zd (zdu.l3 C N Q (s 0) (s 1)) [(.int .i64 0),(.int .i64 0)] h) r (λs h r=>eT k (λs h=>zd (zdu.l3 C N Q (s 0) (s 1)) [(s 5),(.int .i64 0)] h) r (λs h r=>eS k (λs h=>zdu.k1 C N Q (s 0) (s 5) h) (eT k (λs h=>zd (zdu.l3 C N Q (s 0) (s 1)) [(s 5),(s 6)] h) r (λs h r=>eK (eL k [0,1] [5,6] (on2 (zdu.l3 C N Q)) r (λY1 s h r=>e1 r)))) (λs h r=>e1 r)))
theorem zdu.imp:zdu.Imp (AC P) N:=λa b h Q r=>eF mixed (fn:=Tryz.f6) (λk=>zdu.L k (dn Q) (zbz [a,b]) h r)
def ze7.I:Bx:=⟨[1],[],49,[]⟩
theorem ze7.L:LkT P ze7.I Tryz.f7 λC Q s h=>ze7.cps C N h Q:=λ{C} k Q s h r=>e1 r
theorem ze7.imp:ze7.Imp (AC P) N:=λh Q r=>eF mixed (fn:=Tryz.f7) (λk=>ze7.L k (dn Q) (zbz []) h r)
def zc0.I:Bx:=⟨[5],[],39,[]⟩
theorem zc0.L:LkT P zc0.I Tryz.f8 λC Q s h=>zc0.cps C N (s 0) h Q:=λ{C} k Q s h r=>eT k (λs h=>zc0.k5 C N Q (s 0) h) r (λs h r=>eT k (λs h=>zd (zc0.l4 C N Q (s 0)) [(s 3),(.int .i64 0)] h) r (λs h r=>eS k (λs h=>zd (zc0.l2 C N Q (s 0)) [(s 3),(.int .i64 0)] h) (eT k (λs h=>zd (zc0.l4 C N Q (s 0)) [(s 3),(s 4)] h) r (λs h r=>eK (eL k [0] [3,4] (on1 (zc0.l4 C N Q)) r (λY2 s h r=>e1 r)))) (λs h r=>eS k (λs h=>B.pv (V.zbi (s 0)) λa=>B.pv (V.zhj 4 (s 3) none (some a)) λb=>Q b h) (eT k (λs h=>zd (zc0.l2 C N Q (s 0)) [(s 3),(s 6)] h) r (λs h r=>eK (eL k [0] [3,6] (on1 (zc0.l2 C N Q)) r (λY1 s h r=>e1 r)))) (λs h r=>e1 r))))
theorem zc0.imp:zc0.Imp (AC P) N:=λa h Q r=>eF mixed (fn:=Tryz.f8) (λk=>zc0.L k (dn Q) (zbz [a]) h r)
def zeq.I:Bx:=⟨[],[],25,[]⟩
theorem zeq.L:LkT P zeq.I Tryz.f9 λC Q s h=>zeq.cps C N (s 0) h Q:=λ{C} k Q s h r=>eT k (λs h=>zeq.k3 C N Q (s 0) h) r (λs h r=>eT k (λs h=>B.zif h 1 16 (s 3) (s 0) λa h=>zd (zwc.l4 C 16 (N 106) (.str []) 1 Q (s 0)) [a,(.int .i64 0)] h) r (λs h r=>eT k (λs h=>zd (zwc.l4 C 16 (N 106) (.str []) 1 Q (s 0)) [(s 3),(.int .i64 0)] h) r (λs h r=>eS k (λs h=>B.pv (V.zbi (s 0)) λb=>B.pv (V.zhj 1 (s 3) none (some b)) λc=>Q c h) (eT k (λs h=>zd (zwc.l4 C 16 (N 106) (.str []) 1 Q (s 0)) [(s 3),(s 4)] h) r (λs h r=>eK (eL k [0] [3,4] (on1 (zwc.l4 C 16 (N 106) (.str []) 1 Q)) r (λY1 s h r=>e1 r)))) (λs h r=>e1 r))))
theorem zeq.imp:zeq.Imp (AC P) N:=λa h Q r=>eF mixed (fn:=Tryz.f9) (λk=>zeq.L k (dn Q) (zbz [a]) h r)
def zer.I:Bx:=⟨[],[],50,[]⟩
theorem zer.L:LkT P zer.I Tryz.f10 λC Q s h=>zer.cps C N (s 0) h Q:=λ{C} k Q s h r=>eT k (λs h=>zer.k5 C N Q (s 0) h) r (λs h r=>eT k (λs h=>B.zsw h λc h=>B.rangeMap h (s 3) λa h=>zd (zer.l4 C N Q (s 4) c a) [] h) r (λs h r=>eT k (λs h=>B.rangeMap h (s 3) λa h=>zd (zer.l4 C N Q (s 4) (s 5) a) [] h) r (λs h r=>eS k (λs h=>B.rangeMap h (s 5) λb h=>zd (zer.l2 C N Q b) [.zbj] h) (eT k (λs h=>zd (zer.l4 C N Q (s 4) (s 5) (s 17)) [] h) r (λs h r=>eK (eL k [4,5,17] [] (on3 (zer.l4 C N Q)) r (λY2 s h r=>e1 r)))) (λs h r=>eT k (λs h=>B.rangeMap h (s 5) λb h=>zd (zer.l2 C N Q b) [(s 7)] h) r (λs h r=>eS k (λs h=>B.call C (N 566) [(s 7),(.fn (N 565) [] [])] h λd h=>Q (s 7) h) (eT k (λs h=>zd (zer.l2 C N Q (s 35)) [(s 7)] h) r (λs h r=>eK (eL k [35] [7] (on1 (zer.l2 C N Q)) r (λY1 s h r=>e1 r)))) (λs h r=>e1 r))))))
theorem zer.imp:zer.Imp (AC P) N:=λa h Q r=>eF mixed (fn:=Tryz.f10) (λk=>zer.L k (dn Q) (zbz [a]) h r)
def zdo.I:Bx:=⟨[],[],65,[]⟩
theorem zdo.L:LkT P zdo.I Tryz.f11 λC Q s h=>zdo.cps C N (s 0) (s 1) h Q:=λ{C} k Q s h r=>eT k (λs h=>zdo.k5 C N Q (s 0) (s 1) h) r (λs h r=>eT k (λs h=>B.zsw h λb h=>B.pv (V.zbi (s 1)) λa=>zd (zdo.l4 C N Q (s 5) (s 6) b (s 1) a) [.zbj,(.int .i64 0)] h) r (λs h r=>eT k (λs h=>B.pv (V.zbi (s 1)) λa=>zd (zdo.l4 C N Q (s 5) (s 6) (s 7) (s 1) a) [.zbj,(.int .i64 0)] h) r (λs h r=>eT k (λs h=>B.pv (V.zbi (s 1)) λa=>zd (zdo.l4 C N Q (s 5) (s 6) (s 7) (s 1) a) [(s 8),(.int .i64 0)] h) r (λs h r=>eS k (λs h=>B.rangeMap h (s 5) λc h=>zd (zdo.l2 C N Q (s 6) (s 7) c) [(s 8)] h) (eT k (λs h=>zd (zdo.l4 C N Q (s 5) (s 6) (s 7) (s 20) (s 21)) [(s 8),(s 22)] h) r (λs h r=>eK (eL k [5,6,7,20,21] [8,22] (on5 (zdo.l4 C N Q)) r (λY2 s h r=>e1 r)))) (λs h r=>eS k (λs h=>B.call C (N 364) [(s 8)] h λf h=>B.call C (N 365) [(s 8)] h λd h=>B.call C (N 567) [d] h λe h=>Q e h) (eT k (λs h=>zd (zdo.l2 C N Q (s 6) (s 7) (s 45)) [(s 8)] h) r (λs h r=>eK (eL k [6,7,45] [8] (on3 (zdo.l2 C N Q)) r (λY1 s h r=>e1 r)))) (λs h r=>e1 r))))))
theorem zdo.imp:zdo.Imp (AC P) N:=λa b h Q r=>eF mixed (fn:=Tryz.f11) (λk=>zdo.L k (dn Q) (zbz [a,b]) h r)
def zdg.I:Bx:=⟨[],[],58,[(7,pz [(30,[25])] 35)]⟩
theorem zdg.L:LkT P zdg.I Tryz.f12 λC Q s h=>zdg.cps C N (s 0) (s 1) h Q:=λ{C} k Q s h r=>eT k (λs h=>zdg.k4 C N Q (s 0) (s 1) h) r (λs h r=>eT k (λs h=>zdg.k3 C N Q (s 0) (s 1) h) r (λs h r=>eT k (λs h=>zd (zdg.l2 C N Q (s 1) (s 5)) [(.int .i64 0)] h) r (λs h r=>eS k (λs h=>Q (.bool true) h) (eT k (λs h=>zd (zdg.l2 C N Q (s 1) (s 5)) [(s 6)] h) r (λs h r=>eK (eL k [1,5] [6] (on2 (zdg.l2 C N Q)) r (λY1 s h r=>e1 r)))) (λs h r=>e1 r))))
theorem zdg.imp:zdg.Imp (AC P) N:=λa b h Q r=>eF mixed (fn:=Tryz.f12) (λk=>zdg.L k (dn Q) (zbz [a,b]) h r)
def zec.I:Bx:=⟨[],[],58,[(7,pz [(30,[25])] 35)]⟩
theorem zec.L:LkT P zec.I Tryz.f13 λC Q s h=>zec.cps C N (s 0) (s 1) h Q:=λ{C} k Q s h r=>eT k (λs h=>zec.k4 C N Q (s 0) (s 1) h) r (λs h r=>eT k (λs h=>zec.k3 C N Q (s 0) (s 1) h) r (λs h r=>eT k (λs h=>zd (zxz.l4 C (N 106) 1 Q (s 1) (s 5)) [(.int .i64 0)] h) r (λs h r=>eS k (λs h=>Q (.bool true) h) (eT k (λs h=>zd (zxz.l4 C (N 106) 1 Q (s 1) (s 5)) [(s 6)] h) r (λs h r=>eK (eL k [1,5] [6] (on2 (zxz.l4 C (N 106) 1 Q)) r (λY1 s h r=>e1 r)))) (λs h r=>e1 r))))
theorem zec.imp:zec.Imp (AC P) N:=λa b h Q r=>eF mixed (fn:=Tryz.f13) (λk=>zec.L k (dn Q) (zbz [a,b]) h r)
def zc3.I:Bx:=⟨[],[],32,[]⟩
theorem zc3.L:LkT P zc3.I Tryz.f14 λC Q s h=>zc3.cps C N (s 0) h Q:=λ{C} k Q s h r=>eS k (λs h=>zc3.k3 C N Q (s 0) h) (eT k (λs h=>zd (zc3.l5 C N Q (s 0)) [(s 2)] h) r (λs h r=>eK (eL k [0] [2] (on1 (zc3.l5 C N Q)) r (λY2 s h r=>e1 r)))) (λs h r=>eT k (λs h=>zd (zc3.l2 C N Q (s 3)) [(.int .i64 0)] h) r (λs h r=>eT k (λs h=>zd (zc3.l2 C N Q (s 3)) [(s 4)] h) r (λs h r=>eK (eL k [3] [4] (on1 (zc3.l2 C N Q)) r (λY1 s h r=>e1 r)))))
theorem zc3.imp:zc3.Imp (AC P) N:=λa h Q r=>eF mixed (fn:=Tryz.f14) (λk=>zc3.L k (dn Q) (zbz [a]) h r)
def zew.I:Bx:=⟨[],[],20,[]⟩
theorem zew.L:LkT P zew.I Tryz.f15 λC Q s h=>zew.cps C N (s 0) h Q:=λ{C} k Q s h r=>eT k (λs h=>zd (zn0.l3 C 1 (N 106) (λh p v K=>B.st h p v K) 2 Q (s 2)) [(.int .i64 0)] h) r (λs h r=>eT k (λs h=>zd (zn0.l3 C 1 (N 106) (λh p v K=>B.st h p v K) 2 Q (s 2)) [(s 3)] h) r (λs h r=>eK (eL k [2] [3] (λkv lv h Y1=>match kv with|[a]=>zn0.l3 C 1 (N 106) (λh p v K=>B.st h p v K) 2 Q a lv h Y1|_=>False) r (λY1 s h r=>e1 r))))
theorem zew.imp:zew.Imp (AC P) N:=λa h Q r=>eF mixed (fn:=Tryz.f15) (λk=>zew.L k (dn Q) (zbz [a]) h r)
def zes.I:Bx:=⟨[],[],27,[(6,pz [] 10)]⟩
theorem zes.L:LkT P zes.I Tryz.f16 λC Q s h=>zes.cps C N (s 0) (s 1) h Q:=λ{C} k Q s h r=>eT k (λs h=>zes.k3 C N Q (s 0) (s 1) h) r (λs h r=>eT k (λs h=>zd (zes.l2 C N Q (s 0) (s 1)) [(.int .i64 0)] h) r (λs h r=>eS k (λs h=>Q (.bool true) h) (eT k (λs h=>zd (zes.l2 C N Q (s 0) (s 1)) [(s 5)] h) r (λs h r=>eK (eL k [0,1] [5] (on2 (zes.l2 C N Q)) r (λY1 s h r=>e1 r)))) (λs h r=>e1 r)))
theorem zes.imp:zes.Imp (AC P) N:=λa b h Q r=>eF mixed (fn:=Tryz.f16) (λk=>zes.L k (dn Q) (zbz [a,b]) h r)
def zgn.I:Bx:=⟨[],[],36,[]⟩
theorem zgn.L:LkT P zgn.I Tryz.f17 λC Q s h=>zgn.cps C N (s 0) h Q:=λ{C} k Q s h r=>eT k (λs h=>B.call C (N 602) [(s 0)] h λa h=>zd (zgn.l2 C N Q (s 0) a) [.zbj,.zbj,(.int .i64 0)] h) r (λs h r=>eT k (λs h=>B.call C (N 602) [(s 0)] h λa h=>zd (zgn.l2 C N Q (s 0) a) [(s 3),.zbj,(.int .i64 0)] h) r (λs h r=>eT k (λs h=>B.call C (N 602) [(s 0)] h λa h=>zd (zgn.l2 C N Q (s 0) a) [(s 3),(s 4),(.int .i64 0)] h) r (λs h r=>eT k (λs h=>zd (zgn.l2 C N Q (s 0) (s 5)) [(s 3),(s 4),(.int .i64 0)] h) r (λs h r=>eS k (λs h=>Q (s 3) h) (eT k (λs h=>zd (zgn.l2 C N Q (s 0) (s 5)) [(s 3),(s 4),(s 6)] h) r (λs h r=>eK (eL k [0,5] [3,4,6] (on2 (zgn.l2 C N Q)) r (λY1 s h r=>e1 r)))) (λs h r=>e1 r)))))
theorem zgn.imp:zgn.Imp (AC P) N:=λa h Q r=>eF mixed (fn:=Tryz.f17) (λk=>zgn.L k (dn Q) (zbz [a]) h r)
def zef.I:Bx:=⟨[],[],26,[(6,pz [] 9)]⟩
theorem zef.L:LkT P zef.I Tryz.f18 λC Q s h=>zef.cps C N (s 0) (s 1) h Q:=λ{C} k Q s h r=>eT k (λs h=>zef.k3 C N Q (s 0) (s 1) h) r (λs h r=>eT k (λs h=>zd (zyh.l4  Q (s 0) (s 1)) [(.int .i64 0)] h) r (λs h r=>eS k (λs h=>Q (.bool true) h) (eT k (λs h=>zd (zyh.l4  Q (s 0) (s 1)) [(s 5)] h) r (λs h r=>eK (eL k [0,1] [5] (on2 (zyh.l4  Q)) r (λY1 s h r=>e1 r)))) (λs h r=>e1 r)))
theorem zef.imp:zef.Imp (AC P) N:=λa b h Q r=>eF mixed (fn:=Tryz.f18) (λk=>zef.L k (dn Q) (zbz [a,b]) h r)
def zdb.I:Bx:=⟨[],[],48,[]⟩
theorem zdb.L:LkT P zdb.I Tryz.f19 λC Q s h=>zdb.cps C N (s 0) (s 1) h Q:=λ{C} k Q s h r=>eT k (λs h=>B.call C (N 602) [(s 0)] h λa h=>zd (zdb.l5 C N Q (s 0) (s 1) a) [.zbj,(.int .i64 0)] h) r (λs h r=>eT k (λs h=>B.call C (N 602) [(s 0)] h λa h=>zd (zdb.l5 C N Q (s 0) (s 1) a) [(s 5),(.int .i64 0)] h) r (λs h r=>eT k (λs h=>zd (zdb.l5 C N Q (s 0) (s 1) (s 6)) [(s 5),(.int .i64 0)] h) r (λs h r=>eS k (λs h=>Q (s 5) h) (eT k (λs h=>zd (zdb.l5 C N Q (s 0) (s 1) (s 6)) [(s 5),(s 7)] h) r (λs h r=>eK (eL k [0,1,6] [5,7] (on3 (zdb.l5 C N Q)) r (λY1 s h r=>eT k (λs h=>zdb.k4 C N Q Y1 (s 0) (s 1) (s 5) (s 6) (s 7) h) r (λs h r=>eS k (λs h=>B.pv (V.bin .add (s 7) (.int .i64 1)) λb=>Y1 [(s 5),b] h) (eK (eT k (λs h=>zdb.k3 C N Q Y1 (s 0) (s 1) (s 5) (s 6) (s 7) (s 8) h) r (λs h r=>eT k (λs h=>zd (zdb.l2 C N Q Y1 (s 0) (s 1) (s 6) (s 7) (s 8)) [(s 5),(.int .i64 0)] h) r (λs h r=>eT k (λs h=>zd (zdb.l2 C N Q Y1 (s 0) (s 1) (s 6) (s 7) (s 8)) [(s 5),(s 9)] h) r (λs h r=>eK (eL k [0,1,6,7,8] [5,9] (on5 (zdb.l2 C N Q Y1)) r (λY2 s h r=>e1 r))))))) (λs h r=>e1 r)))))) (λs h r=>e1 r))))
theorem zdb.imp:zdb.Imp (AC P) N:=λa b h Q r=>eF mixed (fn:=Tryz.f19) (λk=>zdb.L k (dn Q) (zbz [a,b]) h r)
def zd7.I:Bx:=⟨[],[],21,[]⟩
theorem zd7.L:LkT P zd7.I Tryz.f20 λC Q s h=>zd7.cps C N (s 0) h Q:=λ{C} k Q s h r=>eT k (λs h=>zd7.k3 C N Q (s 0) h) r (λs h r=>eT k (λs h=>zd (zd7.l2 C N Q (s 0) (s 3)) [(.int .i64 0)] h) r (λs h r=>eS k (λs h=>B.call C (N 62) [(s 3)] h λa h=>Q a h) (eT k (λs h=>zd (zd7.l2 C N Q (s 0) (s 3)) [(s 4)] h) r (λs h r=>eK (eL k [0,3] [4] (on2 (zd7.l2 C N Q)) r (λY1 s h r=>e1 r)))) (λs h r=>e1 r)))
theorem zd7.imp:zd7.Imp (AC P) N:=λa h Q r=>eF mixed (fn:=Tryz.f20) (λk=>zd7.L k (dn Q) (zbz [a]) h r)
def zdc.I:Bx:=⟨[1],[7,19,29,41,50,62],66,[(9,pz [] 21)]⟩
theorem zdc.L:LkT P zdc.I Tryz.f21 λC Q s h=>zdc.cps C N (s 0) h Q:=λ{C} k Q s h r=>eT k (λs h=>zd (zdc.l5 C N Q (s 67)) [(.int .i64 0),(.int .i64 0)] h) r (λs h r=>eT k (λs h=>zd (zdc.l5 C N Q (s 67)) [(s 3),(.int .i64 0)] h) r (λs h r=>eS k (λs h=>zd (zdc.l3 C N Q (s 67)) [(s 3),(.int .i64 0)] h) (eT k (λs h=>zd (zdc.l5 C N Q (s 67)) [(s 3),(s 4)] h) r (λs h r=>eK (eL k [67] [3,4] (on1 (zdc.l5 C N Q)) r (λY2 s h r=>e1 r)))) (λs h r=>eS k (λs h=>zdc.k1 C N Q (s 3) (s 67) h) (eT k (λs h=>zd (zdc.l3 C N Q (s 67)) [(s 3),(s 5)] h) r (λs h r=>eK (eL k [67] [3,5] (on1 (zdc.l3 C N Q)) r (λY1 s h r=>e1 r)))) (λs h r=>e1 r))))
theorem zdc.imp:zdc.Imp (AC P) N:=λa h Q r=>eF mixed (fn:=Tryz.f21) (λk=>zdc.L k (dn Q) (zbz [a]) h r)
def zfn.I:Bx:=⟨[1,2],[3,6,7,10,11,14],16,[]⟩
theorem zfn.L:LkT P zfn.I Tryz.f22 λC Q s h=>zfn.cps C N (s 0) h Q:=λ{C} k Q s h r=>e1 r
theorem zfn.imp:zfn.Imp (AC P) N:=λa h Q r=>eF mixed (fn:=Tryz.f22) (λk=>zfn.L k (dn Q) (zbz [a]) h r)
def zt.I:Bx:=⟨[2],[8,18,29,41,51,57,59,71,77,79],96,[(19,pz [] 11),(25,pz [] 11)]⟩
theorem zt.L:LkT P zt.I Tryz.f23 λC Q s h=>zt.cps C N (s 0) (s 1) h Q:=λ{C} k Q s h r=>eT k (λs h=>zt.k11 C N Q (s 3) (s 98) h) r (λs h r=>eT k (λs h=>B.pv (V.fieldAddr 0 (s 3)) λa=>B.ld h a λb=>zt.k10 C N Q (s 3) (s 5) b (s 98) h) r (λs h r=>eS k (λs h=>zt.k1 C N Q (s 3) h) (eT k (λs h=>zt.k10 C N Q (s 3) (s 5) (s 13) (s 98) h) r (λs h r=>eK (eT k (λs h=>B.cond (s 14) (zt.k2 C N Q (s 3) (s 5) (s 98) h) (B.pv (V.bin .eql (s 13) (.int .u8 9)) λc=>B.cond c (zt.k3 C N Q (s 3) (s 5) (s 98) h) (zt.k9 C N Q (s 3) (s 5) (s 13) (s 98) h))) r (λs h r=>eC 14 r (λr=>e1 r) (λr=>eT k (λs h=>B.cond (s 26) (zt.k3 C N Q (s 3) (s 5) (s 98) h) (zt.k9 C N Q (s 3) (s 5) (s 13) (s 98) h)) r (λs h r=>eC 26 r (λr=>e1 r) (λr=>eT k (λs h=>B.cond (s 37) (zt.k4 C N Q (s 3) (s 5) (s 98) h) (zt.k8 C N Q (s 3) (s 13) (s 98) h)) r (λs h r=>eC 37 r (λr=>e1 r) (λr=>eT k (λs h=>B.cond (s 47) (zt.k5 C N Q (s 3) (s 98) h) (zt.k7 C N Q (s 3) (s 13) (s 98) h)) r (λs h r=>eC 47 r (λr=>e1 r) (λr=>eT k (λs h=>zt.k6 C N Q (s 3) (s 67) (s 98) h) r (λs h r=>e1 r)))))))))))) (λs h r=>e1 r)))
theorem zt.imp:zt.Imp (AC P) N:=λa b h Q r=>eF mixed (fn:=Tryz.f23) (λk=>zt.L k (dn Q) (zbz [a,b]) h r)
def zcl.I:Bx:=⟨[2,4,5,7,9,11],[12,14,16,19,27,30,33,36,37,38,43,45,53,56,61,63,71,74,79],82,[(6,[(0,[]),(1,[]),(3,[]),(4,[]),(2,[4]),(6,[]),(5,[]),(7,[]),(8,[]),(9,[])])]⟩
theorem zcl.L:LkT P zcl.I Tryz.f24 λC Q s h=>zcl.cps C N (s 0) (s 1) h Q:=λ{C} k Q s h r=>eT k (λs h=>zcl.k7 C N Q (s 1) (s 84) (s 86) h) r (λs h r=>eT k (λs h=>B.al (s 84) (B.pv (V.zcc 3 (s 84)) λa=>B.pv (V.zbi a) λd=>zd (zcl.l6 C N Q (s 1) a d (s 84) (s 86)) [(.int .i64 0),(s 87)] h)) r (λs h r=>eS k (λs h=>B.al (s 84) (B.pv (V.zcc 4 (s 84)) λb=>B.pv (V.zbi b) λe=>zd (zcl.l4 C N Q (s 1) b e (s 84) (s 86)) [(.int .i64 0),(s 87)] h)) (eT k (λs h=>zd (zcl.l6 C N Q (s 1) (s 20) (s 21) (s 84) (s 86)) [(s 22),(s 87)] h) r (λs h r=>eK (eL k [1,20,21,84,86] [22,87] (on5 (zcl.l6 C N Q)) r (λY3 s h r=>e1 r)))) (λs h r=>eS k (λs h=>B.al (s 84) (B.pv (V.zcc 5 (s 84)) λc=>B.pv (V.zbi c) λf=>zd (zcl.l2 C N Q (s 1) c f (s 86)) [(.int .i64 0),(s 87)] h)) (eT k (λs h=>zd (zcl.l4 C N Q (s 1) (s 46) (s 47) (s 84) (s 86)) [(s 48),(s 87)] h) r (λs h r=>eK (eL k [1,46,47,84,86] [48,87] (on5 (zcl.l4 C N Q)) r (λY2 s h r=>e1 r)))) (λs h r=>eS k (λs h=>B.pv (V.ze5 0 6 (s 87)) λg=>B.pv (V.zqf 0 6 g (s 86)) λi=>B.pv (oneOf (znl (V.ze5 0 6 i) (some []))) λv=>Q v h) (eT k (λs h=>zd (zcl.l2 C N Q (s 1) (s 64) (s 65) (s 86)) [(s 66),(s 87)] h) r (λs h r=>eK (eL k [1,64,65,86] [66,87] (on4 (zcl.l2 C N Q)) r (λY1 s h r=>e1 r)))) (λs h r=>e1 r)))))
theorem zcl.imp:zcl.Imp (AC P) N:=λa b h Q r=>eF mixed (fn:=Tryz.f24) (λk=>zcl.L k (dn Q) (zbz [a,b]) h r)
def zfo.I:Bx:=⟨[2,3],[9,11,16,18,23,25],29,[]⟩
theorem zfo.L:LkT P zfo.I Tryz.f25 λC Q s h=>zfo.cps C N (s 0) (s 1) h Q:=λ{C} k Q s h r=>e1 r
theorem zfo.imp:zfo.Imp (AC P) N:=λa b h Q r=>eF mixed (fn:=Tryz.f25) (λk=>zfo.L k (dn Q) (zbz [a,b]) h r)
def zfk.I:Bx:=⟨[1],[2,5,8],11,[]⟩
theorem zfk.L:LkT P zfk.I Tryz.f26 λC Q s h=>zfk.cps C N (s 0) h Q:=λ{C} k Q s h r=>e1 r
theorem zfk.imp:zfk.Imp (AC P) N:=λa h Q r=>eF mixed (fn:=Tryz.f26) (λk=>zfk.L k (dn Q) (zbz [a]) h r)
def zx.I:Bx:=⟨[2,3],[10,13,16,30,32,42,44,55,57,66,72,78,81,83,97,103,109,112,114],123,[(2,[(0,[]),(1,[]),(3,[]),(4,[]),(2,[4]),(5,[]),(6,[])]),(29,pz [] 9),(30,pz [] 11),(38,pz [] 9),(39,pz [] 11)]⟩
theorem zx.L:LkT P zx.I Tryz.f27 λC Q s h=>zx.cps C N (s 0) (s 1) h Q:=λ{C} k Q s h r=>eT k (λs h=>B.zg1 h (zed [(0,none,(.str [42]))] (zfs 1 [.str []])) λc h=>zx.k13 C N Q (.sl c 0 0 1 1 1) (s 125) (s 126) h) r (λs h r=>eT k (λs h=>zx.k13 C N Q (s 5) (s 125) (s 126) h) r (λs h r=>eT k (λs h=>B.al (s 126) (B.pv (V.zcc 0 (s 126)) λa=>zx.k12 C N Q (s 5) (s 6) a (s 125) (s 126) h)) r (λs h r=>eS k (λs h=>Q .zbj h) (eT k (λs h=>zx.k12 C N Q (s 5) (s 6) (s 17) (s 125) (s 126) h) r (λs h r=>eK (eT k (λs h=>B.cond (s 18) (Q (s 5) h) (zx.k11 C N Q (s 5) (s 6) (s 17) (s 125) (s 126) h)) r (λs h r=>eC 18 r (λr=>e1 r) (λr=>eT k (λs h=>B.cond (s 24) (zx.k1 C N Q (s 5) (s 6) (s 125) (s 126) h) (B.pv (V.bin .eql (s 17) (.int .u8 9)) λb=>B.cond b (zx.k2 C N Q (s 5) (s 6) (s 125) (s 126) h) (zx.k10 C N Q (s 5) (s 6) (s 17) (s 125) (s 126) h))) r (λs h r=>eC 24 r (λr=>e1 r) (λr=>eT k (λs h=>B.cond (s 37) (zx.k2 C N Q (s 5) (s 6) (s 125) (s 126) h) (zx.k10 C N Q (s 5) (s 6) (s 17) (s 125) (s 126) h)) r (λs h r=>eC 37 r (λr=>e1 r) (λr=>eT k (λs h=>B.cond (s 49) (zx.k3 C N Q (s 5) (s 6) (s 125) (s 126) h) (zx.k9 C N Q (s 5) (s 17) (s 125) (s 126) h)) r (λs h r=>eC 49 r (λr=>e1 r) (λr=>eT k (λs h=>B.cond (s 61) (zd (zx.l5 C N Q (s 5) (s 125) (s 126)) [(.int .i64 0)] h) (zx.k8 C N Q (s 5) (s 17) (s 125) (s 126) h)) r (λs h r=>eC 61 r (λr=>eS k (λs h=>Q (s 5) h) (eT k (λs h=>zd (zx.l5 C N Q (s 5) (s 125) (s 126)) [(s 7)] h) r (λs h r=>eK (eL k [5,125,126] [7] (on3 (zx.l5 C N Q)) r (λY1 s h r=>e1 r)))) (λs h r=>e1 r)) (λr=>eT k (λs h=>B.cond (s 92) (zd (zx.l7 C N Q (s 5) (s 125) (s 126)) [(.int .i64 0)] h) (Q .zbj h)) r (λs h r=>eC 92 r (λr=>eS k (λs h=>Q (s 5) h) (eT k (λs h=>zd (zx.l7 C N Q (s 5) (s 125) (s 126)) [(s 8)] h) r (λs h r=>eK (eL k [5,125,126] [8] (on3 (zx.l7 C N Q)) r (λY2 s h r=>e1 r)))) (λs h r=>e1 r)) (λr=>e1 r))))))))))))))) (λs h r=>e1 r))))
theorem zx.imp:zx.Imp (AC P) N:=λa b h Q r=>eF mixed (fn:=Tryz.f27) (λk=>zx.L k (dn Q) (zbz [a,b]) h r)
def zev.I:Bx:=⟨[2,3],[5,7,11,13,18,20,25,27,32,34,39,41],45,[]⟩
theorem zev.L:LkT P zev.I Tryz.f28 λC Q s h=>zev.cps C N (s 0) (s 1) h Q:=λ{C} k Q s h r=>e1 r
theorem zev.imp:zev.Imp (AC P) N:=λa b h Q r=>eF mixed (fn:=Tryz.f28) (λk=>zev.L k (dn Q) (zbz [a,b]) h r)
def zc2.I:Bx:=⟨[2,4,5,7],[10,12,14,18,25,32,38,41,43,46,47,52,54,61,68,70,77,79,86,93,95,102],104,[(14,pz [] 11),(19,pz [] 11)]⟩
theorem zc2.L:LkT P zc2.I Tryz.f29 λC Q s h=>zc2.cps C N (s 0) (s 1) h Q:=λ{C} k Q s h r=>eT k (λs h=>zc2.k7 C N Q (s 1) (s 106) (s 108) h) r (λs h r=>eT k (λs h=>zd (zc2.l6 C N Q (s 1) (s 106) (s 108)) [(.int .i64 0),(s 109)] h) r (λs h r=>eS k (λs h=>zd (zc2.l4 C N Q (s 1) (s 106) (s 108)) [(.int .i64 0),(s 109)] h) (eT k (λs h=>zd (zc2.l6 C N Q (s 1) (s 106) (s 108)) [(s 6),(s 109)] h) r (λs h r=>eK (eL k [1,106,108] [6,109] (on3 (zc2.l6 C N Q)) r (λY3 s h r=>e1 r)))) (λs h r=>eS k (λs h=>zd (zc2.l2 C N Q (s 1) (s 106) (s 108)) [(.int .i64 0),(s 109)] h) (eT k (λs h=>zd (zc2.l4 C N Q (s 1) (s 106) (s 108)) [(s 8),(s 109)] h) r (λs h r=>eK (eL k [1,106,108] [8,109] (on3 (zc2.l4 C N Q)) r (λY2 s h r=>e1 r)))) (λs h r=>eS k (λs h=>B.pv (V.ze5 0 6 (s 109)) λa=>B.pv (V.zqf 0 6 a (s 108)) λb=>B.pv (oneOf (znl (V.ze5 0 6 b) (some []))) λv=>Q v h) (eT k (λs h=>zd (zc2.l2 C N Q (s 1) (s 106) (s 108)) [(s 9),(s 109)] h) r (λs h r=>eK (eL k [1,106,108] [9,109] (on3 (zc2.l2 C N Q)) r (λY1 s h r=>e1 r)))) (λs h r=>e1 r)))))
theorem zc2.imp:zc2.Imp (AC P) N:=λa b h Q r=>eF mixed (fn:=Tryz.f29) (λk=>zc2.L k (dn Q) (zbz [a,b]) h r)
def zd1.I:Bx:=⟨[],[],21,[]⟩
theorem zd1.L:LkT P zd1.I Tryz.f30 λC Q s h=>zd1.cps C N (s 0) h Q:=λ{C} k Q s h r=>eT k (λs h=>zd1.k3 C N Q (s 0) h) r (λs h r=>eT k (λs h=>zd (zd1.l2 C N Q (s 0) (s 3)) [(.int .i64 0)] h) r (λs h r=>eS k (λs h=>B.call C (N 62) [(s 3)] h λa h=>Q a h) (eT k (λs h=>zd (zd1.l2 C N Q (s 0) (s 3)) [(s 4)] h) r (λs h r=>eK (eL k [0,3] [4] (on2 (zd1.l2 C N Q)) r (λY1 s h r=>e1 r)))) (λs h r=>e1 r)))
theorem zd1.imp:zd1.Imp (AC P) N:=λa h Q r=>eF mixed (fn:=Tryz.f30) (λk=>zd1.L k (dn Q) (zbz [a]) h r)
def zge.I:Bx:=⟨[],[],10,[]⟩
theorem zge.L:LkT P zge.I Tryz.f31 λC Q s h=>zge.cps C N h Q:=λ{C} k Q s h r=>e1 r
theorem zge.imp:zge.Imp (AC P) N:=λh Q r=>eF mixed (fn:=Tryz.f31) (λk=>zge.L k (dn Q) (zbz []) h r)
def zcg.I:Bx:=⟨[],[],95,[(5,pz [] 25)]⟩
theorem zcg.L:LkT P zcg.I Tryz.f32 λC Q s h=>zcg.cps C N (s 0) h Q:=λ{C} k Q s h r=>eT k (λs h=>zd (zcg.l7 C N Q (s 0)) [(.int .i64 0),(.int .i64 0)] h) r (λs h r=>eT k (λs h=>zd (zcg.l7 C N Q (s 0)) [(s 3),(.int .i64 0)] h) r (λs h r=>eS k (λs h=>Q (s 3) h) (eT k (λs h=>zd (zcg.l7 C N Q (s 0)) [(s 3),(s 4)] h) r (λs h r=>eK (eL k [0] [3,4] (on1 (zcg.l7 C N Q)) r (λY1 s h r=>eT k (λs h=>zcg.k5 C N Q Y1 (s 0) (s 3) (s 4) h) r (λs h r=>eS k (λs h=>B.pv (V.bin .add (s 4) (.int .i64 1)) λa=>Y1 [(s 3),a] h) (eK (eT k (λs h=>zd (zcg.l4 C N Q Y1 (s 0) (s 4)) [(s 3),(.int .i64 0)] h) r (λs h r=>eS k (λs h=>zd (zcg.l2 C N Q Y1 (s 0) (s 4)) [(s 3),(.int .i64 0)] h) (eT k (λs h=>zd (zcg.l4 C N Q Y1 (s 0) (s 4)) [(s 3),(s 5)] h) r (λs h r=>eK (eL k [0,4] [3,5] (on2 (zcg.l4 C N Q Y1)) r (λY3 s h r=>e1 r)))) (λs h r=>eT k (λs h=>zd (zcg.l2 C N Q Y1 (s 0) (s 4)) [(s 3),(s 6)] h) r (λs h r=>eK (eL k [0,4] [3,6] (on2 (zcg.l2 C N Q Y1)) r (λY2 s h r=>e1 r))))))) (λs h r=>e1 r)))))) (λs h r=>e1 r)))
theorem zcg.imp:zcg.Imp (AC P) N:=λa h Q r=>eF mixed (fn:=Tryz.f32) (λk=>zcg.L k (dn Q) (zbz [a]) h r)
def zf8.I:Bx:=⟨[1,2],[3,6,7,10],12,[]⟩
theorem zf8.L:LkT P zf8.I Tryz.f33 λC Q s h=>zf8.cps C N (s 0) h Q:=λ{C} k Q s h r=>e1 r
theorem zf8.imp:zf8.Imp (AC P) N:=λa h Q r=>eF mixed (fn:=Tryz.f33) (λk=>zf8.L k (dn Q) (zbz [a]) h r)
def zff.I:Bx:=⟨[4],[],9,[]⟩
theorem zff.L:LkT P zff.I Tryz.f34 λC Q s h=>zff.cps C N (s 0) (s 1) h Q:=λ{C} k Q s h r=>e1 r
theorem zff.imp:zff.Imp (AC P) N:=λa b h Q r=>eF mixed (fn:=Tryz.f34) (λk=>zff.L k (dn Q) (zbz [a,b]) h r)
def zfc.I:Bx:=⟨[],[],23,[]⟩
theorem zfc.L:LkT P zfc.I Tryz.f35 λC Q s h=>zfc.cps C N (s 0) (s 1) h Q:=λ{C} k Q s h r=>e1 r
theorem zfc.imp:zfc.Imp (AC P) N:=λa b h Q r=>eF mixed (fn:=Tryz.f35) (λk=>zfc.L k (dn Q) (zbz [a,b]) h r)
def zz.I:Bx:=⟨[6,10,12],[23,25,36,44,46,50,58],66,[(23,pz [] 4)]⟩
theorem zz.L:LkT P zz.I Tryz.f36 λC Q s h=>zz.cps C N (s 0) h Q:=λ{C} k Q s h r=>eT k (λs h=>zz.k13 C N Q (s 0) h) r (λs h r=>eT k (λs h=>B.pv (V.zbi (s 0)) λd=>zd (zz.l12 C N Q (s 0) (s 4) (s 0) d) [(.int .i64 0)] h) r (λs h r=>eS k (λs h=>zz.k10 C N Q (s 0) (s 4) h) (eT k (λs h=>zd (zz.l12 C N Q (s 0) (s 4) (s 16) (s 17)) [(s 18)] h) r (λs h r=>eK (eL k [0,4,16,17] [18] (on4 (zz.l12 C N Q)) r (λY4 s h r=>e1 r)))) (λs h r=>eT k (λs h=>B.pv (V.zbi (s 0)) λa=>zd (zz.l9 C N Q (s 4) (s 7) (.fn (N 576) [] [(s 4),(s 7)]) (s 0) a) [(.int .i64 0)] h) r (λs h r=>eT k (λs h=>B.pv (V.zbi (s 0)) λa=>zd (zz.l9 C N Q (s 4) (s 7) (s 8) (s 0) a) [(.int .i64 0)] h) r (λs h r=>eS k (λs h=>B.ld h (s 4) λb=>B.ld h (s 7) λc=>Q (.tup [b,c]) h) (eT k (λs h=>zd (zz.l9 C N Q (s 4) (s 7) (s 8) (s 30) (s 31)) [(s 32)] h) r (λs h r=>eK (eL k [4,7,8,30,31] [32] (on5 (zz.l9 C N Q)) r (λY1 s h r=>eT k (λs h=>B.cond (s 33) (zz.k7 C N Q Y1 (s 4) (s 7) (s 8) (s 30) (s 31) (s 32) h) (B.ld h (s 4) λb=>B.ld h (s 7) λc=>Q (.tup [b,c]) h)) r (λs h r=>eT k (λs h=>zz.k7 C N Q Y1 (s 4) (s 7) (s 8) (s 30) (s 31) (s 32) h) r (λs h r=>eS k (λs h=>B.pv (V.bin .add (s 32) (.int .i64 1)) λe=>Y1 [e] h) (eK (eT k (λs h=>zz.k6 C N Q Y1 (s 4) (s 7) (s 8) (s 30) (s 31) (s 32) (s 76) h) r (λs h r=>eS k (λs h=>zz.k3 C N Q Y1 (s 4) (s 7) (s 8) (s 30) (s 31) (s 32) (s 76) h) (eT k (λs h=>zd (zz.l5 C N Q Y1 (s 4) (s 7) (s 8) (s 30) (s 31) (s 32) (s 37) (s 38) (s 76)) [(s 39)] h) r (λs h r=>eK (eL k [4,7,8,30,31,32,37,38,76] [39] (on9 (zz.l5 C N Q Y1)) r (λY3 s h r=>e1 r)))) (λs h r=>eT k (λs h=>zd (zz.l2 C N Q Y1 (s 4) (s 7) (s 8) (s 30) (s 31) (s 32) (s 51) (s 52) (s 76)) [(s 53)] h) r (λs h r=>eK (eL k [4,7,8,30,31,32,51,52,76] [53] (on9 (zz.l2 C N Q Y1)) r (λY2 s h r=>e1 r))))))) (λs h r=>e1 r))))))) (λs h r=>e1 r))))))
theorem zz.imp:zz.Imp (AC P) N:=λa h Q r=>eF mixed (fn:=Tryz.f36) (λk=>zz.L k (dn Q) (zbz [a]) h r)
def zb7.I:Bx:=⟨[],[],11,[]⟩
theorem zb7.L:LkT P zb7.I Tryz.f37 λC Q s h=>zb7.cps C N (s 0) h Q:=λ{C} k Q s h r=>e1 r
theorem zb7.imp:zb7.Imp (AC P) N:=λa h Q r=>eF mixed (fn:=Tryz.f37) (λk=>zb7.L k (dn Q) (zbz [a]) h r)
def zbv.I:Bx:=⟨[],[],8,[]⟩
theorem zbv.L:LkT P zbv.I Tryz.f38 λC Q s h=>zbv.cps C N (s 0) h Q:=λ{C} k Q s h r=>e1 r
theorem zbv.imp:zbv.Imp (AC P) N:=λa h Q r=>eF mixed (fn:=Tryz.f38) (λk=>zbv.L k (dn Q) (zbz [a]) h r)
def zb5.I:Bx:=⟨[],[],14,[]⟩
theorem zb5.L:LkT P zb5.I Tryz.f39 λC Q s h=>zb5.cps C N (s 0) (s 1) h Q:=λ{C} k Q s h r=>e1 r
theorem zb5.imp:zb5.Imp (AC P) N:=λa b h Q r=>eF mixed (fn:=Tryz.f39) (λk=>zb5.L k (dn Q) (zbz [a,b]) h r)
def zg0.I:Bx:=⟨[],[],8,[]⟩
theorem zg0.L:LkT P zg0.I Tryz.f40 λC Q s h=>zg0.cps C N (s 0) (s 1) h Q:=λ{C} k Q s h r=>e1 r
theorem zg0.imp:zg0.Imp (AC P) N:=λa b h Q r=>eF mixed (fn:=Tryz.f40) (λk=>zg0.L k (dn Q) (zbz [a,b]) h r)
def zb1.I:Bx:=⟨[],[],36,[]⟩
theorem zb1.L:LkT P zb1.I Tryz.f41 λC Q s h=>zb1.cps C N (s 0) (s 1) h Q:=λ{C} k Q s h r=>eT k (λs h=>B.pv (V.zbi (s 0)) λa=>zd (zft.l3 C (zc7 16 (.str []) 0) (N 580) Q (s 0) (s 1) (s 0) a) [(.int .i64 0)] h) r (λs h r=>eS k (λs h=>zft.k1 C (zc7 16 (.str []) 0) (N 580) Q (s 0) (s 1) h) (eT k (λs h=>zd (zft.l3 C (zc7 16 (.str []) 0) (N 580) Q (s 0) (s 1) (s 9) (s 10)) [(s 11)] h) r (λs h r=>eK (eL k [0,1,9,10] [11] (on4 (zft.l3 C (zc7 16 (.str []) 0) (N 580) Q)) r (λY1 s h r=>e1 r)))) (λs h r=>e1 r))
theorem zb1.imp:zb1.Imp (AC P) N:=λa b h Q r=>eF mixed (fn:=Tryz.f41) (λk=>zb1.L k (dn Q) (zbz [a,b]) h r)
def zbx.I:Bx:=⟨[],[],61,[(6,pz [] 10),(11,pz [] 10)]⟩
theorem zbx.L:LkT P zbx.I Tryz.f42 λC Q s h=>zbx.cps C N (s 0) h Q:=λ{C} k Q s h r=>eT k (λs h=>zc9.k5 C (zc7 16 (.str []) 0) Q (s 0) h) r (λs h r=>eT k (λs h=>zd (zc9.l4 C (zc7 16 (.str []) 0) Q (s 0)) [(.int .i64 1)] h) r (λs h r=>eS k (λs h=>Q (s 0) h) (eT k (λs h=>zd (zc9.l4 C (zc7 16 (.str []) 0) Q (s 0)) [(s 3)] h) r (λs h r=>eK (eL k [0] [3] (on1 (zc9.l4 C (zc7 16 (.str []) 0) Q)) r (λY1 s h r=>eT k (λs h=>zc9.k3 C (zc7 16 (.str []) 0) Q Y1 (s 0) (s 3) h) r (λs h r=>eS k (λs h=>B.pv (V.bin .add (s 3) (.int .i64 1)) λa=>Y1 [a] h) (eK (eT k (λs h=>B.cond (s 25) (B.pv (V.zhj (zc7 16 (.str []) 0).es (s 0) (some (s 3)) none) λb=>zd (zc9.l2 C (zc7 16 (.str []) 0) Q Y1 (s 0) b) [(s 3),(.int .i64 1)] h) (B.pv (V.bin .add (s 3) (.int .i64 1)) λa=>Y1 [a] h)) r (λs h r=>eC 25 r (λr=>eT k (λs h=>zd (zc9.l2 C (zc7 16 (.str []) 0) Q Y1 (s 0) (s 4)) [(s 3),(.int .i64 1)] h) r (λs h r=>eS k (λs h=>B.pv (V.zhj (zc7 16 (.str []) 0).es (s 0) (some (s 3)) none) λc=>B.clr h (zc7 16 (.str []) 0).z c λ_ h=>B.pv (V.zhj (zc7 16 (.str []) 0).es (s 0) none (some (s 3))) λd=>Q d h) (eT k (λs h=>zd (zc9.l2 C (zc7 16 (.str []) 0) Q Y1 (s 0) (s 4)) [(s 3),(s 5)] h) r (λs h r=>eK (eL k [0,4] [3,5] (on2 (zc9.l2 C (zc7 16 (.str []) 0) Q Y1)) r (λY2 s h r=>e1 r)))) (λs h r=>e1 r))) (λr=>e1 r)))) (λs h r=>e1 r)))))) (λs h r=>e1 r)))
theorem zbx.imp:zbx.Imp (AC P) N:=λa h Q r=>eF mixed (fn:=Tryz.f42) (λk=>zbx.L k (dn Q) (zbz [a]) h r)
def zf9.I:Bx:=⟨[2,3],[9,11,16,18],22,[]⟩
theorem zf9.L:LkT P zf9.I Tryz.f43 λC Q s h=>zf9.cps C N (s 0) (s 1) h Q:=λ{C} k Q s h r=>e1 r
theorem zf9.imp:zf9.Imp (AC P) N:=λa b h Q r=>eF mixed (fn:=Tryz.f43) (λk=>zf9.L k (dn Q) (zbz [a,b]) h r)
def zfg.I:Bx:=⟨[2,3],[5,7,11,13,18,20,25,27],31,[]⟩
theorem zfg.L:LkT P zfg.I Tryz.f44 λC Q s h=>zfg.cps C N (s 0) (s 1) h Q:=λ{C} k Q s h r=>e1 r
theorem zfg.imp:zfg.Imp (AC P) N:=λa b h Q r=>eF mixed (fn:=Tryz.f44) (λk=>zfg.L k (dn Q) (zbz [a,b]) h r)
def zf7.I:Bx:=⟨[1],[2,5],8,[]⟩
theorem zf7.L:LkT P zf7.I Tryz.f45 λC Q s h=>zf7.cps C N (s 0) h Q:=λ{C} k Q s h r=>e1 r
theorem zf7.imp:zf7.Imp (AC P) N:=λa h Q r=>eF mixed (fn:=Tryz.f45) (λk=>zf7.L k (dn Q) (zbz [a]) h r)
def zeg.I:Bx:=⟨[],[],19,[]⟩
theorem zeg.L:LkT P zeg.I Tryz.f46 λC Q s h=>zeg.cps C N (s 0) h Q:=λ{C} k Q s h r=>eT k (λs h=>zd (zeg.l2 C N Q (s 0)) [.zbj,(.int .i64 0)] h) r (λs h r=>eT k (λs h=>zd (zeg.l2 C N Q (s 0)) [(s 3),(.int .i64 0)] h) r (λs h r=>eS k (λs h=>Q (s 3) h) (eT k (λs h=>zd (zeg.l2 C N Q (s 0)) [(s 3),(s 4)] h) r (λs h r=>eK (eL k [0] [3,4] (on1 (zeg.l2 C N Q)) r (λY1 s h r=>e1 r)))) (λs h r=>e1 r)))
theorem zeg.imp:zeg.Imp (AC P) N:=λa h Q r=>eF mixed (fn:=Tryz.f46) (λk=>zeg.L k (dn Q) (zbz [a]) h r)
def zf1.I:Bx:=⟨[],[],18,[]⟩
theorem zf1.L:LkT P zf1.I Tryz.f47 λC Q s h=>zf1.cps C N (s 0) (s 1) h Q:=λ{C} k Q s h r=>eT k (λs h=>zd (zf1.l2 C N Q (s 0) (s 1)) [(.int .i64 0)] h) r (λs h r=>eS k (λs h=>Q (.bool false) h) (eT k (λs h=>zd (zf1.l2 C N Q (s 0) (s 1)) [(s 5)] h) r (λs h r=>eK (eL k [0,1] [5] (on2 (zf1.l2 C N Q)) r (λY1 s h r=>e1 r)))) (λs h r=>e1 r))
theorem zf1.imp:zf1.Imp (AC P) N:=λa b h Q r=>eF mixed (fn:=Tryz.f47) (λk=>zf1.L k (dn Q) (zbz [a,b]) h r)
def zcb.I:Bx:=⟨[],[],54,[]⟩
theorem zcb.L:LkT P zcb.I Tryz.f48 λC Q s h=>zcb.cps C N (s 0) (s 1) h Q:=λ{C} k Q s h r=>eT k (λs h=>zcb.k7 C N Q (s 0) (s 1) h) r (λs h r=>eT k (λs h=>B.zg1 h (zed [(0,none,(s 1))] (zfs 1 [.str []])) λa h=>zd (zcb.l6 C N Q (s 0) (s 5)) [(.sl a 0 0 1 1 1),(.int .i64 0)] h) r (λs h r=>eT k (λs h=>zd (zcb.l6 C N Q (s 0) (s 5)) [(s 6),(.int .i64 0)] h) r (λs h r=>eS k (λs h=>Q (s 6) h) (eT k (λs h=>zd (zcb.l6 C N Q (s 0) (s 5)) [(s 6),(s 7)] h) r (λs h r=>eK (eL k [0,5] [6,7] (on2 (zcb.l6 C N Q)) r (λY1 s h r=>eT k (λs h=>B.pv (V.zbi (s 6)) λb=>zd (zcb.l4 C N Q Y1 (s 0) (s 5) b) [(s 6),(.int .i64 0)] h) r (λs h r=>eK (eT k (λs h=>zd (zcb.l4 C N Q Y1 (s 0) (s 5) (s 7)) [(s 6),(.int .i64 0)] h) r (λs h r=>eT k (λs h=>zd (zcb.l4 C N Q Y1 (s 0) (s 5) (s 7)) [(s 6),(s 8)] h) r (λs h r=>eK (eL k [0,5,7] [6,8] (on3 (zcb.l4 C N Q Y1)) r (λY2 s h r=>eT k (λs h=>zcb.k3 C N Q Y1 Y2 (s 0) (s 5) (s 6) (s 7) (s 8) h) r (λs h r=>eS k (λs h=>B.pv (V.bin .add (s 8) (.int .i64 1)) λc=>Y2 [(s 6),c] h) (eK (eT k (λs h=>zd (zcb.l2 C N Q Y1 Y2 (s 0) (s 5) (s 7) (s 8) (s 9) (s 10)) [(s 6),(.int .i64 0)] h) r (λs h r=>eT k (λs h=>zd (zcb.l2 C N Q Y1 Y2 (s 0) (s 5) (s 7) (s 8) (s 9) (s 10)) [(s 6),(s 11)] h) r (λs h r=>eK (eL k [0,5,7,8,9,10] [6,11] (on6 (zcb.l2 C N Q Y1 Y2)) r (λY3 s h r=>e1 r)))))) (λs h r=>e1 r)))))))))))) (λs h r=>e1 r))))
theorem zcb.imp:zcb.Imp (AC P) N:=λa b h Q r=>eF mixed (fn:=Tryz.f48) (λk=>zcb.L k (dn Q) (zbz [a,b]) h r)
def zej.I:Bx:=⟨[],[],48,[]⟩
theorem zej.L:LkT P zej.I Tryz.f49 λC Q s h=>zej.cps C N (s 0) (s 1) h Q:=λ{C} k Q s h r=>eT k (λs h=>zd (zej.l3 C N Q (s 0) (s 1)) [(.int .i64 0)] h) r (λs h r=>eT k (λs h=>zd (zej.l3 C N Q (s 0) (s 1)) [(s 5)] h) r (λs h r=>eS k (λs h=>zej.k1 C N Q (s 0) (s 1) (s 5) h) (eK (eL k [0,1] [5] (on2 (zej.l3 C N Q)) r (λY1 s h r=>e1 r))) (λs h r=>e1 r)))
theorem zej.imp:zej.Imp (AC P) N:=λa b h Q r=>eF mixed (fn:=Tryz.f49) (λk=>zej.L k (dn Q) (zbz [a,b]) h r)
def ze8.I:Bx:=⟨[],[],14,[]⟩
theorem ze8.L:LkT P ze8.I Tryz.f50 λC Q s h=>ze8.cps C N (s 0) (s 1) h Q:=λ{C} k Q s h r=>e1 r
theorem ze8.imp:ze8.Imp (AC P) N:=λa b h Q r=>eF mixed (fn:=Tryz.f50) (λk=>ze8.L k (dn Q) (zbz [a,b]) h r)
def ze0.I:Bx:=⟨[],[],162,[]⟩
theorem ze0.L:LkT P ze0.I Tryz.f51 λC Q s h=>ze0.cps C N (s 0) h Q:=λ{C} k Q s h r=>e1 r
theorem ze0.imp:ze0.Imp (AC P) N:=λa h Q r=>eF mixed (fn:=Tryz.f51) (λk=>ze0.L k (dn Q) (zbz [a]) h r)
def zfz.I:Bx:=⟨[],[],25,[]⟩
theorem zfz.L:LkT P zfz.I Tryz.f52 λC Q s h=>zfz.cps C N (s 0) h Q:=λ{C} k Q s h r=>eT k (λs h=>zfz.k3 C N Q (s 0) h) r (λs h r=>eT k (λs h=>B.zif h 6 56 (s 3) (s 0) λa h=>zd (zo2.l4 C 6 56 (N 77) [.int .i64 0,.str [],.int .i64 0,.int .i64 0,.int .i64 0,.bool false] 1 Q (s 0)) [a,(.int .i64 0)] h) r (λs h r=>eT k (λs h=>zd (zo2.l4 C 6 56 (N 77) [.int .i64 0,.str [],.int .i64 0,.int .i64 0,.int .i64 0,.bool false] 1 Q (s 0)) [(s 3),(.int .i64 0)] h) r (λs h r=>eS k (λs h=>B.pv (V.zbi (s 0)) λb=>B.pv (V.zhj 6 (s 3) none (some b)) λc=>Q c h) (eT k (λs h=>zd (zo2.l4 C 6 56 (N 77) [.int .i64 0,.str [],.int .i64 0,.int .i64 0,.int .i64 0,.bool false] 1 Q (s 0)) [(s 3),(s 4)] h) r (λs h r=>eK (eL k [0] [3,4] (on1 (zo2.l4 C 6 56 (N 77) [.int .i64 0,.str [],.int .i64 0,.int .i64 0,.int .i64 0,.bool false] 1 Q)) r (λY1 s h r=>e1 r)))) (λs h r=>e1 r))))
theorem zfz.imp:zfz.Imp (AC P) N:=λa h Q r=>eF mixed (fn:=Tryz.f52) (λk=>zfz.L k (dn Q) (zbz [a]) h r)
def ze4.I:Bx:=⟨[],[],25,[]⟩
theorem ze4.L:LkT P ze4.I Tryz.f53 λC Q s h=>ze4.cps C N (s 0) h Q:=λ{C} k Q s h r=>eT k (λs h=>ze4.k3 C N Q (s 0) h) r (λs h r=>eT k (λs h=>B.zif h 8 80 (s 3) (s 0) λa h=>zd (zo2.l4 C 8 80 (N 111) [.int .i64 0,.str [],.int .i64 0,.int .i64 0,.int .i64 0,.int .u8 0,.int .i64 0,.str []] 1 Q (s 0)) [a,(.int .i64 0)] h) r (λs h r=>eT k (λs h=>zd (zo2.l4 C 8 80 (N 111) [.int .i64 0,.str [],.int .i64 0,.int .i64 0,.int .i64 0,.int .u8 0,.int .i64 0,.str []] 1 Q (s 0)) [(s 3),(.int .i64 0)] h) r (λs h r=>eS k (λs h=>B.pv (V.zbi (s 0)) λb=>B.pv (V.zhj 8 (s 3) none (some b)) λc=>Q c h) (eT k (λs h=>zd (zo2.l4 C 8 80 (N 111) [.int .i64 0,.str [],.int .i64 0,.int .i64 0,.int .i64 0,.int .u8 0,.int .i64 0,.str []] 1 Q (s 0)) [(s 3),(s 4)] h) r (λs h r=>eK (eL k [0] [3,4] (on1 (zo2.l4 C 8 80 (N 111) [.int .i64 0,.str [],.int .i64 0,.int .i64 0,.int .i64 0,.int .u8 0,.int .i64 0,.str []] 1 Q)) r (λY1 s h r=>e1 r)))) (λs h r=>e1 r))))
theorem ze4.imp:ze4.Imp (AC P) N:=λa h Q r=>eF mixed (fn:=Tryz.f53) (λk=>ze4.L k (dn Q) (zbz [a]) h r)
def zbd.I:Bx:=⟨[],[],9,[]⟩
theorem zbd.L:LkT P zbd.I Tryz.f54 λC Q s h=>zbd.cps C N (s 0) (s 1) h Q:=λ{C} k Q s h r=>e1 r
theorem zbd.imp:zbd.Imp (AC P) N:=λa b h Q r=>eF mixed (fn:=Tryz.f54) (λk=>zbd.L k (dn Q) (zbz [a,b]) h r)
def zfr.I:Bx:=⟨[2],[4],9,[]⟩
theorem zfr.L:LkT P zfr.I Tryz.f55 λC Q s h=>zfr.cps C N (s 0) (s 1) h Q:=λ{C} k Q s h r=>e1 r
theorem zfr.imp:zfr.Imp (AC P) N:=λa b h Q r=>eF mixed (fn:=Tryz.f55) (λk=>zfr.L k (dn Q) (zbz [a,b]) h r)
def zga.I:Bx:=⟨[],[],15,[]⟩
theorem zga.L:LkT P zga.I Tryz.f56 λC Q s h=>zga.cps C N (s 0) (s 1) h Q:=λ{C} k Q s h r=>e1 r
theorem zga.imp:zga.Imp (AC P) N:=λa b h Q r=>eF mixed (fn:=Tryz.f56) (λk=>zga.L k (dn Q) (zbz [a,b]) h r)
def zbe.I:Bx:=⟨[],[],19,[]⟩
abbrev zbe.E:z8:=ztv 6 56 [.int .i64 0,.str [],.int .i64 0,.int .i64 0,.int .i64 0,.bool false] 0 []
theorem zbe.L:LkT P zbe.I Tryz.f57 λC Q s h=>zbe.cps C N (s 0) (s 1) h Q:=λ{C} k Q s h r=>eT k (λs h=>B.pv (V.zbi (s 0)) λa=>zd (zcq.l2 C zbe.E Q (s 0) (s 1) a) [(.int .i64 0)] h) r (λs h r=>eS k (λs h=>Q (.int .i64 (-1)) h) (eT k (λs h=>zd (zcq.l2 C zbe.E Q (s 0) (s 1) (s 7)) [(s 8)] h) r (λs h r=>eK (eL k [0,1,7] [8] (on3 (zcq.l2 C zbe.E Q)) r (λY1 s h r=>e1 r)))) (λs h r=>e1 r))
theorem zbe.imp:zbe.Imp (AC P) N:=λa b h Q r=>eF mixed (fn:=Tryz.f57) (λk=>zbe.L k (dn Q) (zbz [a,b]) h r)
def zfq.I:Bx:=⟨[2],[4],9,[]⟩
theorem zfq.L:LkT P zfq.I Tryz.f58 λC Q s h=>zfq.cps C N (s 0) (s 1) h Q:=λ{C} k Q s h r=>e1 r
theorem zfq.imp:zfq.Imp (AC P) N:=λa b h Q r=>eF mixed (fn:=Tryz.f58) (λk=>zfq.L k (dn Q) (zbz [a,b]) h r)
def z9.I:Bx:=⟨[],[],19,[]⟩
abbrev z9.E:z8:=ztv 8 80 [.int .i64 0,.str [],.int .i64 0,.int .i64 0,.int .i64 0,.int .u8 0,.int .i64 0,.str []] 0 []
theorem z9.L:LkT P z9.I Tryz.f59 λC Q s h=>z9.cps C N (s 0) (s 1) h Q:=λ{C} k Q s h r=>eT k (λs h=>B.pv (V.zbi (s 0)) λa=>zd (zcq.l2 C z9.E Q (s 0) (s 1) a) [(.int .i64 0)] h) r (λs h r=>eS k (λs h=>Q (.int .i64 (-1)) h) (eT k (λs h=>zd (zcq.l2 C z9.E Q (s 0) (s 1) (s 7)) [(s 8)] h) r (λs h r=>eK (eL k [0,1,7] [8] (on3 (zcq.l2 C z9.E Q)) r (λY1 s h r=>e1 r)))) (λs h r=>e1 r))
theorem z9.imp:z9.Imp (AC P) N:=λa b h Q r=>eF mixed (fn:=Tryz.f59) (λk=>z9.L k (dn Q) (zbz [a,b]) h r)
def zfp.I:Bx:=⟨[2],[4],9,[]⟩
theorem zfp.L:LkT P zfp.I Tryz.f60 λC Q s h=>zfp.cps C N (s 0) (s 1) h Q:=λ{C} k Q s h r=>e1 r
theorem zfp.imp:zfp.Imp (AC P) N:=λa b h Q r=>eF mixed (fn:=Tryz.f60) (λk=>zfp.L k (dn Q) (zbz [a,b]) h r)
def zby.I:Bx:=⟨[],[],9,[]⟩
theorem zby.L:LkT P zby.I Tryz.f61 λC Q s h=>zby.cps C N (s 0) (s 1) h Q:=λ{C} k Q s h r=>e1 r
theorem zby.imp:zby.Imp (AC P) N:=λa b h Q r=>eF mixed (fn:=Tryz.f61) (λk=>zby.L k (dn Q) (zbz [a,b]) h r)
def zb0.I:Bx:=⟨[],[],8,[]⟩
theorem zb0.L:LkT P zb0.I Tryz.f62 λC Q s h=>zb0.cps C N (s 0) h Q:=λ{C} k Q s h r=>e1 r
theorem zb0.imp:zb0.Imp (AC P) N:=λa h Q r=>eF mixed (fn:=Tryz.f62) (λk=>zb0.L k (dn Q) (zbz [a]) h r)
def zez.I:Bx:=⟨[],[],58,[(7,pz [(30,[25])] 35)]⟩
theorem zez.L:LkT P zez.I Tryz.f63 λC Q s h=>zez.cps C N (s 0) (s 1) h Q:=λ{C} k Q s h r=>eT k (λs h=>zez.k4 C N Q (s 0) (s 1) h) r (λs h r=>eT k (λs h=>zez.k3 C N Q (s 0) (s 1) h) r (λs h r=>eT k (λs h=>zd (zqu.l4 C 6 (N 77) [.i .i64,.s,.i .i64,.i .i64,.i .i64,.b] 1 Q (s 1) (s 5)) [(.int .i64 0)] h) r (λs h r=>eS k (λs h=>Q (.bool true) h) (eT k (λs h=>zd (zqu.l4 C 6 (N 77) [.i .i64,.s,.i .i64,.i .i64,.i .i64,.b] 1 Q (s 1) (s 5)) [(s 6)] h) r (λs h r=>eK (eL k [1,5] [6] (on2 (zqu.l4 C 6 (N 77) [.i .i64,.s,.i .i64,.i .i64,.i .i64,.b] 1 Q)) r (λY1 s h r=>e1 r)))) (λs h r=>e1 r))))
theorem zez.imp:zez.Imp (AC P) N:=λa b h Q r=>eF mixed (fn:=Tryz.f63) (λk=>zez.L k (dn Q) (zbz [a,b]) h r)
def zem.I:Bx:=⟨[],[],58,[(7,pz [(30,[25])] 35)]⟩
theorem zem.L:LkT P zem.I Tryz.f64 λC Q s h=>zem.cps C N (s 0) (s 1) h Q:=λ{C} k Q s h r=>eT k (λs h=>zem.k4 C N Q (s 0) (s 1) h) r (λs h r=>eT k (λs h=>zem.k3 C N Q (s 0) (s 1) h) r (λs h r=>eT k (λs h=>zd (zqu.l4 C 8 (N 111) [.i .i64,.s,.i .i64,.i .i64,.i .i64,.i .u8,.i .i64,.s] 1 Q (s 1) (s 5)) [(.int .i64 0)] h) r (λs h r=>eS k (λs h=>Q (.bool true) h) (eT k (λs h=>zd (zqu.l4 C 8 (N 111) [.i .i64,.s,.i .i64,.i .i64,.i .i64,.i .u8,.i .i64,.s] 1 Q (s 1) (s 5)) [(s 6)] h) r (λs h r=>eK (eL k [1,5] [6] (on2 (zqu.l4 C 8 (N 111) [.i .i64,.s,.i .i64,.i .i64,.i .i64,.i .u8,.i .i64,.s] 1 Q)) r (λY1 s h r=>e1 r)))) (λs h r=>e1 r))))
theorem zem.imp:zem.Imp (AC P) N:=λa b h Q r=>eF mixed (fn:=Tryz.f64) (λk=>zem.L k (dn Q) (zbz [a,b]) h r)
def zf6.I:Bx:=⟨[],[],20,[]⟩
theorem zf6.L:LkT P zf6.I Tryz.f65 λC Q s h=>zf6.cps C N (s 0) h Q:=λ{C} k Q s h r=>eT k (λs h=>zd (zn0.l3 C 6 (N 77) (λh p v K=>B.stn h p 6 v K) 2 Q (s 2)) [(.int .i64 0)] h) r (λs h r=>eT k (λs h=>zd (zn0.l3 C 6 (N 77) (λh p v K=>B.stn h p 6 v K) 2 Q (s 2)) [(s 3)] h) r (λs h r=>eK (eL k [2] [3] (λkv lv h Y1=>match kv with|[a]=>zn0.l3 C 6 (N 77) (λh p v K=>B.stn h p 6 v K) 2 Q a lv h Y1|_=>False) r (λY1 s h r=>e1 r))))
theorem zf6.imp:zf6.Imp (AC P) N:=λa h Q r=>eF mixed (fn:=Tryz.f65) (λk=>zf6.L k (dn Q) (zbz [a]) h r)
def zfm.I:Bx:=⟨[],[],20,[]⟩
theorem zfm.L:LkT P zfm.I Tryz.f66 λC Q s h=>zfm.cps C N (s 0) h Q:=λ{C} k Q s h r=>eT k (λs h=>zd (zn0.l3 C 8 (N 111) (λh p v K=>B.stn h p 8 v K) 2 Q (s 2)) [(.int .i64 0)] h) r (λs h r=>eT k (λs h=>zd (zn0.l3 C 8 (N 111) (λh p v K=>B.stn h p 8 v K) 2 Q (s 2)) [(s 3)] h) r (λs h r=>eK (eL k [2] [3] (λkv lv h Y1=>match kv with|[a]=>zn0.l3 C 8 (N 111) (λh p v K=>B.stn h p 8 v K) 2 Q a lv h Y1|_=>False) r (λY1 s h r=>e1 r))))
theorem zfm.imp:zfm.Imp (AC P) N:=λa h Q r=>eF mixed (fn:=Tryz.f66) (λk=>zfm.L k (dn Q) (zbz [a]) h r)
def zd4.I:Bx:=⟨[],[],27,[(6,pz [] 10)]⟩
theorem zd4.L:LkT P zd4.I Tryz.f67 λC Q s h=>zd4.cps C N (s 0) (s 1) h Q:=λ{C} k Q s h r=>eT k (λs h=>zd4.k3 C N Q (s 0) (s 1) h) r (λs h r=>eT k (λs h=>zd (zd4.l2 C N Q (s 0) (s 1)) [(.int .i64 0)] h) r (λs h r=>eS k (λs h=>Q (.bool true) h) (eT k (λs h=>zd (zd4.l2 C N Q (s 0) (s 1)) [(s 5)] h) r (λs h r=>eK (eL k [0,1] [5] (on2 (zd4.l2 C N Q)) r (λY1 s h r=>e1 r)))) (λs h r=>e1 r)))
theorem zd4.imp:zd4.Imp (AC P) N:=λa b h Q r=>eF mixed (fn:=Tryz.f67) (λk=>zd4.L k (dn Q) (zbz [a,b]) h r)
def zfy.I:Bx:=⟨[],[],26,[(6,pz [] 9)]⟩
theorem zfy.L:LkT P zfy.I Tryz.f68 λC Q s h=>zfy.cps C N (s 0) (s 1) h Q:=λ{C} k Q s h r=>eT k (λs h=>zfy.k3 C N Q (s 0) (s 1) h) r (λs h r=>eT k (λs h=>zd (zql.l4 6 [.i .i64,.s,.i .i64,.i .i64,.i .i64,.b] Q (s 0) (s 1)) [(.int .i64 0)] h) r (λs h r=>eS k (λs h=>Q (.bool true) h) (eT k (λs h=>zd (zql.l4 6 [.i .i64,.s,.i .i64,.i .i64,.i .i64,.b] Q (s 0) (s 1)) [(s 5)] h) r (λs h r=>eK (eL k [0,1] [5] (on2 (zql.l4 6 [.i .i64,.s,.i .i64,.i .i64,.i .i64,.b] Q)) r (λY1 s h r=>e1 r)))) (λs h r=>e1 r)))
theorem zfy.imp:zfy.Imp (AC P) N:=λa b h Q r=>eF mixed (fn:=Tryz.f68) (λk=>zfy.L k (dn Q) (zbz [a,b]) h r)
def ze2.I:Bx:=⟨[],[],26,[(6,pz [] 9)]⟩
theorem ze2.L:LkT P ze2.I Tryz.f69 λC Q s h=>ze2.cps C N (s 0) (s 1) h Q:=λ{C} k Q s h r=>eT k (λs h=>ze2.k3 C N Q (s 0) (s 1) h) r (λs h r=>eT k (λs h=>zd (zql.l4 8 [.i .i64,.s,.i .i64,.i .i64,.i .i64,.i .u8,.i .i64,.s] Q (s 0) (s 1)) [(.int .i64 0)] h) r (λs h r=>eS k (λs h=>Q (.bool true) h) (eT k (λs h=>zd (zql.l4 8 [.i .i64,.s,.i .i64,.i .i64,.i .i64,.i .u8,.i .i64,.s] Q (s 0) (s 1)) [(s 5)] h) r (λs h r=>eK (eL k [0,1] [5] (on2 (zql.l4 8 [.i .i64,.s,.i .i64,.i .i64,.i .i64,.i .u8,.i .i64,.s] Q)) r (λY1 s h r=>e1 r)))) (λs h r=>e1 r)))
theorem ze2.imp:ze2.Imp (AC P) N:=λa b h Q r=>eF mixed (fn:=Tryz.f69) (λk=>ze2.L k (dn Q) (zbz [a,b]) h r)
def zdf.I:Bx:=⟨[],[],27,[]⟩
theorem zdf.L:LkT P zdf.I Tryz.f70 λC Q s h=>zdf.cps C N (s 0) (s 1) h Q:=λ{C} k Q s h r=>eT k (λs h=>zd (zdf.l2 C N Q (s 0) (s 1)) [(.int .i64 0)] h) r (λs h r=>eT k (λs h=>zd (zdf.l2 C N Q (s 0) (s 1)) [(s 4)] h) r (λs h r=>eK (eL k [0,1] [4] (on2 (zdf.l2 C N Q)) r (λY1 s h r=>e1 r))))
theorem zdf.imp:zdf.Imp (AC P) N:=λa b h Q r=>eF mixed (fn:=Tryz.f70) (λk=>zdf.L k (dn Q) (zbz [a,b]) h r)
def ze3.I:Bx:=⟨[],[],25,[]⟩
theorem ze3.L:LkT P ze3.I Tryz.f71 λC Q s h=>ze3.cps C N (s 0) h Q:=λ{C} k Q s h r=>eT k (λs h=>ze3.k3 C N Q (s 0) h) r (λs h r=>eT k (λs h=>B.zif h 2 24 (s 3) (s 0) λa h=>zd (zo2.l4 C 2 24 (N 108) [.str [],.int .i64 0] 1 Q (s 0)) [a,(.int .i64 0)] h) r (λs h r=>eT k (λs h=>zd (zo2.l4 C 2 24 (N 108) [.str [],.int .i64 0] 1 Q (s 0)) [(s 3),(.int .i64 0)] h) r (λs h r=>eS k (λs h=>B.pv (V.zbi (s 0)) λb=>B.pv (V.zhj 2 (s 3) none (some b)) λc=>Q c h) (eT k (λs h=>zd (zo2.l4 C 2 24 (N 108) [.str [],.int .i64 0] 1 Q (s 0)) [(s 3),(s 4)] h) r (λs h r=>eK (eL k [0] [3,4] (on1 (zo2.l4 C 2 24 (N 108) [.str [],.int .i64 0] 1 Q)) r (λY1 s h r=>e1 r)))) (λs h r=>e1 r))))
theorem ze3.imp:ze3.Imp (AC P) N:=λa h Q r=>eF mixed (fn:=Tryz.f71) (λk=>ze3.L k (dn Q) (zbz [a]) h r)
def zhl.I:Bx:=⟨[],[],10,[]⟩
theorem zhl.L:LkT P zhl.I Tryz.f72 λC Q s h=>zhl.cps C N (s 0) (s 1) h Q:=λ{C} k Q s h r=>e1 r
theorem zhl.imp:zhl.Imp (AC P) N:=λa b h Q r=>eF mixed (fn:=Tryz.f72) (λk=>zhl.L k (dn Q) (zbz [a,b]) h r)
def zc6.I:Bx:=⟨[],[],13,[]⟩
theorem zc6.L:LkT P zc6.I Tryz.f73 λC Q s h=>zc6.cps C N (s 0) (s 1) h Q:=λ{C} k Q s h r=>eT k (λs h=>zd (zc6.l2 C N Q (s 1)) [(s 0)] h) r (λs h r=>eS k (λs h=>Q (s 0) h) (eK (eL k [1] [0] (on1 (zc6.l2 C N Q)) r (λY1 s h r=>e1 r))) (λs h r=>e1 r))
theorem zc6.imp:zc6.Imp (AC P) N:=λa b h Q r=>eF mixed (fn:=Tryz.f73) (λk=>zc6.L k (dn Q) (zbz [a,b]) h r)
def zd8.I:Bx:=⟨[],[],22,[(2,[(0,[]),(1,[]),(2,[]),(4,[]),(5,[]),(3,[0,4]),(6,[0]),(7,[])])]⟩
theorem zd8.L:LkT P zd8.I Tryz.f74 λC Q s h=>zd8.cps C N (s 0) (s 1) (s 2) (s 3) h Q:=λ{C} k Q s h r=>e1 r
theorem zd8.imp:zd8.Imp (AC P) N:=λa b c d h Q r=>eF mixed (fn:=Tryz.f74) (λk=>zd8.L k (dn Q) (zbz [a,b,c,d]) h r)
def zdp.I:Bx:=⟨[],[],134,[(17,pz [] 15)]⟩
theorem zdp.L:LkT P zdp.I Tryz.f75 λC Q s h=>zdp.cps C N (s 0) (s 1) (s 2) (s 3) h Q:=λ{C} k Q s h r=>eT k (λs h=>zd (zbg.l8 C (zc7 16 (.str []) 0) (N 377) (N 378) (N 379) (N 375) (N 380) (N 381) (N 382) (N 383) (N 384) (N 385) Q (s 0)) [(s 1),(s 2),(s 3),(s 8),(.bool true)] h) r (λs h r=>eT k (λs h=>zd (zbg.l8 C (zc7 16 (.str []) 0) (N 377) (N 378) (N 379) (N 375) (N 380) (N 381) (N 382) (N 383) (N 384) (N 385) Q (s 0)) [(s 1),(s 2),(s 3),(s 8),(s 9)] h) r (λs h r=>eK (eL k [0] [1,2,3,8,9] (on1 (zbg.l8 C (zc7 16 (.str []) 0) (N 377) (N 378) (N 379) (N 375) (N 380) (N 381) (N 382) (N 383) (N 384) (N 385) Q)) r (λY1 s h r=>eK (eT k (λs h=>zbg.k7 C (zc7 16 (.str []) 0) (N 377) (N 378) (N 379) (N 375) (N 380) (N 381) (N 382) (N 383) (N 384) (N 385) Q Y1 (s 0) (s 1) (s 2) (s 3) (s 8) (s 9) (s 10) h) r (λs h r=>eT k (λs h=>zbg.k6 C (zc7 16 (.str []) 0) (N 377) (N 378) (N 379) (N 375) (N 380) (N 381) (N 382) (N 383) (N 384) (N 385) Q Y1 (s 0) (s 1) (s 2) (s 3) (s 8) (s 9) (s 10) h) r (λs h r=>eT k (λs h=>zbg.k5 C (zc7 16 (.str []) 0) (N 377) (N 378) (N 379) (N 375) (N 380) (N 381) (N 382) (N 383) (N 384) (N 385) Q Y1 (s 0) (s 1) (s 2) (s 3) (s 8) (s 9) (s 10) h) r (λs h r=>eT k (λs h=>zbg.k4 C (zc7 16 (.str []) 0) (N 377) (N 378) (N 379) (N 375) (N 380) (N 381) (N 382) (N 383) (N 384) (N 385) Q Y1 (s 0) (s 1) (s 2) (s 3) (s 8) (s 9) (s 10) h) r (λs h r=>eT k (λs h=>zbg.k3 C (zc7 16 (.str []) 0) (N 377) (N 378) (N 379) (N 375) (N 380) (N 381) (N 382) (N 383) (N 384) (N 385) Q Y1 (s 0) (s 1) (s 2) (s 3) (s 8) (s 9) (s 10) (s 11) (s 12) h) r (λs h r=>eT k (λs h=>zbg.k2 C (zc7 16 (.str []) 0) (N 377) (N 378) (N 379) (N 375) (N 380) (N 381) (N 382) (N 383) (N 384) (N 385) Q Y1 (s 0) (s 1) (s 2) (s 3) (s 8) (s 9) (s 10) (s 11) (s 12) h) r (λs h r=>eT k (λs h=>zbg.k1 C (zc7 16 (.str []) 0) (N 377) (N 378) (N 379) (N 375) (N 380) (N 381) (N 382) (N 383) (N 384) (N 385) Q Y1 (s 0) (s 1) (s 2) (s 3) (s 8) (s 9) (s 10) (s 11) h) r (λs h r=>e1 r))))))))))))
theorem zdp.imp:zdp.Imp (AC P) N:=λa b c d h Q r=>eF mixed (fn:=Tryz.f75) (λk=>zdp.L k (dn Q) (zbz [a,b,c,d]) h r)
def zfx.I:Bx:=⟨[],[],8,[]⟩
theorem zfx.L:LkT P zfx.I Tryz.f76 λC Q s h=>zfx.cps C N (s 0) h Q:=λ{C} k Q s h r=>e1 r
theorem zfx.imp:zfx.Imp (AC P) N:=λa h Q r=>eF mixed (fn:=Tryz.f76) (λk=>zfx.L k (dn Q) (zbz [a]) h r)
def zdq.I:Bx:=⟨[],[],148,[(17,pz [] 17)]⟩
theorem zdq.L:LkT P zdq.I Tryz.f77 λC Q s h=>zdq.cps C N (s 0) (s 1) (s 2) (s 3) (s 4) h Q:=λ{C} k Q s h r=>eT k (λs h=>zd (zq.l8 C (zc7 24 (.zbj) 0) (N 581) (N 582) (N 579) (N 583) (N 584) (N 585) (N 586) (N 587) (N 588) Q (s 0) (s 4)) [(s 1),(s 2),(s 3),(s 10),(.bool true)] h) r (λs h r=>eT k (λs h=>zd (zq.l8 C (zc7 24 (.zbj) 0) (N 581) (N 582) (N 579) (N 583) (N 584) (N 585) (N 586) (N 587) (N 588) Q (s 0) (s 4)) [(s 1),(s 2),(s 3),(s 10),(s 11)] h) r (λs h r=>eK (eL k [0,4] [1,2,3,10,11] (on2 (zq.l8 C (zc7 24 (.zbj) 0) (N 581) (N 582) (N 579) (N 583) (N 584) (N 585) (N 586) (N 587) (N 588) Q)) r (λY1 s h r=>eK (eT k (λs h=>zq.k7 C (zc7 24 (.zbj) 0) (N 581) (N 582) (N 579) (N 583) (N 584) (N 585) (N 586) (N 587) (N 588) Q Y1 (s 0) (s 1) (s 2) (s 3) (s 4) (s 10) (s 11) (s 12) h) r (λs h r=>eT k (λs h=>zq.k6 C (zc7 24 (.zbj) 0) (N 581) (N 582) (N 579) (N 583) (N 584) (N 585) (N 586) (N 587) (N 588) Q Y1 (s 0) (s 1) (s 2) (s 3) (s 4) (s 10) (s 11) (s 12) h) r (λs h r=>eT k (λs h=>zq.k5 C (zc7 24 (.zbj) 0) (N 581) (N 582) (N 579) (N 583) (N 584) (N 585) (N 586) (N 587) (N 588) Q Y1 (s 0) (s 1) (s 2) (s 3) (s 4) (s 10) (s 11) (s 12) h) r (λs h r=>eT k (λs h=>zq.k4 C (zc7 24 (.zbj) 0) (N 581) (N 582) (N 579) (N 583) (N 584) (N 585) (N 586) (N 587) (N 588) Q Y1 (s 0) (s 1) (s 2) (s 3) (s 4) (s 10) (s 11) (s 12) h) r (λs h r=>eT k (λs h=>zq.k3 C (zc7 24 (.zbj) 0) (N 581) (N 582) (N 579) (N 583) (N 584) (N 585) (N 586) (N 587) (N 588) Q Y1 (s 0) (s 1) (s 2) (s 3) (s 4) (s 10) (s 11) (s 12) (s 13) (s 14) h) r (λs h r=>eT k (λs h=>zq.k2 C (zc7 24 (.zbj) 0) (N 581) (N 582) (N 579) (N 583) (N 584) (N 585) (N 586) (N 587) (N 588) Q Y1 (s 0) (s 1) (s 2) (s 3) (s 4) (s 10) (s 11) (s 12) (s 13) (s 14) h) r (λs h r=>eT k (λs h=>zq.k1 C (zc7 24 (.zbj) 0) (N 581) (N 582) (N 579) (N 583) (N 584) (N 585) (N 586) (N 587) (N 588) Q Y1 (s 0) (s 1) (s 2) (s 3) (s 4) (s 10) (s 11) (s 12) (s 13) h) r (λs h r=>e1 r))))))))))))
theorem zdq.imp:zdq.Imp (AC P) N:=λa b c d e h Q r=>eF mixed (fn:=Tryz.f77) (λk=>zdq.L k (dn Q) (zbz [a,b,c,d,e]) h r)
def zda.I:Bx:=⟨[],[],20,[]⟩
theorem zda.L:LkT P zda.I Tryz.f78 λC Q s h=>zda.cps C N (s 0) (s 1) h Q:=λ{C} k Q s h r=>e1 r
theorem zda.imp:zda.Imp (AC P) N:=λa b h Q r=>eF mixed (fn:=Tryz.f78) (λk=>zda.L k (dn Q) (zbz [a,b]) h r)
def zel.I:Bx:=⟨[],[],58,[(7,pz [(30,[25])] 35)]⟩
theorem zel.L:LkT P zel.I Tryz.f79 λC Q s h=>zel.cps C N (s 0) (s 1) h Q:=λ{C} k Q s h r=>eT k (λs h=>zel.k4 C N Q (s 0) (s 1) h) r (λs h r=>eT k (λs h=>zel.k3 C N Q (s 0) (s 1) h) r (λs h r=>eT k (λs h=>zd (zqu.l4 C 2 (N 108) [.s,.i .i64] 1 Q (s 1) (s 5)) [(.int .i64 0)] h) r (λs h r=>eS k (λs h=>Q (.bool true) h) (eT k (λs h=>zd (zqu.l4 C 2 (N 108) [.s,.i .i64] 1 Q (s 1) (s 5)) [(s 6)] h) r (λs h r=>eK (eL k [1,5] [6] (on2 (zqu.l4 C 2 (N 108) [.s,.i .i64] 1 Q)) r (λY1 s h r=>e1 r)))) (λs h r=>e1 r))))
theorem zel.imp:zel.Imp (AC P) N:=λa b h Q r=>eF mixed (fn:=Tryz.f79) (λk=>zel.L k (dn Q) (zbz [a,b]) h r)
def ze1.I:Bx:=⟨[],[],26,[(6,pz [] 9)]⟩
theorem ze1.L:LkT P ze1.I Tryz.f80 λC Q s h=>ze1.cps C N (s 0) (s 1) h Q:=λ{C} k Q s h r=>eT k (λs h=>ze1.k3 C N Q (s 0) (s 1) h) r (λs h r=>eT k (λs h=>zd (zql.l4 2 [.s,.i .i64] Q (s 0) (s 1)) [(.int .i64 0)] h) r (λs h r=>eS k (λs h=>Q (.bool true) h) (eT k (λs h=>zd (zql.l4 2 [.s,.i .i64] Q (s 0) (s 1)) [(s 5)] h) r (λs h r=>eK (eL k [0,1] [5] (on2 (zql.l4 2 [.s,.i .i64] Q)) r (λY1 s h r=>e1 r)))) (λs h r=>e1 r)))
theorem ze1.imp:ze1.Imp (AC P) N:=λa b h Q r=>eF mixed (fn:=Tryz.f80) (λk=>ze1.L k (dn Q) (zbz [a,b]) h r)
def zfl.I:Bx:=⟨[],[],20,[]⟩
theorem zfl.L:LkT P zfl.I Tryz.f81 λC Q s h=>zfl.cps C N (s 0) h Q:=λ{C} k Q s h r=>eT k (λs h=>zd (zn0.l3 C 2 (N 108) (λh p v K=>B.stn h p 2 v K) 2 Q (s 2)) [(.int .i64 0)] h) r (λs h r=>eT k (λs h=>zd (zn0.l3 C 2 (N 108) (λh p v K=>B.stn h p 2 v K) 2 Q (s 2)) [(s 3)] h) r (λs h r=>eK (eL k [2] [3] (λkv lv h Y1=>match kv with|[a]=>zn0.l3 C 2 (N 108) (λh p v K=>B.stn h p 2 v K) 2 Q a lv h Y1|_=>False) r (λY1 s h r=>e1 r))))
theorem zfl.imp:zfl.Imp (AC P) N:=λa h Q r=>eF mixed (fn:=Tryz.f81) (λk=>zfl.L k (dn Q) (zbz [a]) h r)
def zb2.I:Bx:=⟨[3],[13,17,24,33],66,[]⟩
theorem zb2.L:LkT P zb2.I Tryz.f82 λC Q s h=>zb2.cps C N (s 0) (s 1) (s 2) h Q:=λ{C} k Q s h r=>eT k (λs h=>zb2.k6 C N Q (s 1) (s 2) (s 69) h) r (λs h r=>eT k (λs h=>zd (zb2.l5 C N Q (s 1) (s 2) (s 69)) [(s 8),(.int .i64 0)] h) r (λs h r=>eS k (λs h=>zb2.k3 C N Q (s 1) (s 2) (s 8) (s 69) h) (eT k (λs h=>zd (zb2.l5 C N Q (s 1) (s 2) (s 69)) [(s 8),(s 9)] h) r (λs h r=>eK (eL k [1,2,69] [8,9] (on3 (zb2.l5 C N Q)) r (λY2 s h r=>e1 r)))) (λs h r=>eT k (λs h=>zd (zb2.l2 C N Q (s 1) (s 2) (s 8)) [.zbj,(.bool false),(.int .i64 0)] h) r (λs h r=>eT k (λs h=>zd (zb2.l2 C N Q (s 1) (s 2) (s 8)) [(s 10),(.bool false),(.int .i64 0)] h) r (λs h r=>eT k (λs h=>zd (zb2.l2 C N Q (s 1) (s 2) (s 8)) [(s 10),(s 11),(.int .i64 0)] h) r (λs h r=>eS k (λs h=>Q (.tup [(s 11),(s 10)]) h) (eT k (λs h=>zd (zb2.l2 C N Q (s 1) (s 2) (s 8)) [(s 10),(s 11),(s 12)] h) r (λs h r=>eK (eL k [1,2,8] [10,11,12] (on3 (zb2.l2 C N Q)) r (λY1 s h r=>e1 r)))) (λs h r=>e1 r)))))))
theorem zb2.imp:zb2.Imp (AC P) N:=λa b c h Q r=>eF mixed (fn:=Tryz.f82) (λk=>zb2.L k (dn Q) (zbz [a,b,c]) h r)
def zhm.I:Bx:=⟨[],[],200,[(7,pz [(7,[3])] 11),(24,pz [(9,[3,6]),(31,[25,28])] 37),(41,pz [(9,[3,6]),(23,[17,20])] 28)]⟩
def zh6.I:Bx:=⟨[],[],193,[(7,pz [(7,[3])] 10),(24,pz [(9,[3,6]),(30,[24,27])] 35),(41,pz [(9,[3,6]),(22,[16,19])] 26)]⟩
def zhs.I:Bx:=⟨[],[],193,[(7,pz [(7,[3])] 10),(24,pz [(9,[3,6]),(30,[24,27])] 35),(41,pz [(9,[3,6]),(22,[16,19])] 26)]⟩
def zgx.I:Bx:=⟨[],[],193,[(7,pz [(7,[3])] 10),(24,pz [(9,[3,6]),(30,[24,27])] 35),(41,pz [(9,[3,6]),(22,[16,19])] 26)]⟩
theorem zgx.L:LkT P zgx.I Tryz.f86 λC Q s h=>zgx.cps C N (s 0) h Q:=λ{C} w Q s h r=>eT w (λs h=>zd (zy.zph (zc7 16 (.str []) (N 106)) C Q (s 0)) [(.int .i64 0)] h) r (λs h r=>eS w (λs h=>B.pv (V.zbi (s 0)) λb=>0<1 /\ B.mks h 24 (some [.zbj]) b b λf h=>zd (zy.l82 (zc7 16 (.str []) (N 106)) C Q (s 0) f) [(.int .i64 0)] h) (eT w (λs h=>zd (zy.zph (zc7 16 (.str []) (N 106)) C Q (s 0)) [(s 3)] h) r (λs h r=>eK (eL w [0] [3] (on1 (zy.zph (zc7 16 (.str []) (N 106)) C Q)) r (λY9 s h r=>eT w (λs h=>zd (zy.l93 (zc7 16 (.str []) (N 106)) C Q Y9 (s 0) (s 3)) [(.int .i64 0)] h) r (λs h r=>eS w (λs h=>B.pv (V.bin .add (s 3) (.int .i64 1)) λg=>Y9 [g] h) (eK (eT w (λs h=>zd (zy.l93 (zc7 16 (.str []) (N 106)) C Q Y9 (s 0) (s 3)) [(s 4)] h) r (λs h r=>eK (eL w [0,3] [4] (on2 (zy.l93 (zc7 16 (.str []) (N 106)) C Q Y9)) r (λY10 s h r=>e1 r))))) (λs h r=>e1 r)))))) (λs h r=>eT w (λs h=>zd (zy.l82 (zc7 16 (.str []) (N 106)) C Q (s 0) (s 5)) [(.int .i64 0)] h) r (λs h r=>eS w (λs h=>zd (zy.l59 (zc7 16 (.str []) (N 106)) C Q (s 0) (s 5)) [(.int .i64 0)] h) (eT w (λs h=>zd (zy.l82 (zc7 16 (.str []) (N 106)) C Q (s 0) (s 5)) [(s 6)] h) r (λs h r=>eK (eL w [0,5] [6] (on2 (zy.l82 (zc7 16 (.str []) (N 106)) C Q)) r (λY7 s h r=>eT w (λs h=>B.pv (V.zb3 1 (s 0) (s 6)) λi=>B.ld h i λj=>zd (zy.l69 (zc7 16 (.str []) (N 106)) C Q Y7 (s 0) (s 5) (s 6)) [j,(.int .i64 0)] h) r (λs h r=>eS w (λs h=>B.pv (V.bin .add (s 6) (.int .i64 1)) λa=>Y7 [a] h) (eK (eT w (λs h=>zd (zy.l69 (zc7 16 (.str []) (N 106)) C Q Y7 (s 0) (s 5) (s 6)) [(s 7),(.int .i64 0)] h) r (λs h r=>eS w (λs h=>B.pv (V.zb3 1 (s 5) (s 6)) λk=>B.st h k (s 7) λh=>B.pv (V.bin .add (s 6) (.int .i64 1)) λa=>Y7 [a] h) (eT w (λs h=>zd (zy.l69 (zc7 16 (.str []) (N 106)) C Q Y7 (s 0) (s 5) (s 6)) [(s 7),(s 8)] h) r (λs h r=>eK (eL w [0,5,6] [7,8] (on3 (zy.l69 (zc7 16 (.str []) (N 106)) C Q Y7)) r (λY8 s h r=>e1 r)))) (λs h r=>e1 r)))) (λs h r=>e1 r)))))) (λs h r=>eS w (λs h=>zd (zy.l40 (zc7 16 (.str []) (N 106)) C Q (s 0) (s 5)) [(.int .i64 0)] h) (eT w (λs h=>zd (zy.l59 (zc7 16 (.str []) (N 106)) C Q (s 0) (s 5)) [(s 9)] h) r (λs h r=>eK (eL w [0,5] [9] (on2 (zy.l59 (zc7 16 (.str []) (N 106)) C Q)) r (λY5 s h r=>eT w (λs h=>zd (zy.l49 (zc7 16 (.str []) (N 106)) C Q Y5 (s 0) (s 5) (s 9)) [(.int .i64 0)] h) r (λs h r=>eS w (λs h=>B.pv (V.bin .add (s 9) (.int .i64 1)) λl=>Y5 [l] h) (eK (eT w (λs h=>zd (zy.l49 (zc7 16 (.str []) (N 106)) C Q Y5 (s 0) (s 5) (s 9)) [(s 10)] h) r (λs h r=>eK (eL w [0,5,9] [10] (on3 (zy.l49 (zc7 16 (.str []) (N 106)) C Q Y5)) r (λY6 s h r=>e1 r))))) (λs h r=>e1 r)))))) (λs h r=>eS w (λs h=>zd (zy.l15 (zc7 16 (.str []) (N 106)) C Q (s 0) (s 5)) [(.int .i64 0)] h) (eT w (λs h=>zd (zy.l40 (zc7 16 (.str []) (N 106)) C Q (s 0) (s 5)) [(s 11)] h) r (λs h r=>eK (eL w [0,5] [11] (on2 (zy.l40 (zc7 16 (.str []) (N 106)) C Q)) r (λY3 s h r=>eT w (λs h=>0<1 /\ B.mks h 16 (some [.str []]) (.int .i64 64) (.int .i64 64) λc h=>zd (zy.l26 (zc7 16 (.str []) (N 106)) C Q Y3 (s 0) (s 5) (s 11) c) [(.int .i64 0)] h) r (λs h r=>eS w (λs h=>B.pv (V.bin .add (s 11) (.int .i64 1)) λd=>Y3 [d] h) (eK (eT w (λs h=>zd (zy.l26 (zc7 16 (.str []) (N 106)) C Q Y3 (s 0) (s 5) (s 11) (s 12)) [(.int .i64 0)] h) r (λs h r=>eS w (λs h=>zy.k22 (zc7 16 (.str []) (N 106)) C Q Y3 (s 0) (s 5) (s 11) (s 12) h) (eT w (λs h=>zd (zy.l26 (zc7 16 (.str []) (N 106)) C Q Y3 (s 0) (s 5) (s 11) (s 12)) [(s 13)] h) r (λs h r=>eK (eL w [0,5,11,12] [13] (on4 (zy.l26 (zc7 16 (.str []) (N 106)) C Q Y3)) r (λY4 s h r=>e1 r)))) (λs h r=>e1 r)))) (λs h r=>e1 r)))))) (λs h r=>eS w (λs h=>Q (.bool true) h) (eT w (λs h=>zd (zy.l15 (zc7 16 (.str []) (N 106)) C Q (s 0) (s 5)) [(s 14)] h) r (λs h r=>eK (eL w [0,5] [14] (on2 (zy.l15 (zc7 16 (.str []) (N 106)) C Q)) r (λY1 s h r=>eT w (λs h=>zd (zy.l5 (zc7 16 (.str []) (N 106)) C Q Y1 (s 0) (s 5) (s 14)) [(.int .i64 0)] h) r (λs h r=>eS w (λs h=>B.pv (V.bin .add (s 14) (.int .i64 1)) λe=>Y1 [e] h) (eK (eT w (λs h=>zd (zy.l5 (zc7 16 (.str []) (N 106)) C Q Y1 (s 0) (s 5) (s 14)) [(s 15)] h) r (λs h r=>eK (eL w [0,5,14] [15] (on3 (zy.l5 (zc7 16 (.str []) (N 106)) C Q Y1)) r (λY2 s h r=>e1 r))))) (λs h r=>e1 r)))))) (λs h r=>e1 r)))))))
theorem zgx.imp:zgx.Imp (AC P) N:=λa h Q r=>eF mixed (fn:=Tryz.f86) (λk=>zgx.L k (dn Q) (zbz [a]) h r)
def zeu.I:Bx:=⟨[],[],193,[(7,pz [(7,[3])] 10),(24,pz [(9,[3,6]),(30,[24,27])] 35),(41,pz [(9,[3,6]),(22,[16,19])] 26)]⟩
theorem zeu.L:LkT P zeu.I Tryz.f87 λC Q s h=>zeu.cps C N (s 0) h Q:=λ{C} w Q s h r=>eT w (λs h=>zd (zy.zph (zc7 1 (.int .u8 0) (N 64)) C Q (s 0)) [(.int .i64 0)] h) r (λs h r=>eS w (λs h=>B.pv (V.zbi (s 0)) λb=>0<1 /\ B.mks h 24 (some [.zbj]) b b λf h=>zd (zy.l82 (zc7 1 (.int .u8 0) (N 64)) C Q (s 0) f) [(.int .i64 0)] h) (eT w (λs h=>zd (zy.zph (zc7 1 (.int .u8 0) (N 64)) C Q (s 0)) [(s 3)] h) r (λs h r=>eK (eL w [0] [3] (on1 (zy.zph (zc7 1 (.int .u8 0) (N 64)) C Q)) r (λY9 s h r=>eT w (λs h=>zd (zy.l93 (zc7 1 (.int .u8 0) (N 64)) C Q Y9 (s 0) (s 3)) [(.int .i64 0)] h) r (λs h r=>eS w (λs h=>B.pv (V.bin .add (s 3) (.int .i64 1)) λg=>Y9 [g] h) (eK (eT w (λs h=>zd (zy.l93 (zc7 1 (.int .u8 0) (N 64)) C Q Y9 (s 0) (s 3)) [(s 4)] h) r (λs h r=>eK (eL w [0,3] [4] (on2 (zy.l93 (zc7 1 (.int .u8 0) (N 64)) C Q Y9)) r (λY10 s h r=>e1 r))))) (λs h r=>e1 r)))))) (λs h r=>eT w (λs h=>zd (zy.l82 (zc7 1 (.int .u8 0) (N 64)) C Q (s 0) (s 5)) [(.int .i64 0)] h) r (λs h r=>eS w (λs h=>zd (zy.l59 (zc7 1 (.int .u8 0) (N 64)) C Q (s 0) (s 5)) [(.int .i64 0)] h) (eT w (λs h=>zd (zy.l82 (zc7 1 (.int .u8 0) (N 64)) C Q (s 0) (s 5)) [(s 6)] h) r (λs h r=>eK (eL w [0,5] [6] (on2 (zy.l82 (zc7 1 (.int .u8 0) (N 64)) C Q)) r (λY7 s h r=>eT w (λs h=>B.pv (V.zb3 1 (s 0) (s 6)) λi=>B.ld h i λj=>zd (zy.l69 (zc7 1 (.int .u8 0) (N 64)) C Q Y7 (s 0) (s 5) (s 6)) [j,(.int .i64 0)] h) r (λs h r=>eS w (λs h=>B.pv (V.bin .add (s 6) (.int .i64 1)) λa=>Y7 [a] h) (eK (eT w (λs h=>zd (zy.l69 (zc7 1 (.int .u8 0) (N 64)) C Q Y7 (s 0) (s 5) (s 6)) [(s 7),(.int .i64 0)] h) r (λs h r=>eS w (λs h=>B.pv (V.zb3 1 (s 5) (s 6)) λk=>B.st h k (s 7) λh=>B.pv (V.bin .add (s 6) (.int .i64 1)) λa=>Y7 [a] h) (eT w (λs h=>zd (zy.l69 (zc7 1 (.int .u8 0) (N 64)) C Q Y7 (s 0) (s 5) (s 6)) [(s 7),(s 8)] h) r (λs h r=>eK (eL w [0,5,6] [7,8] (on3 (zy.l69 (zc7 1 (.int .u8 0) (N 64)) C Q Y7)) r (λY8 s h r=>e1 r)))) (λs h r=>e1 r)))) (λs h r=>e1 r)))))) (λs h r=>eS w (λs h=>zd (zy.l40 (zc7 1 (.int .u8 0) (N 64)) C Q (s 0) (s 5)) [(.int .i64 0)] h) (eT w (λs h=>zd (zy.l59 (zc7 1 (.int .u8 0) (N 64)) C Q (s 0) (s 5)) [(s 9)] h) r (λs h r=>eK (eL w [0,5] [9] (on2 (zy.l59 (zc7 1 (.int .u8 0) (N 64)) C Q)) r (λY5 s h r=>eT w (λs h=>zd (zy.l49 (zc7 1 (.int .u8 0) (N 64)) C Q Y5 (s 0) (s 5) (s 9)) [(.int .i64 0)] h) r (λs h r=>eS w (λs h=>B.pv (V.bin .add (s 9) (.int .i64 1)) λl=>Y5 [l] h) (eK (eT w (λs h=>zd (zy.l49 (zc7 1 (.int .u8 0) (N 64)) C Q Y5 (s 0) (s 5) (s 9)) [(s 10)] h) r (λs h r=>eK (eL w [0,5,9] [10] (on3 (zy.l49 (zc7 1 (.int .u8 0) (N 64)) C Q Y5)) r (λY6 s h r=>e1 r))))) (λs h r=>e1 r)))))) (λs h r=>eS w (λs h=>zd (zy.l15 (zc7 1 (.int .u8 0) (N 64)) C Q (s 0) (s 5)) [(.int .i64 0)] h) (eT w (λs h=>zd (zy.l40 (zc7 1 (.int .u8 0) (N 64)) C Q (s 0) (s 5)) [(s 11)] h) r (λs h r=>eK (eL w [0,5] [11] (on2 (zy.l40 (zc7 1 (.int .u8 0) (N 64)) C Q)) r (λY3 s h r=>eT w (λs h=>0<1 /\ B.mks h 1 (some [.int .u8 0]) (.int .i64 64) (.int .i64 64) λc h=>zd (zy.l26 (zc7 1 (.int .u8 0) (N 64)) C Q Y3 (s 0) (s 5) (s 11) c) [(.int .i64 0)] h) r (λs h r=>eS w (λs h=>B.pv (V.bin .add (s 11) (.int .i64 1)) λd=>Y3 [d] h) (eK (eT w (λs h=>zd (zy.l26 (zc7 1 (.int .u8 0) (N 64)) C Q Y3 (s 0) (s 5) (s 11) (s 12)) [(.int .i64 0)] h) r (λs h r=>eS w (λs h=>zy.k22 (zc7 1 (.int .u8 0) (N 64)) C Q Y3 (s 0) (s 5) (s 11) (s 12) h) (eT w (λs h=>zd (zy.l26 (zc7 1 (.int .u8 0) (N 64)) C Q Y3 (s 0) (s 5) (s 11) (s 12)) [(s 13)] h) r (λs h r=>eK (eL w [0,5,11,12] [13] (on4 (zy.l26 (zc7 1 (.int .u8 0) (N 64)) C Q Y3)) r (λY4 s h r=>e1 r)))) (λs h r=>e1 r)))) (λs h r=>e1 r)))))) (λs h r=>eS w (λs h=>Q (.bool true) h) (eT w (λs h=>zd (zy.l15 (zc7 1 (.int .u8 0) (N 64)) C Q (s 0) (s 5)) [(s 14)] h) r (λs h r=>eK (eL w [0,5] [14] (on2 (zy.l15 (zc7 1 (.int .u8 0) (N 64)) C Q)) r (λY1 s h r=>eT w (λs h=>zd (zy.l5 (zc7 1 (.int .u8 0) (N 64)) C Q Y1 (s 0) (s 5) (s 14)) [(.int .i64 0)] h) r (λs h r=>eS w (λs h=>B.pv (V.bin .add (s 14) (.int .i64 1)) λe=>Y1 [e] h) (eK (eT w (λs h=>zd (zy.l5 (zc7 1 (.int .u8 0) (N 64)) C Q Y1 (s 0) (s 5) (s 14)) [(s 15)] h) r (λs h r=>eK (eL w [0,5,14] [15] (on3 (zy.l5 (zc7 1 (.int .u8 0) (N 64)) C Q Y1)) r (λY2 s h r=>e1 r))))) (λs h r=>e1 r)))))) (λs h r=>e1 r)))))))
theorem zeu.imp:zeu.Imp (AC P) N:=λa h Q r=>eF mixed (fn:=Tryz.f87) (λk=>zeu.L k (dn Q) (zbz [a]) h r)
def zbb.I:Bx:=⟨[],[],193,[(7,pz [(7,[3])] 10),(24,pz [(9,[3,6]),(30,[24,27])] 35),(41,pz [(9,[3,6]),(22,[16,19])] 26)]⟩
abbrev zbb.E:z8:=ztv 2 16 [.int .i64 0,.int .i64 0] (N 18) [.i .i64,.i .i64]
theorem zbb.L:LkT P zbb.I Tryz.f88 λC Q s h=>zbb.cps C N (s 0) h Q:=λ{C} w Q s h r=>eT w (λs h=>zd (zy.zph zbb.E C Q (s 0)) [(.int .i64 0)] h) r (λs h r=>eS w (λs h=>B.pv (V.zbi (s 0)) λb=>0<1 /\ B.mks h 24 (some [.zbj]) b b λf h=>zd (zy.l82 zbb.E C Q (s 0) f) [(.int .i64 0)] h) (eT w (λs h=>zd (zy.zph zbb.E C Q (s 0)) [(s 3)] h) r (λs h r=>eK (eL w [0] [3] (on1 (zy.zph zbb.E C Q)) r (λY9 s h r=>eT w (λs h=>zd (zy.l93 zbb.E C Q Y9 (s 0) (s 3)) [(.int .i64 0)] h) r (λs h r=>eS w (λs h=>B.pv (V.bin .add (s 3) (.int .i64 1)) λg=>Y9 [g] h) (eK (eT w (λs h=>zd (zy.l93 zbb.E C Q Y9 (s 0) (s 3)) [(s 4)] h) r (λs h r=>eK (eL w [0,3] [4] (on2 (zy.l93 zbb.E C Q Y9)) r (λY10 s h r=>e1 r))))) (λs h r=>e1 r)))))) (λs h r=>eT w (λs h=>zd (zy.l82 zbb.E C Q (s 0) (s 5)) [(.int .i64 0)] h) r (λs h r=>eS w (λs h=>zd (zy.l59 zbb.E C Q (s 0) (s 5)) [(.int .i64 0)] h) (eT w (λs h=>zd (zy.l82 zbb.E C Q (s 0) (s 5)) [(s 6)] h) r (λs h r=>eK (eL w [0,5] [6] (on2 (zy.l82 zbb.E C Q)) r (λY7 s h r=>eT w (λs h=>B.pv (V.zb3 1 (s 0) (s 6)) λi=>B.ld h i λj=>zd (zy.l69 zbb.E C Q Y7 (s 0) (s 5) (s 6)) [j,(.int .i64 0)] h) r (λs h r=>eS w (λs h=>B.pv (V.bin .add (s 6) (.int .i64 1)) λa=>Y7 [a] h) (eK (eT w (λs h=>zd (zy.l69 zbb.E C Q Y7 (s 0) (s 5) (s 6)) [(s 7),(.int .i64 0)] h) r (λs h r=>eS w (λs h=>B.pv (V.zb3 1 (s 5) (s 6)) λk=>B.st h k (s 7) λh=>B.pv (V.bin .add (s 6) (.int .i64 1)) λa=>Y7 [a] h) (eT w (λs h=>zd (zy.l69 zbb.E C Q Y7 (s 0) (s 5) (s 6)) [(s 7),(s 8)] h) r (λs h r=>eK (eL w [0,5,6] [7,8] (on3 (zy.l69 zbb.E C Q Y7)) r (λY8 s h r=>e1 r)))) (λs h r=>e1 r)))) (λs h r=>e1 r)))))) (λs h r=>eS w (λs h=>zd (zy.l40 zbb.E C Q (s 0) (s 5)) [(.int .i64 0)] h) (eT w (λs h=>zd (zy.l59 zbb.E C Q (s 0) (s 5)) [(s 9)] h) r (λs h r=>eK (eL w [0,5] [9] (on2 (zy.l59 zbb.E C Q)) r (λY5 s h r=>eT w (λs h=>zd (zy.l49 zbb.E C Q Y5 (s 0) (s 5) (s 9)) [(.int .i64 0)] h) r (λs h r=>eS w (λs h=>B.pv (V.bin .add (s 9) (.int .i64 1)) λl=>Y5 [l] h) (eK (eT w (λs h=>zd (zy.l49 zbb.E C Q Y5 (s 0) (s 5) (s 9)) [(s 10)] h) r (λs h r=>eK (eL w [0,5,9] [10] (on3 (zy.l49 zbb.E C Q Y5)) r (λY6 s h r=>e1 r))))) (λs h r=>e1 r)))))) (λs h r=>eS w (λs h=>zd (zy.l15 zbb.E C Q (s 0) (s 5)) [(.int .i64 0)] h) (eT w (λs h=>zd (zy.l40 zbb.E C Q (s 0) (s 5)) [(s 11)] h) r (λs h r=>eK (eL w [0,5] [11] (on2 (zy.l40 zbb.E C Q)) r (λY3 s h r=>eT w (λs h=>0<2 /\ B.mks h 16 (some [.int .i64 0,.int .i64 0]) (.int .i64 64) (.int .i64 64) λc h=>zd (zy.l26 zbb.E C Q Y3 (s 0) (s 5) (s 11) c) [(.int .i64 0)] h) r (λs h r=>eS w (λs h=>B.pv (V.bin .add (s 11) (.int .i64 1)) λd=>Y3 [d] h) (eK (eT w (λs h=>zd (zy.l26 zbb.E C Q Y3 (s 0) (s 5) (s 11) (s 12)) [(.int .i64 0)] h) r (λs h r=>eS w (λs h=>zy.k22 zbb.E C Q Y3 (s 0) (s 5) (s 11) (s 12) h) (eT w (λs h=>zd (zy.l26 zbb.E C Q Y3 (s 0) (s 5) (s 11) (s 12)) [(s 13)] h) r (λs h r=>eK (eL w [0,5,11,12] [13] (on4 (zy.l26 zbb.E C Q Y3)) r (λY4 s h r=>e1 r)))) (λs h r=>e1 r)))) (λs h r=>e1 r)))))) (λs h r=>eS w (λs h=>Q (.bool true) h) (eT w (λs h=>zd (zy.l15 zbb.E C Q (s 0) (s 5)) [(s 14)] h) r (λs h r=>eK (eL w [0,5] [14] (on2 (zy.l15 zbb.E C Q)) r (λY1 s h r=>eT w (λs h=>zd (zy.l5 zbb.E C Q Y1 (s 0) (s 5) (s 14)) [(.int .i64 0)] h) r (λs h r=>eS w (λs h=>B.pv (V.bin .add (s 14) (.int .i64 1)) λe=>Y1 [e] h) (eK (eT w (λs h=>zd (zy.l5 zbb.E C Q Y1 (s 0) (s 5) (s 14)) [(s 15)] h) r (λs h r=>eK (eL w [0,5,14] [15] (on3 (zy.l5 zbb.E C Q Y1)) r (λY2 s h r=>e1 r))))) (λs h r=>e1 r)))))) (λs h r=>e1 r)))))))
theorem zbb.imp:zbb.Imp (AC P) N:=λa h Q r=>eF mixed (fn:=Tryz.f88) (λk=>zbb.L k (dn Q) (zbz [a]) h r)
def zb8.I:Bx:=⟨[],[],193,[(7,pz [(7,[3])] 10),(24,pz [(9,[3,6]),(30,[24,27])] 35),(41,pz [(9,[3,6]),(22,[16,19])] 26)]⟩
abbrev zb8.E:z8:=ztv 6 56 [.int .i64 0,.str [],.int .i64 0,.int .i64 0,.int .i64 0,.bool false] (N 77) [.i .i64,.s,.i .i64,.i .i64,.i .i64,.b]
theorem zb8.L:LkT P zb8.I Tryz.f89 λC Q s h=>zb8.cps C N (s 0) h Q:=λ{C} w Q s h r=>eT w (λs h=>zd (zy.zph zb8.E C Q (s 0)) [(.int .i64 0)] h) r (λs h r=>eS w (λs h=>B.pv (V.zbi (s 0)) λb=>0<1 /\ B.mks h 24 (some [.zbj]) b b λf h=>zd (zy.l82 zb8.E C Q (s 0) f) [(.int .i64 0)] h) (eT w (λs h=>zd (zy.zph zb8.E C Q (s 0)) [(s 3)] h) r (λs h r=>eK (eL w [0] [3] (on1 (zy.zph zb8.E C Q)) r (λY9 s h r=>eT w (λs h=>zd (zy.l93 zb8.E C Q Y9 (s 0) (s 3)) [(.int .i64 0)] h) r (λs h r=>eS w (λs h=>B.pv (V.bin .add (s 3) (.int .i64 1)) λg=>Y9 [g] h) (eK (eT w (λs h=>zd (zy.l93 zb8.E C Q Y9 (s 0) (s 3)) [(s 4)] h) r (λs h r=>eK (eL w [0,3] [4] (on2 (zy.l93 zb8.E C Q Y9)) r (λY10 s h r=>e1 r))))) (λs h r=>e1 r)))))) (λs h r=>eT w (λs h=>zd (zy.l82 zb8.E C Q (s 0) (s 5)) [(.int .i64 0)] h) r (λs h r=>eS w (λs h=>zd (zy.l59 zb8.E C Q (s 0) (s 5)) [(.int .i64 0)] h) (eT w (λs h=>zd (zy.l82 zb8.E C Q (s 0) (s 5)) [(s 6)] h) r (λs h r=>eK (eL w [0,5] [6] (on2 (zy.l82 zb8.E C Q)) r (λY7 s h r=>eT w (λs h=>B.pv (V.zb3 1 (s 0) (s 6)) λi=>B.ld h i λj=>zd (zy.l69 zb8.E C Q Y7 (s 0) (s 5) (s 6)) [j,(.int .i64 0)] h) r (λs h r=>eS w (λs h=>B.pv (V.bin .add (s 6) (.int .i64 1)) λa=>Y7 [a] h) (eK (eT w (λs h=>zd (zy.l69 zb8.E C Q Y7 (s 0) (s 5) (s 6)) [(s 7),(.int .i64 0)] h) r (λs h r=>eS w (λs h=>B.pv (V.zb3 1 (s 5) (s 6)) λk=>B.st h k (s 7) λh=>B.pv (V.bin .add (s 6) (.int .i64 1)) λa=>Y7 [a] h) (eT w (λs h=>zd (zy.l69 zb8.E C Q Y7 (s 0) (s 5) (s 6)) [(s 7),(s 8)] h) r (λs h r=>eK (eL w [0,5,6] [7,8] (on3 (zy.l69 zb8.E C Q Y7)) r (λY8 s h r=>e1 r)))) (λs h r=>e1 r)))) (λs h r=>e1 r)))))) (λs h r=>eS w (λs h=>zd (zy.l40 zb8.E C Q (s 0) (s 5)) [(.int .i64 0)] h) (eT w (λs h=>zd (zy.l59 zb8.E C Q (s 0) (s 5)) [(s 9)] h) r (λs h r=>eK (eL w [0,5] [9] (on2 (zy.l59 zb8.E C Q)) r (λY5 s h r=>eT w (λs h=>zd (zy.l49 zb8.E C Q Y5 (s 0) (s 5) (s 9)) [(.int .i64 0)] h) r (λs h r=>eS w (λs h=>B.pv (V.bin .add (s 9) (.int .i64 1)) λl=>Y5 [l] h) (eK (eT w (λs h=>zd (zy.l49 zb8.E C Q Y5 (s 0) (s 5) (s 9)) [(s 10)] h) r (λs h r=>eK (eL w [0,5,9] [10] (on3 (zy.l49 zb8.E C Q Y5)) r (λY6 s h r=>e1 r))))) (λs h r=>e1 r)))))) (λs h r=>eS w (λs h=>zd (zy.l15 zb8.E C Q (s 0) (s 5)) [(.int .i64 0)] h) (eT w (λs h=>zd (zy.l40 zb8.E C Q (s 0) (s 5)) [(s 11)] h) r (λs h r=>eK (eL w [0,5] [11] (on2 (zy.l40 zb8.E C Q)) r (λY3 s h r=>eT w (λs h=>0<6 /\ B.mks h 56 (some [.int .i64 0,.str [],.int .i64 0,.int .i64 0,.int .i64 0,.bool false]) (.int .i64 64) (.int .i64 64) λc h=>zd (zy.l26 zb8.E C Q Y3 (s 0) (s 5) (s 11) c) [(.int .i64 0)] h) r (λs h r=>eS w (λs h=>B.pv (V.bin .add (s 11) (.int .i64 1)) λd=>Y3 [d] h) (eK (eT w (λs h=>zd (zy.l26 zb8.E C Q Y3 (s 0) (s 5) (s 11) (s 12)) [(.int .i64 0)] h) r (λs h r=>eS w (λs h=>zy.k22 zb8.E C Q Y3 (s 0) (s 5) (s 11) (s 12) h) (eT w (λs h=>zd (zy.l26 zb8.E C Q Y3 (s 0) (s 5) (s 11) (s 12)) [(s 13)] h) r (λs h r=>eK (eL w [0,5,11,12] [13] (on4 (zy.l26 zb8.E C Q Y3)) r (λY4 s h r=>e1 r)))) (λs h r=>e1 r)))) (λs h r=>e1 r)))))) (λs h r=>eS w (λs h=>Q (.bool true) h) (eT w (λs h=>zd (zy.l15 zb8.E C Q (s 0) (s 5)) [(s 14)] h) r (λs h r=>eK (eL w [0,5] [14] (on2 (zy.l15 zb8.E C Q)) r (λY1 s h r=>eT w (λs h=>zd (zy.l5 zb8.E C Q Y1 (s 0) (s 5) (s 14)) [(.int .i64 0)] h) r (λs h r=>eS w (λs h=>B.pv (V.bin .add (s 14) (.int .i64 1)) λe=>Y1 [e] h) (eK (eT w (λs h=>zd (zy.l5 zb8.E C Q Y1 (s 0) (s 5) (s 14)) [(s 15)] h) r (λs h r=>eK (eL w [0,5,14] [15] (on3 (zy.l5 zb8.E C Q Y1)) r (λY2 s h r=>e1 r))))) (λs h r=>e1 r)))))) (λs h r=>e1 r)))))))
theorem zb8.imp:zb8.Imp (AC P) N:=λa h Q r=>eF mixed (fn:=Tryz.f89) (λk=>zb8.L k (dn Q) (zbz [a]) h r)
def zbl.I:Bx:=⟨[],[],193,[(7,pz [(7,[3])] 10),(24,pz [(9,[3,6]),(30,[24,27])] 35),(41,pz [(9,[3,6]),(22,[16,19])] 26)]⟩
abbrev zbl.E:z8:=ztv 3 32 [.str [],.int .i64 0,.int .i64 0] (N 107) [.s,.i .i64,.i .i64]
theorem zbl.L:LkT P zbl.I Tryz.f90 λC Q s h=>zbl.cps C N (s 0) h Q:=λ{C} w Q s h r=>eT w (λs h=>zd (zy.zph zbl.E C Q (s 0)) [(.int .i64 0)] h) r (λs h r=>eS w (λs h=>B.pv (V.zbi (s 0)) λb=>0<1 /\ B.mks h 24 (some [.zbj]) b b λf h=>zd (zy.l82 zbl.E C Q (s 0) f) [(.int .i64 0)] h) (eT w (λs h=>zd (zy.zph zbl.E C Q (s 0)) [(s 3)] h) r (λs h r=>eK (eL w [0] [3] (on1 (zy.zph zbl.E C Q)) r (λY9 s h r=>eT w (λs h=>zd (zy.l93 zbl.E C Q Y9 (s 0) (s 3)) [(.int .i64 0)] h) r (λs h r=>eS w (λs h=>B.pv (V.bin .add (s 3) (.int .i64 1)) λg=>Y9 [g] h) (eK (eT w (λs h=>zd (zy.l93 zbl.E C Q Y9 (s 0) (s 3)) [(s 4)] h) r (λs h r=>eK (eL w [0,3] [4] (on2 (zy.l93 zbl.E C Q Y9)) r (λY10 s h r=>e1 r))))) (λs h r=>e1 r)))))) (λs h r=>eT w (λs h=>zd (zy.l82 zbl.E C Q (s 0) (s 5)) [(.int .i64 0)] h) r (λs h r=>eS w (λs h=>zd (zy.l59 zbl.E C Q (s 0) (s 5)) [(.int .i64 0)] h) (eT w (λs h=>zd (zy.l82 zbl.E C Q (s 0) (s 5)) [(s 6)] h) r (λs h r=>eK (eL w [0,5] [6] (on2 (zy.l82 zbl.E C Q)) r (λY7 s h r=>eT w (λs h=>B.pv (V.zb3 1 (s 0) (s 6)) λi=>B.ld h i λj=>zd (zy.l69 zbl.E C Q Y7 (s 0) (s 5) (s 6)) [j,(.int .i64 0)] h) r (λs h r=>eS w (λs h=>B.pv (V.bin .add (s 6) (.int .i64 1)) λa=>Y7 [a] h) (eK (eT w (λs h=>zd (zy.l69 zbl.E C Q Y7 (s 0) (s 5) (s 6)) [(s 7),(.int .i64 0)] h) r (λs h r=>eS w (λs h=>B.pv (V.zb3 1 (s 5) (s 6)) λk=>B.st h k (s 7) λh=>B.pv (V.bin .add (s 6) (.int .i64 1)) λa=>Y7 [a] h) (eT w (λs h=>zd (zy.l69 zbl.E C Q Y7 (s 0) (s 5) (s 6)) [(s 7),(s 8)] h) r (λs h r=>eK (eL w [0,5,6] [7,8] (on3 (zy.l69 zbl.E C Q Y7)) r (λY8 s h r=>e1 r)))) (λs h r=>e1 r)))) (λs h r=>e1 r)))))) (λs h r=>eS w (λs h=>zd (zy.l40 zbl.E C Q (s 0) (s 5)) [(.int .i64 0)] h) (eT w (λs h=>zd (zy.l59 zbl.E C Q (s 0) (s 5)) [(s 9)] h) r (λs h r=>eK (eL w [0,5] [9] (on2 (zy.l59 zbl.E C Q)) r (λY5 s h r=>eT w (λs h=>zd (zy.l49 zbl.E C Q Y5 (s 0) (s 5) (s 9)) [(.int .i64 0)] h) r (λs h r=>eS w (λs h=>B.pv (V.bin .add (s 9) (.int .i64 1)) λl=>Y5 [l] h) (eK (eT w (λs h=>zd (zy.l49 zbl.E C Q Y5 (s 0) (s 5) (s 9)) [(s 10)] h) r (λs h r=>eK (eL w [0,5,9] [10] (on3 (zy.l49 zbl.E C Q Y5)) r (λY6 s h r=>e1 r))))) (λs h r=>e1 r)))))) (λs h r=>eS w (λs h=>zd (zy.l15 zbl.E C Q (s 0) (s 5)) [(.int .i64 0)] h) (eT w (λs h=>zd (zy.l40 zbl.E C Q (s 0) (s 5)) [(s 11)] h) r (λs h r=>eK (eL w [0,5] [11] (on2 (zy.l40 zbl.E C Q)) r (λY3 s h r=>eT w (λs h=>0<3 /\ B.mks h 32 (some [.str [],.int .i64 0,.int .i64 0]) (.int .i64 64) (.int .i64 64) λc h=>zd (zy.l26 zbl.E C Q Y3 (s 0) (s 5) (s 11) c) [(.int .i64 0)] h) r (λs h r=>eS w (λs h=>B.pv (V.bin .add (s 11) (.int .i64 1)) λd=>Y3 [d] h) (eK (eT w (λs h=>zd (zy.l26 zbl.E C Q Y3 (s 0) (s 5) (s 11) (s 12)) [(.int .i64 0)] h) r (λs h r=>eS w (λs h=>zy.k22 zbl.E C Q Y3 (s 0) (s 5) (s 11) (s 12) h) (eT w (λs h=>zd (zy.l26 zbl.E C Q Y3 (s 0) (s 5) (s 11) (s 12)) [(s 13)] h) r (λs h r=>eK (eL w [0,5,11,12] [13] (on4 (zy.l26 zbl.E C Q Y3)) r (λY4 s h r=>e1 r)))) (λs h r=>e1 r)))) (λs h r=>e1 r)))))) (λs h r=>eS w (λs h=>Q (.bool true) h) (eT w (λs h=>zd (zy.l15 zbl.E C Q (s 0) (s 5)) [(s 14)] h) r (λs h r=>eK (eL w [0,5] [14] (on2 (zy.l15 zbl.E C Q)) r (λY1 s h r=>eT w (λs h=>zd (zy.l5 zbl.E C Q Y1 (s 0) (s 5) (s 14)) [(.int .i64 0)] h) r (λs h r=>eS w (λs h=>B.pv (V.bin .add (s 14) (.int .i64 1)) λe=>Y1 [e] h) (eK (eT w (λs h=>zd (zy.l5 zbl.E C Q Y1 (s 0) (s 5) (s 14)) [(s 15)] h) r (λs h r=>eK (eL w [0,5,14] [15] (on3 (zy.l5 zbl.E C Q Y1)) r (λY2 s h r=>e1 r))))) (λs h r=>e1 r)))))) (λs h r=>e1 r)))))))
theorem zbl.imp:zbl.Imp (AC P) N:=λa h Q r=>eF mixed (fn:=Tryz.f90) (λk=>zbl.L k (dn Q) (zbz [a]) h r)
def zbs.I:Bx:=⟨[],[],193,[(7,pz [(7,[3])] 10),(24,pz [(9,[3,6]),(30,[24,27])] 35),(41,pz [(9,[3,6]),(22,[16,19])] 26)]⟩
abbrev zbs.E:z8:=ztv 3 24 [.int .i64 0,.int .i64 0,.int .i64 0] (N 78) [.i .i64,.i .i64,.i .i64]
theorem zbs.L:LkT P zbs.I Tryz.f91 λC Q s h=>zbs.cps C N (s 0) h Q:=λ{C} w Q s h r=>eT w (λs h=>zd (zy.zph zbs.E C Q (s 0)) [(.int .i64 0)] h) r (λs h r=>eS w (λs h=>B.pv (V.zbi (s 0)) λb=>0<1 /\ B.mks h 24 (some [.zbj]) b b λf h=>zd (zy.l82 zbs.E C Q (s 0) f) [(.int .i64 0)] h) (eT w (λs h=>zd (zy.zph zbs.E C Q (s 0)) [(s 3)] h) r (λs h r=>eK (eL w [0] [3] (on1 (zy.zph zbs.E C Q)) r (λY9 s h r=>eT w (λs h=>zd (zy.l93 zbs.E C Q Y9 (s 0) (s 3)) [(.int .i64 0)] h) r (λs h r=>eS w (λs h=>B.pv (V.bin .add (s 3) (.int .i64 1)) λg=>Y9 [g] h) (eK (eT w (λs h=>zd (zy.l93 zbs.E C Q Y9 (s 0) (s 3)) [(s 4)] h) r (λs h r=>eK (eL w [0,3] [4] (on2 (zy.l93 zbs.E C Q Y9)) r (λY10 s h r=>e1 r))))) (λs h r=>e1 r)))))) (λs h r=>eT w (λs h=>zd (zy.l82 zbs.E C Q (s 0) (s 5)) [(.int .i64 0)] h) r (λs h r=>eS w (λs h=>zd (zy.l59 zbs.E C Q (s 0) (s 5)) [(.int .i64 0)] h) (eT w (λs h=>zd (zy.l82 zbs.E C Q (s 0) (s 5)) [(s 6)] h) r (λs h r=>eK (eL w [0,5] [6] (on2 (zy.l82 zbs.E C Q)) r (λY7 s h r=>eT w (λs h=>B.pv (V.zb3 1 (s 0) (s 6)) λi=>B.ld h i λj=>zd (zy.l69 zbs.E C Q Y7 (s 0) (s 5) (s 6)) [j,(.int .i64 0)] h) r (λs h r=>eS w (λs h=>B.pv (V.bin .add (s 6) (.int .i64 1)) λa=>Y7 [a] h) (eK (eT w (λs h=>zd (zy.l69 zbs.E C Q Y7 (s 0) (s 5) (s 6)) [(s 7),(.int .i64 0)] h) r (λs h r=>eS w (λs h=>B.pv (V.zb3 1 (s 5) (s 6)) λk=>B.st h k (s 7) λh=>B.pv (V.bin .add (s 6) (.int .i64 1)) λa=>Y7 [a] h) (eT w (λs h=>zd (zy.l69 zbs.E C Q Y7 (s 0) (s 5) (s 6)) [(s 7),(s 8)] h) r (λs h r=>eK (eL w [0,5,6] [7,8] (on3 (zy.l69 zbs.E C Q Y7)) r (λY8 s h r=>e1 r)))) (λs h r=>e1 r)))) (λs h r=>e1 r)))))) (λs h r=>eS w (λs h=>zd (zy.l40 zbs.E C Q (s 0) (s 5)) [(.int .i64 0)] h) (eT w (λs h=>zd (zy.l59 zbs.E C Q (s 0) (s 5)) [(s 9)] h) r (λs h r=>eK (eL w [0,5] [9] (on2 (zy.l59 zbs.E C Q)) r (λY5 s h r=>eT w (λs h=>zd (zy.l49 zbs.E C Q Y5 (s 0) (s 5) (s 9)) [(.int .i64 0)] h) r (λs h r=>eS w (λs h=>B.pv (V.bin .add (s 9) (.int .i64 1)) λl=>Y5 [l] h) (eK (eT w (λs h=>zd (zy.l49 zbs.E C Q Y5 (s 0) (s 5) (s 9)) [(s 10)] h) r (λs h r=>eK (eL w [0,5,9] [10] (on3 (zy.l49 zbs.E C Q Y5)) r (λY6 s h r=>e1 r))))) (λs h r=>e1 r)))))) (λs h r=>eS w (λs h=>zd (zy.l15 zbs.E C Q (s 0) (s 5)) [(.int .i64 0)] h) (eT w (λs h=>zd (zy.l40 zbs.E C Q (s 0) (s 5)) [(s 11)] h) r (λs h r=>eK (eL w [0,5] [11] (on2 (zy.l40 zbs.E C Q)) r (λY3 s h r=>eT w (λs h=>0<3 /\ B.mks h 24 (some [.int .i64 0,.int .i64 0,.int .i64 0]) (.int .i64 64) (.int .i64 64) λc h=>zd (zy.l26 zbs.E C Q Y3 (s 0) (s 5) (s 11) c) [(.int .i64 0)] h) r (λs h r=>eS w (λs h=>B.pv (V.bin .add (s 11) (.int .i64 1)) λd=>Y3 [d] h) (eK (eT w (λs h=>zd (zy.l26 zbs.E C Q Y3 (s 0) (s 5) (s 11) (s 12)) [(.int .i64 0)] h) r (λs h r=>eS w (λs h=>zy.k22 zbs.E C Q Y3 (s 0) (s 5) (s 11) (s 12) h) (eT w (λs h=>zd (zy.l26 zbs.E C Q Y3 (s 0) (s 5) (s 11) (s 12)) [(s 13)] h) r (λs h r=>eK (eL w [0,5,11,12] [13] (on4 (zy.l26 zbs.E C Q Y3)) r (λY4 s h r=>e1 r)))) (λs h r=>e1 r)))) (λs h r=>e1 r)))))) (λs h r=>eS w (λs h=>Q (.bool true) h) (eT w (λs h=>zd (zy.l15 zbs.E C Q (s 0) (s 5)) [(s 14)] h) r (λs h r=>eK (eL w [0,5] [14] (on2 (zy.l15 zbs.E C Q)) r (λY1 s h r=>eT w (λs h=>zd (zy.l5 zbs.E C Q Y1 (s 0) (s 5) (s 14)) [(.int .i64 0)] h) r (λs h r=>eS w (λs h=>B.pv (V.bin .add (s 14) (.int .i64 1)) λe=>Y1 [e] h) (eK (eT w (λs h=>zd (zy.l5 zbs.E C Q Y1 (s 0) (s 5) (s 14)) [(s 15)] h) r (λs h r=>eK (eL w [0,5,14] [15] (on3 (zy.l5 zbs.E C Q Y1)) r (λY2 s h r=>e1 r))))) (λs h r=>e1 r)))))) (λs h r=>e1 r)))))))
theorem zbs.imp:zbs.Imp (AC P) N:=λa h Q r=>eF mixed (fn:=Tryz.f91) (λk=>zbs.L k (dn Q) (zbz [a]) h r)
def zbt.I:Bx:=⟨[],[],193,[(7,pz [(7,[3])] 10),(24,pz [(9,[3,6]),(30,[24,27])] 35),(41,pz [(9,[3,6]),(22,[16,19])] 26)]⟩
abbrev zbt.E:z8:=ztv 2 24 [.str [],.int .i64 0] (N 108) [.s,.i .i64]
theorem zbt.L:LkT P zbt.I Tryz.f92 λC Q s h=>zbt.cps C N (s 0) h Q:=λ{C} w Q s h r=>eT w (λs h=>zd (zy.zph zbt.E C Q (s 0)) [(.int .i64 0)] h) r (λs h r=>eS w (λs h=>B.pv (V.zbi (s 0)) λb=>0<1 /\ B.mks h 24 (some [.zbj]) b b λf h=>zd (zy.l82 zbt.E C Q (s 0) f) [(.int .i64 0)] h) (eT w (λs h=>zd (zy.zph zbt.E C Q (s 0)) [(s 3)] h) r (λs h r=>eK (eL w [0] [3] (on1 (zy.zph zbt.E C Q)) r (λY9 s h r=>eT w (λs h=>zd (zy.l93 zbt.E C Q Y9 (s 0) (s 3)) [(.int .i64 0)] h) r (λs h r=>eS w (λs h=>B.pv (V.bin .add (s 3) (.int .i64 1)) λg=>Y9 [g] h) (eK (eT w (λs h=>zd (zy.l93 zbt.E C Q Y9 (s 0) (s 3)) [(s 4)] h) r (λs h r=>eK (eL w [0,3] [4] (on2 (zy.l93 zbt.E C Q Y9)) r (λY10 s h r=>e1 r))))) (λs h r=>e1 r)))))) (λs h r=>eT w (λs h=>zd (zy.l82 zbt.E C Q (s 0) (s 5)) [(.int .i64 0)] h) r (λs h r=>eS w (λs h=>zd (zy.l59 zbt.E C Q (s 0) (s 5)) [(.int .i64 0)] h) (eT w (λs h=>zd (zy.l82 zbt.E C Q (s 0) (s 5)) [(s 6)] h) r (λs h r=>eK (eL w [0,5] [6] (on2 (zy.l82 zbt.E C Q)) r (λY7 s h r=>eT w (λs h=>B.pv (V.zb3 1 (s 0) (s 6)) λi=>B.ld h i λj=>zd (zy.l69 zbt.E C Q Y7 (s 0) (s 5) (s 6)) [j,(.int .i64 0)] h) r (λs h r=>eS w (λs h=>B.pv (V.bin .add (s 6) (.int .i64 1)) λa=>Y7 [a] h) (eK (eT w (λs h=>zd (zy.l69 zbt.E C Q Y7 (s 0) (s 5) (s 6)) [(s 7),(.int .i64 0)] h) r (λs h r=>eS w (λs h=>B.pv (V.zb3 1 (s 5) (s 6)) λk=>B.st h k (s 7) λh=>B.pv (V.bin .add (s 6) (.int .i64 1)) λa=>Y7 [a] h) (eT w (λs h=>zd (zy.l69 zbt.E C Q Y7 (s 0) (s 5) (s 6)) [(s 7),(s 8)] h) r (λs h r=>eK (eL w [0,5,6] [7,8] (on3 (zy.l69 zbt.E C Q Y7)) r (λY8 s h r=>e1 r)))) (λs h r=>e1 r)))) (λs h r=>e1 r)))))) (λs h r=>eS w (λs h=>zd (zy.l40 zbt.E C Q (s 0) (s 5)) [(.int .i64 0)] h) (eT w (λs h=>zd (zy.l59 zbt.E C Q (s 0) (s 5)) [(s 9)] h) r (λs h r=>eK (eL w [0,5] [9] (on2 (zy.l59 zbt.E C Q)) r (λY5 s h r=>eT w (λs h=>zd (zy.l49 zbt.E C Q Y5 (s 0) (s 5) (s 9)) [(.int .i64 0)] h) r (λs h r=>eS w (λs h=>B.pv (V.bin .add (s 9) (.int .i64 1)) λl=>Y5 [l] h) (eK (eT w (λs h=>zd (zy.l49 zbt.E C Q Y5 (s 0) (s 5) (s 9)) [(s 10)] h) r (λs h r=>eK (eL w [0,5,9] [10] (on3 (zy.l49 zbt.E C Q Y5)) r (λY6 s h r=>e1 r))))) (λs h r=>e1 r)))))) (λs h r=>eS w (λs h=>zd (zy.l15 zbt.E C Q (s 0) (s 5)) [(.int .i64 0)] h) (eT w (λs h=>zd (zy.l40 zbt.E C Q (s 0) (s 5)) [(s 11)] h) r (λs h r=>eK (eL w [0,5] [11] (on2 (zy.l40 zbt.E C Q)) r (λY3 s h r=>eT w (λs h=>0<2 /\ B.mks h 24 (some [.str [],.int .i64 0]) (.int .i64 64) (.int .i64 64) λc h=>zd (zy.l26 zbt.E C Q Y3 (s 0) (s 5) (s 11) c) [(.int .i64 0)] h) r (λs h r=>eS w (λs h=>B.pv (V.bin .add (s 11) (.int .i64 1)) λd=>Y3 [d] h) (eK (eT w (λs h=>zd (zy.l26 zbt.E C Q Y3 (s 0) (s 5) (s 11) (s 12)) [(.int .i64 0)] h) r (λs h r=>eS w (λs h=>zy.k22 zbt.E C Q Y3 (s 0) (s 5) (s 11) (s 12) h) (eT w (λs h=>zd (zy.l26 zbt.E C Q Y3 (s 0) (s 5) (s 11) (s 12)) [(s 13)] h) r (λs h r=>eK (eL w [0,5,11,12] [13] (on4 (zy.l26 zbt.E C Q Y3)) r (λY4 s h r=>e1 r)))) (λs h r=>e1 r)))) (λs h r=>e1 r)))))) (λs h r=>eS w (λs h=>Q (.bool true) h) (eT w (λs h=>zd (zy.l15 zbt.E C Q (s 0) (s 5)) [(s 14)] h) r (λs h r=>eK (eL w [0,5] [14] (on2 (zy.l15 zbt.E C Q)) r (λY1 s h r=>eT w (λs h=>zd (zy.l5 zbt.E C Q Y1 (s 0) (s 5) (s 14)) [(.int .i64 0)] h) r (λs h r=>eS w (λs h=>B.pv (V.bin .add (s 14) (.int .i64 1)) λe=>Y1 [e] h) (eK (eT w (λs h=>zd (zy.l5 zbt.E C Q Y1 (s 0) (s 5) (s 14)) [(s 15)] h) r (λs h r=>eK (eL w [0,5,14] [15] (on3 (zy.l5 zbt.E C Q Y1)) r (λY2 s h r=>e1 r))))) (λs h r=>e1 r)))))) (λs h r=>e1 r)))))))
theorem zbt.imp:zbt.Imp (AC P) N:=λa h Q r=>eF mixed (fn:=Tryz.f92) (λk=>zbt.L k (dn Q) (zbz [a]) h r)
def zbk.I:Bx:=⟨[],[],193,[(7,pz [(7,[3])] 10),(24,pz [(9,[3,6]),(30,[24,27])] 35),(41,pz [(9,[3,6]),(22,[16,19])] 26)]⟩
abbrev zbk.E(C:zh):z8:=opsD C 4 72 [.str [],.int .i64 0,.zbj,.zbj] (N 109) (N 110)
theorem zbk.L:LkT P zbk.I Tryz.f93 λC Q s h=>zbk.cps C N (s 0) h Q:=λ{C} w Q s h r=>eT w (λs h=>zd (zy.zph (zbk.E C) C Q (s 0)) [(.int .i64 0)] h) r (λs h r=>eS w (λs h=>B.pv (V.zbi (s 0)) λb=>0<1 /\ B.mks h 24 (some [.zbj]) b b λf h=>zd (zy.l82 (zbk.E C) C Q (s 0) f) [(.int .i64 0)] h) (eT w (λs h=>zd (zy.zph (zbk.E C) C Q (s 0)) [(s 3)] h) r (λs h r=>eK (eL w [0] [3] (on1 (zy.zph (zbk.E C) C Q)) r (λY9 s h r=>eT w (λs h=>zd (zy.l93 (zbk.E C) C Q Y9 (s 0) (s 3)) [(.int .i64 0)] h) r (λs h r=>eS w (λs h=>B.pv (V.bin .add (s 3) (.int .i64 1)) λg=>Y9 [g] h) (eK (eT w (λs h=>zd (zy.l93 (zbk.E C) C Q Y9 (s 0) (s 3)) [(s 4)] h) r (λs h r=>eK (eL w [0,3] [4] (on2 (zy.l93 (zbk.E C) C Q Y9)) r (λY10 s h r=>e1 r))))) (λs h r=>e1 r)))))) (λs h r=>eT w (λs h=>zd (zy.l82 (zbk.E C) C Q (s 0) (s 5)) [(.int .i64 0)] h) r (λs h r=>eS w (λs h=>zd (zy.l59 (zbk.E C) C Q (s 0) (s 5)) [(.int .i64 0)] h) (eT w (λs h=>zd (zy.l82 (zbk.E C) C Q (s 0) (s 5)) [(s 6)] h) r (λs h r=>eK (eL w [0,5] [6] (on2 (zy.l82 (zbk.E C) C Q)) r (λY7 s h r=>eT w (λs h=>B.pv (V.zb3 1 (s 0) (s 6)) λi=>B.ld h i λj=>zd (zy.l69 (zbk.E C) C Q Y7 (s 0) (s 5) (s 6)) [j,(.int .i64 0)] h) r (λs h r=>eS w (λs h=>B.pv (V.bin .add (s 6) (.int .i64 1)) λa=>Y7 [a] h) (eK (eT w (λs h=>zd (zy.l69 (zbk.E C) C Q Y7 (s 0) (s 5) (s 6)) [(s 7),(.int .i64 0)] h) r (λs h r=>eS w (λs h=>B.pv (V.zb3 1 (s 5) (s 6)) λk=>B.st h k (s 7) λh=>B.pv (V.bin .add (s 6) (.int .i64 1)) λa=>Y7 [a] h) (eT w (λs h=>zd (zy.l69 (zbk.E C) C Q Y7 (s 0) (s 5) (s 6)) [(s 7),(s 8)] h) r (λs h r=>eK (eL w [0,5,6] [7,8] (on3 (zy.l69 (zbk.E C) C Q Y7)) r (λY8 s h r=>e1 r)))) (λs h r=>e1 r)))) (λs h r=>e1 r)))))) (λs h r=>eS w (λs h=>zd (zy.l40 (zbk.E C) C Q (s 0) (s 5)) [(.int .i64 0)] h) (eT w (λs h=>zd (zy.l59 (zbk.E C) C Q (s 0) (s 5)) [(s 9)] h) r (λs h r=>eK (eL w [0,5] [9] (on2 (zy.l59 (zbk.E C) C Q)) r (λY5 s h r=>eT w (λs h=>zd (zy.l49 (zbk.E C) C Q Y5 (s 0) (s 5) (s 9)) [(.int .i64 0)] h) r (λs h r=>eS w (λs h=>B.pv (V.bin .add (s 9) (.int .i64 1)) λl=>Y5 [l] h) (eK (eT w (λs h=>zd (zy.l49 (zbk.E C) C Q Y5 (s 0) (s 5) (s 9)) [(s 10)] h) r (λs h r=>eK (eL w [0,5,9] [10] (on3 (zy.l49 (zbk.E C) C Q Y5)) r (λY6 s h r=>e1 r))))) (λs h r=>e1 r)))))) (λs h r=>eS w (λs h=>zd (zy.l15 (zbk.E C) C Q (s 0) (s 5)) [(.int .i64 0)] h) (eT w (λs h=>zd (zy.l40 (zbk.E C) C Q (s 0) (s 5)) [(s 11)] h) r (λs h r=>eK (eL w [0,5] [11] (on2 (zy.l40 (zbk.E C) C Q)) r (λY3 s h r=>eT w (λs h=>0<4 /\ B.mks h 72 (some [.str [],.int .i64 0,.zbj,.zbj]) (.int .i64 64) (.int .i64 64) λc h=>zd (zy.l26 (zbk.E C) C Q Y3 (s 0) (s 5) (s 11) c) [(.int .i64 0)] h) r (λs h r=>eS w (λs h=>B.pv (V.bin .add (s 11) (.int .i64 1)) λd=>Y3 [d] h) (eK (eT w (λs h=>zd (zy.l26 (zbk.E C) C Q Y3 (s 0) (s 5) (s 11) (s 12)) [(.int .i64 0)] h) r (λs h r=>eS w (λs h=>zy.k22 (zbk.E C) C Q Y3 (s 0) (s 5) (s 11) (s 12) h) (eT w (λs h=>zd (zy.l26 (zbk.E C) C Q Y3 (s 0) (s 5) (s 11) (s 12)) [(s 13)] h) r (λs h r=>eK (eL w [0,5,11,12] [13] (on4 (zy.l26 (zbk.E C) C Q Y3)) r (λY4 s h r=>e1 r)))) (λs h r=>e1 r)))) (λs h r=>e1 r)))))) (λs h r=>eS w (λs h=>Q (.bool true) h) (eT w (λs h=>zd (zy.l15 (zbk.E C) C Q (s 0) (s 5)) [(s 14)] h) r (λs h r=>eK (eL w [0,5] [14] (on2 (zy.l15 (zbk.E C) C Q)) r (λY1 s h r=>eT w (λs h=>zd (zy.l5 (zbk.E C) C Q Y1 (s 0) (s 5) (s 14)) [(.int .i64 0)] h) r (λs h r=>eS w (λs h=>B.pv (V.bin .add (s 14) (.int .i64 1)) λe=>Y1 [e] h) (eK (eT w (λs h=>zd (zy.l5 (zbk.E C) C Q Y1 (s 0) (s 5) (s 14)) [(s 15)] h) r (λs h r=>eK (eL w [0,5,14] [15] (on3 (zy.l5 (zbk.E C) C Q Y1)) r (λY2 s h r=>e1 r))))) (λs h r=>e1 r)))))) (λs h r=>e1 r)))))))
theorem zbk.imp:zbk.Imp (AC P) N:=λa h Q r=>eF mixed (fn:=Tryz.f93) (λk=>zbk.L k (dn Q) (zbz [a]) h r)
def zbu.I:Bx:=⟨[],[],193,[(7,pz [(7,[3])] 10),(24,pz [(9,[3,6]),(30,[24,27])] 35),(41,pz [(9,[3,6]),(22,[16,19])] 26)]⟩
abbrev zbu.E:z8:=ztv 8 80 [.int .i64 0,.str [],.int .i64 0,.int .i64 0,.int .i64 0,.int .u8 0,.int .i64 0,.str []] (N 111) [.i .i64,.s,.i .i64,.i .i64,.i .i64,.i .u8,.i .i64,.s]
theorem zbu.L:LkT P zbu.I Tryz.f94 λC Q s h=>zbu.cps C N (s 0) h Q:=λ{C} w Q s h r=>eT w (λs h=>zd (zy.zph zbu.E C Q (s 0)) [(.int .i64 0)] h) r (λs h r=>eS w (λs h=>B.pv (V.zbi (s 0)) λb=>0<1 /\ B.mks h 24 (some [.zbj]) b b λf h=>zd (zy.l82 zbu.E C Q (s 0) f) [(.int .i64 0)] h) (eT w (λs h=>zd (zy.zph zbu.E C Q (s 0)) [(s 3)] h) r (λs h r=>eK (eL w [0] [3] (on1 (zy.zph zbu.E C Q)) r (λY9 s h r=>eT w (λs h=>zd (zy.l93 zbu.E C Q Y9 (s 0) (s 3)) [(.int .i64 0)] h) r (λs h r=>eS w (λs h=>B.pv (V.bin .add (s 3) (.int .i64 1)) λg=>Y9 [g] h) (eK (eT w (λs h=>zd (zy.l93 zbu.E C Q Y9 (s 0) (s 3)) [(s 4)] h) r (λs h r=>eK (eL w [0,3] [4] (on2 (zy.l93 zbu.E C Q Y9)) r (λY10 s h r=>e1 r))))) (λs h r=>e1 r)))))) (λs h r=>eT w (λs h=>zd (zy.l82 zbu.E C Q (s 0) (s 5)) [(.int .i64 0)] h) r (λs h r=>eS w (λs h=>zd (zy.l59 zbu.E C Q (s 0) (s 5)) [(.int .i64 0)] h) (eT w (λs h=>zd (zy.l82 zbu.E C Q (s 0) (s 5)) [(s 6)] h) r (λs h r=>eK (eL w [0,5] [6] (on2 (zy.l82 zbu.E C Q)) r (λY7 s h r=>eT w (λs h=>B.pv (V.zb3 1 (s 0) (s 6)) λi=>B.ld h i λj=>zd (zy.l69 zbu.E C Q Y7 (s 0) (s 5) (s 6)) [j,(.int .i64 0)] h) r (λs h r=>eS w (λs h=>B.pv (V.bin .add (s 6) (.int .i64 1)) λa=>Y7 [a] h) (eK (eT w (λs h=>zd (zy.l69 zbu.E C Q Y7 (s 0) (s 5) (s 6)) [(s 7),(.int .i64 0)] h) r (λs h r=>eS w (λs h=>B.pv (V.zb3 1 (s 5) (s 6)) λk=>B.st h k (s 7) λh=>B.pv (V.bin .add (s 6) (.int .i64 1)) λa=>Y7 [a] h) (eT w (λs h=>zd (zy.l69 zbu.E C Q Y7 (s 0) (s 5) (s 6)) [(s 7),(s 8)] h) r (λs h r=>eK (eL w [0,5,6] [7,8] (on3 (zy.l69 zbu.E C Q Y7)) r (λY8 s h r=>e1 r)))) (λs h r=>e1 r)))) (λs h r=>e1 r)))))) (λs h r=>eS w (λs h=>zd (zy.l40 zbu.E C Q (s 0) (s 5)) [(.int .i64 0)] h) (eT w (λs h=>zd (zy.l59 zbu.E C Q (s 0) (s 5)) [(s 9)] h) r (λs h r=>eK (eL w [0,5] [9] (on2 (zy.l59 zbu.E C Q)) r (λY5 s h r=>eT w (λs h=>zd (zy.l49 zbu.E C Q Y5 (s 0) (s 5) (s 9)) [(.int .i64 0)] h) r (λs h r=>eS w (λs h=>B.pv (V.bin .add (s 9) (.int .i64 1)) λl=>Y5 [l] h) (eK (eT w (λs h=>zd (zy.l49 zbu.E C Q Y5 (s 0) (s 5) (s 9)) [(s 10)] h) r (λs h r=>eK (eL w [0,5,9] [10] (on3 (zy.l49 zbu.E C Q Y5)) r (λY6 s h r=>e1 r))))) (λs h r=>e1 r)))))) (λs h r=>eS w (λs h=>zd (zy.l15 zbu.E C Q (s 0) (s 5)) [(.int .i64 0)] h) (eT w (λs h=>zd (zy.l40 zbu.E C Q (s 0) (s 5)) [(s 11)] h) r (λs h r=>eK (eL w [0,5] [11] (on2 (zy.l40 zbu.E C Q)) r (λY3 s h r=>eT w (λs h=>0<8 /\ B.mks h 80 (some [.int .i64 0,.str [],.int .i64 0,.int .i64 0,.int .i64 0,.int .u8 0,.int .i64 0,.str []]) (.int .i64 64) (.int .i64 64) λc h=>zd (zy.l26 zbu.E C Q Y3 (s 0) (s 5) (s 11) c) [(.int .i64 0)] h) r (λs h r=>eS w (λs h=>B.pv (V.bin .add (s 11) (.int .i64 1)) λd=>Y3 [d] h) (eK (eT w (λs h=>zd (zy.l26 zbu.E C Q Y3 (s 0) (s 5) (s 11) (s 12)) [(.int .i64 0)] h) r (λs h r=>eS w (λs h=>zy.k22 zbu.E C Q Y3 (s 0) (s 5) (s 11) (s 12) h) (eT w (λs h=>zd (zy.l26 zbu.E C Q Y3 (s 0) (s 5) (s 11) (s 12)) [(s 13)] h) r (λs h r=>eK (eL w [0,5,11,12] [13] (on4 (zy.l26 zbu.E C Q Y3)) r (λY4 s h r=>e1 r)))) (λs h r=>e1 r)))) (λs h r=>e1 r)))))) (λs h r=>eS w (λs h=>Q (.bool true) h) (eT w (λs h=>zd (zy.l15 zbu.E C Q (s 0) (s 5)) [(s 14)] h) r (λs h r=>eK (eL w [0,5] [14] (on2 (zy.l15 zbu.E C Q)) r (λY1 s h r=>eT w (λs h=>zd (zy.l5 zbu.E C Q Y1 (s 0) (s 5) (s 14)) [(.int .i64 0)] h) r (λs h r=>eS w (λs h=>B.pv (V.bin .add (s 14) (.int .i64 1)) λe=>Y1 [e] h) (eK (eT w (λs h=>zd (zy.l5 zbu.E C Q Y1 (s 0) (s 5) (s 14)) [(s 15)] h) r (λs h r=>eK (eL w [0,5,14] [15] (on3 (zy.l5 zbu.E C Q Y1)) r (λY2 s h r=>e1 r))))) (λs h r=>e1 r)))))) (λs h r=>e1 r)))))))
theorem zbu.imp:zbu.Imp (AC P) N:=λa h Q r=>eF mixed (fn:=Tryz.f94) (λk=>zbu.L k (dn Q) (zbz [a]) h r)
def zh7.I:Bx:=⟨[],[],193,[(7,pz [(7,[3])] 10),(24,pz [(9,[3,6]),(30,[24,27])] 35),(41,pz [(9,[3,6]),(22,[16,19])] 26)]⟩
def zho.I:Bx:=⟨[],[],193,[(7,pz [(7,[3])] 10),(24,pz [(9,[3,6]),(30,[24,27])] 35),(41,pz [(9,[3,6]),(22,[16,19])] 26)]⟩
def zbc.I:Bx:=⟨[],[],193,[(7,pz [(7,[3])] 10),(24,pz [(9,[3,6]),(30,[24,27])] 35),(41,pz [(9,[3,6]),(22,[16,19])] 26)]⟩
abbrev zbc.E(C:zh):z8:=opsD C 6 96 [.int .i64 0,.int .i64 0,.int .i64 0,.zbj,.zbj,.zbj] (N 115) (N 116)
theorem zbc.L:LkT P zbc.I Tryz.f97 λC Q s h=>zbc.cps C N (s 0) h Q:=λ{C} w Q s h r=>eT w (λs h=>zd (zy.zph (zbc.E C) C Q (s 0)) [(.int .i64 0)] h) r (λs h r=>eS w (λs h=>B.pv (V.zbi (s 0)) λb=>0<1 /\ B.mks h 24 (some [.zbj]) b b λf h=>zd (zy.l82 (zbc.E C) C Q (s 0) f) [(.int .i64 0)] h) (eT w (λs h=>zd (zy.zph (zbc.E C) C Q (s 0)) [(s 3)] h) r (λs h r=>eK (eL w [0] [3] (on1 (zy.zph (zbc.E C) C Q)) r (λY9 s h r=>eT w (λs h=>zd (zy.l93 (zbc.E C) C Q Y9 (s 0) (s 3)) [(.int .i64 0)] h) r (λs h r=>eS w (λs h=>B.pv (V.bin .add (s 3) (.int .i64 1)) λg=>Y9 [g] h) (eK (eT w (λs h=>zd (zy.l93 (zbc.E C) C Q Y9 (s 0) (s 3)) [(s 4)] h) r (λs h r=>eK (eL w [0,3] [4] (on2 (zy.l93 (zbc.E C) C Q Y9)) r (λY10 s h r=>e1 r))))) (λs h r=>e1 r)))))) (λs h r=>eT w (λs h=>zd (zy.l82 (zbc.E C) C Q (s 0) (s 5)) [(.int .i64 0)] h) r (λs h r=>eS w (λs h=>zd (zy.l59 (zbc.E C) C Q (s 0) (s 5)) [(.int .i64 0)] h) (eT w (λs h=>zd (zy.l82 (zbc.E C) C Q (s 0) (s 5)) [(s 6)] h) r (λs h r=>eK (eL w [0,5] [6] (on2 (zy.l82 (zbc.E C) C Q)) r (λY7 s h r=>eT w (λs h=>B.pv (V.zb3 1 (s 0) (s 6)) λi=>B.ld h i λj=>zd (zy.l69 (zbc.E C) C Q Y7 (s 0) (s 5) (s 6)) [j,(.int .i64 0)] h) r (λs h r=>eS w (λs h=>B.pv (V.bin .add (s 6) (.int .i64 1)) λa=>Y7 [a] h) (eK (eT w (λs h=>zd (zy.l69 (zbc.E C) C Q Y7 (s 0) (s 5) (s 6)) [(s 7),(.int .i64 0)] h) r (λs h r=>eS w (λs h=>B.pv (V.zb3 1 (s 5) (s 6)) λk=>B.st h k (s 7) λh=>B.pv (V.bin .add (s 6) (.int .i64 1)) λa=>Y7 [a] h) (eT w (λs h=>zd (zy.l69 (zbc.E C) C Q Y7 (s 0) (s 5) (s 6)) [(s 7),(s 8)] h) r (λs h r=>eK (eL w [0,5,6] [7,8] (on3 (zy.l69 (zbc.E C) C Q Y7)) r (λY8 s h r=>e1 r)))) (λs h r=>e1 r)))) (λs h r=>e1 r)))))) (λs h r=>eS w (λs h=>zd (zy.l40 (zbc.E C) C Q (s 0) (s 5)) [(.int .i64 0)] h) (eT w (λs h=>zd (zy.l59 (zbc.E C) C Q (s 0) (s 5)) [(s 9)] h) r (λs h r=>eK (eL w [0,5] [9] (on2 (zy.l59 (zbc.E C) C Q)) r (λY5 s h r=>eT w (λs h=>zd (zy.l49 (zbc.E C) C Q Y5 (s 0) (s 5) (s 9)) [(.int .i64 0)] h) r (λs h r=>eS w (λs h=>B.pv (V.bin .add (s 9) (.int .i64 1)) λl=>Y5 [l] h) (eK (eT w (λs h=>zd (zy.l49 (zbc.E C) C Q Y5 (s 0) (s 5) (s 9)) [(s 10)] h) r (λs h r=>eK (eL w [0,5,9] [10] (on3 (zy.l49 (zbc.E C) C Q Y5)) r (λY6 s h r=>e1 r))))) (λs h r=>e1 r)))))) (λs h r=>eS w (λs h=>zd (zy.l15 (zbc.E C) C Q (s 0) (s 5)) [(.int .i64 0)] h) (eT w (λs h=>zd (zy.l40 (zbc.E C) C Q (s 0) (s 5)) [(s 11)] h) r (λs h r=>eK (eL w [0,5] [11] (on2 (zy.l40 (zbc.E C) C Q)) r (λY3 s h r=>eT w (λs h=>0<6 /\ B.mks h 96 (some [.int .i64 0,.int .i64 0,.int .i64 0,.zbj,.zbj,.zbj]) (.int .i64 64) (.int .i64 64) λc h=>zd (zy.l26 (zbc.E C) C Q Y3 (s 0) (s 5) (s 11) c) [(.int .i64 0)] h) r (λs h r=>eS w (λs h=>B.pv (V.bin .add (s 11) (.int .i64 1)) λd=>Y3 [d] h) (eK (eT w (λs h=>zd (zy.l26 (zbc.E C) C Q Y3 (s 0) (s 5) (s 11) (s 12)) [(.int .i64 0)] h) r (λs h r=>eS w (λs h=>zy.k22 (zbc.E C) C Q Y3 (s 0) (s 5) (s 11) (s 12) h) (eT w (λs h=>zd (zy.l26 (zbc.E C) C Q Y3 (s 0) (s 5) (s 11) (s 12)) [(s 13)] h) r (λs h r=>eK (eL w [0,5,11,12] [13] (on4 (zy.l26 (zbc.E C) C Q Y3)) r (λY4 s h r=>e1 r)))) (λs h r=>e1 r)))) (λs h r=>e1 r)))))) (λs h r=>eS w (λs h=>Q (.bool true) h) (eT w (λs h=>zd (zy.l15 (zbc.E C) C Q (s 0) (s 5)) [(s 14)] h) r (λs h r=>eK (eL w [0,5] [14] (on2 (zy.l15 (zbc.E C) C Q)) r (λY1 s h r=>eT w (λs h=>zd (zy.l5 (zbc.E C) C Q Y1 (s 0) (s 5) (s 14)) [(.int .i64 0)] h) r (λs h r=>eS w (λs h=>B.pv (V.bin .add (s 14) (.int .i64 1)) λe=>Y1 [e] h) (eK (eT w (λs h=>zd (zy.l5 (zbc.E C) C Q Y1 (s 0) (s 5) (s 14)) [(s 15)] h) r (λs h r=>eK (eL w [0,5,14] [15] (on3 (zy.l5 (zbc.E C) C Q Y1)) r (λY2 s h r=>e1 r))))) (λs h r=>e1 r)))))) (λs h r=>e1 r)))))))
theorem zbc.imp:zbc.Imp (AC P) N:=λa h Q r=>eF mixed (fn:=Tryz.f97) (λk=>zbc.L k (dn Q) (zbz [a]) h r)
def zh5.I:Bx:=⟨[],[],193,[(7,pz [(7,[3])] 10),(24,pz [(9,[3,6]),(30,[24,27])] 35),(41,pz [(9,[3,6]),(22,[16,19])] 26)]⟩
def zhn.I:Bx:=⟨[],[],193,[(7,pz [(7,[3])] 10),(24,pz [(9,[3,6]),(30,[24,27])] 35),(41,pz [(9,[3,6]),(22,[16,19])] 26)]⟩
def zht.I:Bx:=⟨[],[],193,[(7,pz [(7,[3])] 10),(24,pz [(9,[3,6]),(30,[24,27])] 35),(41,pz [(9,[3,6]),(22,[16,19])] 26)]⟩
def zg3.I:Bx:=⟨[],[],193,[(7,pz [(7,[3])] 10),(24,pz [(9,[3,6]),(30,[24,27])] 35),(41,pz [(9,[3,6]),(22,[16,19])] 26)]⟩
def zhr.I:Bx:=⟨[],[],193,[(7,pz [(7,[3])] 10),(24,pz [(9,[3,6]),(30,[24,27])] 35),(41,pz [(9,[3,6]),(22,[16,19])] 26)]⟩
def zg2.I:Bx:=⟨[],[],193,[(7,pz [(7,[3])] 10),(24,pz [(9,[3,6]),(30,[24,27])] 35),(41,pz [(9,[3,6]),(22,[16,19])] 26)]⟩
def zhq.I:Bx:=⟨[],[],193,[(7,pz [(7,[3])] 10),(24,pz [(9,[3,6]),(30,[24,27])] 35),(41,pz [(9,[3,6]),(22,[16,19])] 26)]⟩
def zhp.I:Bx:=⟨[],[],193,[(7,pz [(7,[3])] 10),(24,pz [(9,[3,6]),(30,[24,27])] 35),(41,pz [(9,[3,6]),(22,[16,19])] 26)]⟩
def zf4.I:Bx:=⟨[4],[],9,[]⟩
theorem zf4.L:LkT P zf4.I Tryz.f106 λC Q s h=>zf4.cps C N (s 0) (s 1) h Q:=λ{C} k Q s h r=>e1 r
theorem zf4.imp:zf4.Imp (AC P) N:=λa b h Q r=>eF mixed (fn:=Tryz.f106) (λk=>zf4.L k (dn Q) (zbz [a,b]) h r)
def zfe.I:Bx:=⟨[4],[],9,[]⟩
theorem zfe.L:LkT P zfe.I Tryz.f107 λC Q s h=>zfe.cps C N (s 0) (s 1) h Q:=λ{C} k Q s h r=>e1 r
theorem zfe.imp:zfe.Imp (AC P) N:=λa b h Q r=>eF mixed (fn:=Tryz.f107) (λk=>zfe.L k (dn Q) (zbz [a,b]) h r)
def zbq.I:Bx:=⟨[],[],19,[]⟩
abbrev zbq.E:z8:=ztv 4 72 [.str [],.int .i64 0,.zbj,.zbj] 0 []
theorem zbq.L:LkT P zbq.I Tryz.f108 λC Q s h=>zbq.cps C N (s 0) (s 1) h Q:=λ{C} k Q s h r=>eT k (λs h=>B.pv (V.zbi (s 0)) λa=>zd (zcq.l2 C zbq.E Q (s 0) (s 1) a) [(.int .i64 0)] h) r (λs h r=>eS k (λs h=>Q (.int .i64 (-1)) h) (eT k (λs h=>zd (zcq.l2 C zbq.E Q (s 0) (s 1) (s 7)) [(s 8)] h) r (λs h r=>eK (eL k [0,1,7] [8] (on3 (zcq.l2 C zbq.E Q)) r (λY1 s h r=>e1 r)))) (λs h r=>e1 r))
theorem zbq.imp:zbq.Imp (AC P) N:=λa b h Q r=>eF mixed (fn:=Tryz.f108) (λk=>zbq.L k (dn Q) (zbz [a,b]) h r)
def zp.I:Bx:=⟨[],[],36,[]⟩
theorem zp.L:LkT P zp.I Tryz.f109 λC Q s h=>zp.cps C N (s 0) h Q:=λ{C} k Q s h r=>eT k (λs h=>B.pv (V.zbi (s 0)) λa=>zd (zp.l4 C N Q (s 0) (s 0) a) [(.int .i64 0),(.int .i64 0)] h) r (λs h r=>eT k (λs h=>B.pv (V.zbi (s 0)) λa=>zd (zp.l4 C N Q (s 0) (s 0) a) [(s 3),(.int .i64 0)] h) r (λs h r=>eS k (λs h=>B.call C (N 376) [.zbj,(s 3)] h λc h=>B.pv (V.zbi (s 0)) λb=>zd (zp.l2 C N Q (s 0) b) [c,(.int .i64 0)] h) (eT k (λs h=>zd (zp.l4 C N Q (s 0) (s 9) (s 10)) [(s 3),(s 11)] h) r (λs h r=>eK (eL k [0,9,10] [3,11] (on3 (zp.l4 C N Q)) r (λY2 s h r=>e1 r)))) (λs h r=>eT k (λs h=>B.pv (V.zbi (s 0)) λb=>zd (zp.l2 C N Q (s 0) b) [(s 6),(.int .i64 0)] h) r (λs h r=>eS k (λs h=>Q (s 6) h) (eT k (λs h=>zd (zp.l2 C N Q (s 25) (s 26)) [(s 6),(s 27)] h) r (λs h r=>eK (eL k [25,26] [6,27] (on2 (zp.l2 C N Q)) r (λY1 s h r=>e1 r)))) (λs h r=>e1 r)))))
theorem zp.imp:zp.Imp (AC P) N:=λa h Q r=>eF mixed (fn:=Tryz.f109) (λk=>zp.L k (dn Q) (zbz [a]) h r)
def zce.I:Bx:=⟨[],[],19,[]⟩
theorem zce.L:LkT P zce.I Tryz.f110 λC Q s h=>zce.cps C N (s 0) (s 1) h Q:=λ{C} k Q s h r=>eT k (λs h=>B.pv (V.zbi (s 0)) λa=>zd (zg9.l2 C (zc7 16 (.str []) 0) Q (s 0) (s 1) a) [(.int .i64 0)] h) r (λs h r=>eS k (λs h=>Q (.int .i64 (-1)) h) (eT k (λs h=>zd (zg9.l2 C (zc7 16 (.str []) 0) Q (s 0) (s 1) (s 7)) [(s 8)] h) r (λs h r=>eK (eL k [0,1,7] [8] (on3 (zg9.l2 C (zc7 16 (.str []) 0) Q)) r (λY1 s h r=>e1 r)))) (λs h r=>e1 r))
theorem zce.imp:zce.Imp (AC P) N:=λa b h Q r=>eF mixed (fn:=Tryz.f110) (λk=>zce.L k (dn Q) (zbz [a,b]) h r)
def zfb.I:Bx:=⟨[3],[5,9,13],16,[]⟩
theorem zfb.L:LkT P zfb.I Tryz.f111 λC Q s h=>zfb.cps C N (s 0) (s 1) h Q:=λ{C} k Q s h r=>e1 r
theorem zfb.imp:zfb.Imp (AC P) N:=λa b h Q r=>eF mixed (fn:=Tryz.f111) (λk=>zfb.L k (dn Q) (zbz [a,b]) h r)
def zfd.I:Bx:=⟨[4],[],9,[]⟩
theorem zfd.L:LkT P zfd.I Tryz.f112 λC Q s h=>zfd.cps C N (s 0) (s 1) h Q:=λ{C} k Q s h r=>e1 r
theorem zfd.imp:zfd.Imp (AC P) N:=λa b h Q r=>eF mixed (fn:=Tryz.f112) (λk=>zfd.L k (dn Q) (zbz [a,b]) h r)
def zcs.I:Bx:=⟨[],[],49,[(4,pz [] 15),(6,pz [] 18)]⟩
theorem zcs.L:LkT P zcs.I Tryz.f113 λC Q s h=>zcs.cps C N (s 0) (s 1) (s 2) h Q:=λ{C} k Q s h r=>eT k (λs h=>zd (zcr.l3 C (zc7 16 (.str []) 0) (N 377) Q (s 0) (s 1) (s 2)) [(s 6)] h) r (λs h r=>eK (eL k [0,1,2] [6] (on3 (zcr.l3 C (zc7 16 (.str []) 0) (N 377) Q)) r (λY1 s h r=>eT k (λs h=>zd (zcr.l2 C (zc7 16 (.str []) 0) (N 377) Q Y1 (s 0) (s 1) (s 2) (s 6)) [(s 6)] h) r (λs h r=>eS k (λs h=>B.pv (V.bin .add (s 6) (.int .i64 1)) λa=>Y1 [a] h) (eK (eT k (λs h=>zd (zcr.l2 C (zc7 16 (.str []) 0) (N 377) Q Y1 (s 0) (s 1) (s 2) (s 6)) [(s 7)] h) r (λs h r=>eK (eL k [0,1,2,6] [7] (on4 (zcr.l2 C (zc7 16 (.str []) 0) (N 377) Q Y1)) r (λY2 s h r=>e1 r))))) (λs h r=>e1 r)))))
theorem zcs.imp:zcs.Imp (AC P) N:=λa b c h Q r=>eF mixed (fn:=Tryz.f113) (λk=>zcs.L k (dn Q) (zbz [a,b,c]) h r)
def zdk.I:Bx:=⟨[],[],56,[(10,pz [] 20)]⟩
theorem zdk.L:LkT P zdk.I Tryz.f114 λC Q s h=>zdk.cps C N (s 0) (s 1) (s 2) h Q:=λ{C} k Q s h r=>eT k (λs h=>B.pv (V.bin .sub (s 2) (s 1)) λa=>zcd.k5 C (zc7 16 (.str []) 0) (N 386) Q (s 0) (s 6) (.int .i64 0) a h) r (λs h r=>eT k (λs h=>B.pv (V.bin .sub (s 2) (s 1)) λa=>zcd.k5 C (zc7 16 (.str []) 0) (N 386) Q (s 0) (s 6) (s 7) a h) r (λs h r=>eT k (λs h=>zcd.k5 C (zc7 16 (.str []) 0) (N 386) Q (s 0) (s 6) (s 7) (s 8) h) r (λs h r=>eS k (λs h=>B.pv (V.bin .sub (s 8) (.int .i64 1)) λb=>zd (zcd.l2 C (zc7 16 (.str []) 0) (N 386) Q (s 0) (s 6) (s 7)) [b] h) (eT k (λs h=>zd (zcd.l4 C (zc7 16 (.str []) 0) (N 386) Q (s 0) (s 6) (s 7) (s 8)) [(s 9)] h) r (λs h r=>eK (eL k [0,6,7,8] [9] (on4 (zcd.l4 C (zc7 16 (.str []) 0) (N 386) Q)) r (λY2 s h r=>e1 r)))) (λs h r=>eT k (λs h=>zd (zcd.l2 C (zc7 16 (.str []) 0) (N 386) Q (s 0) (s 6) (s 7)) [(s 10)] h) r (λs h r=>eK (eL k [0,6,7] [10] (on3 (zcd.l2 C (zc7 16 (.str []) 0) (N 386) Q)) r (λY1 s h r=>e1 r)))))))
theorem zdk.imp:zdk.Imp (AC P) N:=λa b c h Q r=>eF mixed (fn:=Tryz.f114) (λk=>zdk.L k (dn Q) (zbz [a,b,c]) h r)
def zcu.I:Bx:=⟨[],[],65,[(10,pz [] 20)]⟩
theorem zcu.L:LkT P zcu.I Tryz.f115 λC Q s h=>zcu.cps C N (s 0) (s 1) (s 2) h Q:=λ{C} k Q s h r=>eT k (λs h=>B.pv (V.bin .geq (s 6) (.int .i64 8)) λa=>B.cond a (z6.k7 C (zc7 16 (.str []) 0) (N 298) (N 299) Q (s 0) (s 1) (s 6) h) (Q (.tup []) h)) r (λs h r=>eT k (λs h=>B.cond (s 15) (z6.k7 C (zc7 16 (.str []) 0) (N 298) (N 299) Q (s 0) (s 1) (s 6) h) (Q (.tup []) h)) r (λs h r=>eC 15 r (λr=>eT k (λs h=>B.call C (N 299) [(s 6)] h λb h=>z6.k6 C (zc7 16 (.str []) 0) (N 298) (N 299) Q (s 0) (s 1) (s 6) (s 7) b h) r (λs h r=>eT k (λs h=>z6.k6 C (zc7 16 (.str []) 0) (N 298) (N 299) Q (s 0) (s 1) (s 6) (s 7) (s 8) h) r (λs h r=>eT k (λs h=>zd (z6.l5 C (zc7 16 (.str []) 0) (N 298) (N 299) Q (s 0) (s 1) (s 6) (s 7) (s 8)) [(s 9)] h) r (λs h r=>eK (eL k [0,1,6,7,8] [9] (on5 (z6.l5 C (zc7 16 (.str []) 0) (N 298) (N 299) Q)) r (λY1 s h r=>eT k (λs h=>z6.k3 C (zc7 16 (.str []) 0) (N 298) (N 299) Q Y1 (s 0) (s 1) (s 6) (s 7) (s 8) (s 9) h) r (λs h r=>eS k (λs h=>B.pv (V.bin .add (s 9) (.int .i64 1)) λc=>Y1 [c] h) (eK (eT k (λs h=>z6.k2 C (zc7 16 (.str []) 0) (N 298) (N 299) Q Y1 (s 0) (s 1) (s 6) (s 7) (s 8) (s 9) (s 10) h) r (λs h r=>eT k (λs h=>z6.k1 C (zc7 16 (.str []) 0) (N 298) (N 299) Q Y1 (s 0) (s 1) (s 6) (s 7) (s 8) (s 9) (s 10) h) r (λs h r=>e1 r)))) (λs h r=>e1 r)))))))) (λr=>e1 r)))
theorem zcu.imp:zcu.Imp (AC P) N:=λa b c h Q r=>eF mixed (fn:=Tryz.f115) (λk=>zcu.L k (dn Q) (zbz [a,b,c]) h r)
def zc4.I:Bx:=⟨[],[],57,[]⟩
theorem zc4.L:LkT P zc4.I Tryz.f116 λC Q s h=>zc4.cps C N (s 0) (s 1) (s 2) h Q:=λ{C} k Q s h r=>eT k (λs h=>B.pv (V.bin .sub (s 2) (s 1)) λb=>B.zg1 h (some [.int .i64 0]) λa h=>zbp.k5 C (zc7 16 (.str []) 0) (N 387) (N 388) Q (s 0) (s 1) b (.ptr a 0 0) h) r (λs h r=>eT k (λs h=>B.zg1 h (some [.int .i64 0]) λa h=>zbp.k5 C (zc7 16 (.str []) 0) (N 387) (N 388) Q (s 0) (s 1) (s 8) (.ptr a 0 0) h) r (λs h r=>eT k (λs h=>zbp.k5 C (zc7 16 (.str []) 0) (N 387) (N 388) Q (s 0) (s 1) (s 8) (s 9) h) r (λs h r=>eT k (λs h=>zbp.k4 C (zc7 16 (.str []) 0) (N 387) (N 388) Q (s 0) (s 1) (s 8) (s 9) (s 10) h) r (λs h r=>eT k (λs h=>zbp.k3 C (zc7 16 (.str []) 0) (N 387) (N 388) Q (s 0) (s 1) (s 8) (s 9) (s 10) (s 11) h) r (λs h r=>eT k (λs h=>zbp.k2 C (zc7 16 (.str []) 0) (N 387) (N 388) Q (s 0) (s 8) (s 9) (s 10) (s 11) (s 12) h) r (λs h r=>eT k (λs h=>zbp.k1 C (zc7 16 (.str []) 0) (N 387) (N 388) Q (s 9) (s 11) h) r (λs h r=>e1 r)))))))
theorem zc4.imp:zc4.Imp (AC P) N:=λa b c h Q r=>eF mixed (fn:=Tryz.f116) (λk=>zc4.L k (dn Q) (zbz [a,b,c]) h r)
def zcy.I:Bx:=⟨[],[],32,[(3,pz [] 16)]⟩
theorem zcy.L:LkT P zcy.I Tryz.f117 λC Q s h=>zcy.cps C N (s 0) (s 1) (s 2) h Q:=λ{C} k Q s h r=>eT k (λs h=>B.pv (V.bin .sub (s 2) (.int .i64 1)) λa=>zd (zd6.l2 C (zc7 16 (.str []) 0) Q (s 0)) [(s 6),a] h) r (λs h r=>eT k (λs h=>zd (zd6.l2 C (zc7 16 (.str []) 0) Q (s 0)) [(s 6),(s 7)] h) r (λs h r=>eK (eL k [0] [6,7] (on1 (zd6.l2 C (zc7 16 (.str []) 0) Q)) r (λY1 s h r=>e1 r))))
theorem zcy.imp:zcy.Imp (AC P) N:=λa b c h Q r=>eF mixed (fn:=Tryz.f117) (λk=>zcy.L k (dn Q) (zbz [a,b,c]) h r)
def zb9.I:Bx:=⟨[],[],133,[(5,pz [] 16),(11,pz [] 18),(16,pz [] 11),(17,pz [] 18),(22,pz [] 11),(23,pz [] 18)]⟩
theorem zb9.L:LkT P zb9.I Tryz.f118 λC Q s h=>zb9.cps C N (s 0) (s 1) (s 2) h Q:=λ{C} k Q s h r=>eT k (λs h=>B.pv (V.bin .add (s 1) (.int .i64 1)) λc=>zd (zi.l12 C (zc7 16 (.str []) 0) (N 377) Q (s 0) (s 1) (s 2)) [c,(.int .i64 0)] h) r (λs h r=>eT k (λs h=>zd (zi.l12 C (zc7 16 (.str []) 0) (N 377) Q (s 0) (s 1) (s 2)) [(s 7),(.int .i64 0)] h) r (λs h r=>eS k (λs h=>Q (.bool false) h) (eT k (λs h=>zd (zi.l12 C (zc7 16 (.str []) 0) (N 377) Q (s 0) (s 1) (s 2)) [(s 7),(s 8)] h) r (λs h r=>eK (eL k [0,1,2] [7,8] (on3 (zi.l12 C (zc7 16 (.str []) 0) (N 377) Q)) r (λY1 s h r=>eT k (λs h=>zd (zi.l10 C (zc7 16 (.str []) 0) (N 377) Q Y1 (s 0) (s 1) (s 2) (s 8)) [(s 7)] h) r (λs h r=>eS k (λs h=>B.pv (V.bin .add (s 8) (.int .i64 1)) λa=>Y1 [(s 7),a] h) (eK (eS k (λs h=>B.pv (V.bin .eql (s 7) (s 2)) λd=>B.cond d (Q (.bool true) h) (zi.k8 C (zc7 16 (.str []) 0) (N 377) Q Y1 (s 0) (s 1) (s 2) (s 7) (s 8) h)) (eK (eL k [0,1,2,8] [7] (on4 (zi.l10 C (zc7 16 (.str []) 0) (N 377) Q Y1)) r (λY4 s h r=>e1 r))) (λs h r=>eT k (λs h=>zi.k8 C (zc7 16 (.str []) 0) (N 377) Q Y1 (s 0) (s 1) (s 2) (s 7) (s 8) h) r (λs h r=>eT k (λs h=>zi.k7 C (zc7 16 (.str []) 0) (N 377) Q Y1 (s 0) (s 1) (s 2) (s 7) (s 8) h) r (λs h r=>eT k (λs h=>zi.k6 C (zc7 16 (.str []) 0) (N 377) Q Y1 (s 0) (s 1) (s 2) (s 7) (s 8) h) r (λs h r=>eS k (λs h=>zi.k3 C (zc7 16 (.str []) 0) (N 377) Q Y1 (s 0) (s 1) (s 2) (s 7) (s 8) h) (eT k (λs h=>B.cond (s 61) (B.pv (V.bin .sub (s 7) (.int .i64 1)) λe=>zd (zi.l5 C (zc7 16 (.str []) 0) (N 377) Q Y1 (s 0) (s 1) (s 2) (s 7) (s 8)) [e] h) (zi.k3 C (zc7 16 (.str []) 0) (N 377) Q Y1 (s 0) (s 1) (s 2) (s 7) (s 8) h)) r (λs h r=>eC 61 r (λr=>eT k (λs h=>zd (zi.l5 C (zc7 16 (.str []) 0) (N 377) Q Y1 (s 0) (s 1) (s 2) (s 7) (s 8)) [(s 9)] h) r (λs h r=>eK (eL k [0,1,2,7,8] [9] (on5 (zi.l5 C (zc7 16 (.str []) 0) (N 377) Q Y1)) r (λY3 s h r=>e1 r)))) (λr=>e1 r))) (λs h r=>eT k (λs h=>B.cond (s 98) (B.pv (V.bin .add (s 7) (.int .i64 1)) λb=>zd (zi.l2 C (zc7 16 (.str []) 0) (N 377) Q Y1 (s 0) (s 1) (s 2) (s 7) (s 8)) [b] h) (B.pv (V.bin .add (s 8) (.int .i64 1)) λa=>Y1 [(s 7),a] h)) r (λs h r=>eC 98 r (λr=>eT k (λs h=>zd (zi.l2 C (zc7 16 (.str []) 0) (N 377) Q Y1 (s 0) (s 1) (s 2) (s 7) (s 8)) [(s 10)] h) r (λs h r=>eK (eL k [0,1,2,7,8] [10] (on5 (zi.l2 C (zc7 16 (.str []) 0) (N 377) Q Y1)) r (λY2 s h r=>e1 r)))) (λr=>e1 r))))))))) (λs h r=>e1 r)))))) (λs h r=>e1 r)))
theorem zb9.imp:zb9.Imp (AC P) N:=λa b c h Q r=>eF mixed (fn:=Tryz.f118) (λk=>zb9.L k (dn Q) (zbz [a,b,c]) h r)
def zen.I:Bx:=⟨[],[],17,[]⟩
theorem zen.L:LkT P zen.I Tryz.f119 λC Q s h=>zen.cps C N (s 0) (s 1) h Q:=λ{C} k Q s h r=>e1 r
theorem zen.imp:zen.Imp (AC P) N:=λa b h Q r=>eF mixed (fn:=Tryz.f119) (λk=>zen.L k (dn Q) (zbz [a,b]) h r)
def zcm.I:Bx:=⟨[],[],84,[(1,pz [] 16),(3,pz [] 15),(5,pz [] 14),(8,pz [] 16)]⟩
theorem zcm.L:LkT P zcm.I Tryz.f120 λC Q s h=>zcm.cps C N (s 0) (s 1) (s 2) (s 3) h Q:=λ{C} k Q s h r=>eT k (λs h=>z7.k8 C (zc7 16 (.str []) 0) (N 377) Q (s 0) (s 1) (s 2) (s 3) h) r (λs h r=>eT k (λs h=>z7.k7 C (zc7 16 (.str []) 0) (N 377) Q (s 0) (s 1) (s 2) h) r (λs h r=>eT k (λs h=>zd (z7.l6 C (zc7 16 (.str []) 0) (N 377) Q (s 0) (s 1)) [(s 9),(s 10)] h) r (λs h r=>eS k (λs h=>Q (s 9) h) (eK (eL k [0,1] [9,10] (on2 (z7.l6 C (zc7 16 (.str []) 0) (N 377) Q)) r (λY1 s h r=>eK (eS k (λs h=>zd (z7.l3 C (zc7 16 (.str []) 0) (N 377) Q Y1 (s 0) (s 1) (s 9)) [(s 10)] h) (eK (eL k [0,1,10] [9] (on3 (z7.l5 C (zc7 16 (.str []) 0) (N 377) Q Y1)) r (λY3 s h r=>e1 r))) (λs h r=>eS k (λs h=>z7.k1 C (zc7 16 (.str []) 0) (N 377) Q Y1 (s 0) (s 1) (s 9) (s 10) h) (eK (eL k [0,1,9] [10] (on3 (z7.l3 C (zc7 16 (.str []) 0) (N 377) Q Y1)) r (λY2 s h r=>e1 r))) (λs h r=>e1 r)))))) (λs h r=>e1 r))))
theorem zcm.imp:zcm.Imp (AC P) N:=λa b c d h Q r=>eF mixed (fn:=Tryz.f120) (λk=>zcm.L k (dn Q) (zbz [a,b,c,d]) h r)
def zdd.I:Bx:=⟨[],[],168,[(1,pz [] 16),(3,pz [] 14),(5,pz [] 15),(8,pz [] 16),(10,pz [] 16),(13,pz [] 14),(15,pz [] 15),(18,pz [] 16),(21,pz [] 16)]⟩
theorem zdd.L:LkT P zdd.I Tryz.f121 λC Q s h=>zdd.cps C N (s 0) (s 1) (s 2) (s 3) h Q:=λ{C} k Q s h r=>eT k (λs h=>zl.k16 C (zc7 16 (.str []) 0) (N 377) Q (s 0) (s 1) (s 2) (s 3) h) r (λs h r=>eT k (λs h=>zl.k15 C (zc7 16 (.str []) 0) (N 377) Q (s 0) (s 1) (s 2) h) r (λs h r=>eT k (λs h=>zd (zl.l14 C (zc7 16 (.str []) 0) (N 377) Q (s 0) (s 1) (s 11)) [(s 10)] h) r (λs h r=>eS k (λs h=>zd (zl.l12 C (zc7 16 (.str []) 0) (N 377) Q (s 0) (s 1) (s 10)) [(s 11)] h) (eK (eL k [0,1,11] [10] (on3 (zl.l14 C (zc7 16 (.str []) 0) (N 377) Q)) r (λY5 s h r=>e1 r))) (λs h r=>eS k (λs h=>zl.k10 C (zc7 16 (.str []) 0) (N 377) Q (s 0) (s 1) (s 10) (s 11) h) (eK (eL k [0,1,10] [11] (on3 (zl.l12 C (zc7 16 (.str []) 0) (N 377) Q)) r (λY4 s h r=>e1 r))) (λs h r=>eT k (λs h=>zl.k9 C (zc7 16 (.str []) 0) (N 377) Q (s 0) (s 1) (s 10) (s 11) h) r (λs h r=>eT k (λs h=>zl.k8 C (zc7 16 (.str []) 0) (N 377) Q (s 0) (s 1) (s 10) (s 11) h) r (λs h r=>eT k (λs h=>B.pv (V.bin .sub (s 11) (.int .i64 1)) λa=>zd (zl.l7 C (zc7 16 (.str []) 0) (N 377) Q (s 0) (s 1)) [(s 10),a] h) r (λs h r=>eT k (λs h=>zd (zl.l7 C (zc7 16 (.str []) 0) (N 377) Q (s 0) (s 1)) [(s 10),(s 11)] h) r (λs h r=>eS k (λs h=>zl.k1 C (zc7 16 (.str []) 0) (N 377) Q (s 0) (s 1) (s 11) h) (eK (eL k [0,1] [10,11] (on2 (zl.l7 C (zc7 16 (.str []) 0) (N 377) Q)) r (λY1 s h r=>eK (eS k (λs h=>zd (zl.l4 C (zc7 16 (.str []) 0) (N 377) Q Y1 (s 0) (s 1) (s 10)) [(s 11)] h) (eK (eL k [0,1,11] [10] (on3 (zl.l6 C (zc7 16 (.str []) 0) (N 377) Q Y1)) r (λY3 s h r=>e1 r))) (λs h r=>eS k (λs h=>zl.k2 C (zc7 16 (.str []) 0) (N 377) Q Y1 (s 0) (s 1) (s 10) (s 11) h) (eK (eL k [0,1,10] [11] (on3 (zl.l4 C (zc7 16 (.str []) 0) (N 377) Q Y1)) r (λY2 s h r=>e1 r))) (λs h r=>e1 r)))))) (λs h r=>e1 r))))))))))
theorem zdd.imp:zdd.Imp (AC P) N:=λa b c d h Q r=>eF mixed (fn:=Tryz.f121) (λk=>zdd.L k (dn Q) (zbz [a,b,c,d]) h r)
def zcf.I:Bx:=⟨[],[],25,[]⟩
theorem zcf.L:LkT P zcf.I Tryz.f123 λC Q s h=>zcf.cps C N (s 0) h Q:=λ{C} k Q s h r=>eT k (λs h=>zcf.k4 C N Q (s 0) (s 2) h) r (λs h r=>eT k (λs h=>zcf.k3 C N Q (s 0) (s 2) h) r (λs h r=>eT k (λs h=>zcf.k2 C N Q (s 0) (s 2) h) r (λs h r=>eT k (λs h=>zcf.k1 C N Q (s 0) (s 2) h) r (λs h r=>e1 r))))
theorem zcf.imp:zcf.Imp (AC P) N:=λa h Q r=>eF mixed (fn:=Tryz.f123) (λk=>zcf.L k (dn Q) (zbz [a]) h r)
def zct.I:Bx:=⟨[],[],53,[(4,pz [] 17),(6,pz [] 18)]⟩
theorem zct.L:LkT P zct.I Tryz.f124 λC Q s h=>zct.cps C N (s 0) (s 1) (s 2) (s 3) h Q:=λ{C} k Q s h r=>eT k (λs h=>zd (zbr.l3 C (zc7 24 (.zbj) 0) Q (s 0) (s 1) (s 2) (s 3)) [(s 8)] h) r (λs h r=>eK (eL k [0,1,2,3] [8] (on4 (zbr.l3 C (zc7 24 (.zbj) 0) Q)) r (λY1 s h r=>eT k (λs h=>zd (zbr.l2 C (zc7 24 (.zbj) 0) Q Y1 (s 0) (s 1) (s 2) (s 3) (s 8)) [(s 8)] h) r (λs h r=>eS k (λs h=>B.pv (V.bin .add (s 8) (.int .i64 1)) λa=>Y1 [a] h) (eK (eT k (λs h=>zd (zbr.l2 C (zc7 24 (.zbj) 0) Q Y1 (s 0) (s 1) (s 2) (s 3) (s 8)) [(s 9)] h) r (λs h r=>eK (eL k [0,1,2,3,8] [9] (on5 (zbr.l2 C (zc7 24 (.zbj) 0) Q Y1)) r (λY2 s h r=>e1 r))))) (λs h r=>e1 r)))))
theorem zct.imp:zct.Imp (AC P) N:=λa b c d h Q r=>eF mixed (fn:=Tryz.f124) (λk=>zct.L k (dn Q) (zbz [a,b,c,d]) h r)
def zdl.I:Bx:=⟨[],[],60,[(10,pz [] 20)]⟩
theorem zdl.L:LkT P zdl.I Tryz.f125 λC Q s h=>zdl.cps C N (s 0) (s 1) (s 2) (s 3) h Q:=λ{C} k Q s h r=>eT k (λs h=>B.pv (V.bin .sub (s 2) (s 1)) λa=>zbn.k5 C (zc7 24 (.zbj) 0) (N 591) Q (s 0) (s 3) (s 8) (.int .i64 0) a h) r (λs h r=>eT k (λs h=>B.pv (V.bin .sub (s 2) (s 1)) λa=>zbn.k5 C (zc7 24 (.zbj) 0) (N 591) Q (s 0) (s 3) (s 8) (s 9) a h) r (λs h r=>eT k (λs h=>zbn.k5 C (zc7 24 (.zbj) 0) (N 591) Q (s 0) (s 3) (s 8) (s 9) (s 10) h) r (λs h r=>eS k (λs h=>B.pv (V.bin .sub (s 10) (.int .i64 1)) λb=>zd (zbn.l2 C (zc7 24 (.zbj) 0) (N 591) Q (s 0) (s 3) (s 8) (s 9)) [b] h) (eT k (λs h=>zd (zbn.l4 C (zc7 24 (.zbj) 0) (N 591) Q (s 0) (s 3) (s 8) (s 9) (s 10)) [(s 11)] h) r (λs h r=>eK (eL k [0,3,8,9,10] [11] (on5 (zbn.l4 C (zc7 24 (.zbj) 0) (N 591) Q)) r (λY2 s h r=>e1 r)))) (λs h r=>eT k (λs h=>zd (zbn.l2 C (zc7 24 (.zbj) 0) (N 591) Q (s 0) (s 3) (s 8) (s 9)) [(s 12)] h) r (λs h r=>eK (eL k [0,3,8,9] [12] (on4 (zbn.l2 C (zc7 24 (.zbj) 0) (N 591) Q)) r (λY1 s h r=>e1 r)))))))
theorem zdl.imp:zdl.Imp (AC P) N:=λa b c d h Q r=>eF mixed (fn:=Tryz.f125) (λk=>zdl.L k (dn Q) (zbz [a,b,c,d]) h r)
def zcv.I:Bx:=⟨[],[],67,[(10,pz [] 20)]⟩
theorem zcv.L:LkT P zcv.I Tryz.f126 λC Q s h=>zcv.cps C N (s 0) (s 1) (s 2) (s 3) h Q:=λ{C} k Q s h r=>eT k (λs h=>B.pv (V.bin .geq (s 8) (.int .i64 8)) λa=>B.cond a (zo.k7 C (zc7 24 (.zbj) 0) (N 298) (N 299) Q (s 0) (s 1) (s 8) h) (Q (.tup []) h)) r (λs h r=>eT k (λs h=>B.cond (s 17) (zo.k7 C (zc7 24 (.zbj) 0) (N 298) (N 299) Q (s 0) (s 1) (s 8) h) (Q (.tup []) h)) r (λs h r=>eC 17 r (λr=>eT k (λs h=>B.call C (N 299) [(s 8)] h λb h=>zo.k6 C (zc7 24 (.zbj) 0) (N 298) (N 299) Q (s 0) (s 1) (s 8) (s 9) b h) r (λs h r=>eT k (λs h=>zo.k6 C (zc7 24 (.zbj) 0) (N 298) (N 299) Q (s 0) (s 1) (s 8) (s 9) (s 10) h) r (λs h r=>eT k (λs h=>zd (zo.l5 C (zc7 24 (.zbj) 0) (N 298) (N 299) Q (s 0) (s 1) (s 8) (s 9) (s 10)) [(s 11)] h) r (λs h r=>eK (eL k [0,1,8,9,10] [11] (on5 (zo.l5 C (zc7 24 (.zbj) 0) (N 298) (N 299) Q)) r (λY1 s h r=>eT k (λs h=>zo.k3 C (zc7 24 (.zbj) 0) (N 298) (N 299) Q Y1 (s 0) (s 1) (s 8) (s 9) (s 10) (s 11) h) r (λs h r=>eS k (λs h=>B.pv (V.bin .add (s 11) (.int .i64 1)) λc=>Y1 [c] h) (eK (eT k (λs h=>zo.k2 C (zc7 24 (.zbj) 0) (N 298) (N 299) Q Y1 (s 0) (s 1) (s 8) (s 9) (s 10) (s 11) (s 12) h) r (λs h r=>eT k (λs h=>zo.k1 C (zc7 24 (.zbj) 0) (N 298) (N 299) Q Y1 (s 0) (s 1) (s 8) (s 9) (s 10) (s 11) (s 12) h) r (λs h r=>e1 r)))) (λs h r=>e1 r)))))))) (λr=>e1 r)))
theorem zcv.imp:zcv.Imp (AC P) N:=λa b c d h Q r=>eF mixed (fn:=Tryz.f126) (λk=>zcv.L k (dn Q) (zbz [a,b,c,d]) h r)
def zc5.I:Bx:=⟨[],[],63,[]⟩
theorem zc5.L:LkT P zc5.I Tryz.f127 λC Q s h=>zc5.cps C N (s 0) (s 1) (s 2) (s 3) h Q:=λ{C} k Q s h r=>eT k (λs h=>B.pv (V.bin .sub (s 2) (s 1)) λb=>B.zg1 h (some [.int .i64 0]) λa h=>zu.k6 C (zc7 24 (.zbj) 0) (N 589) (N 590) Q (s 0) (s 1) (s 3) b (.ptr a 0 0) h) r (λs h r=>eT k (λs h=>B.zg1 h (some [.int .i64 0]) λa h=>zu.k6 C (zc7 24 (.zbj) 0) (N 589) (N 590) Q (s 0) (s 1) (s 3) (s 10) (.ptr a 0 0) h) r (λs h r=>eT k (λs h=>zu.k6 C (zc7 24 (.zbj) 0) (N 589) (N 590) Q (s 0) (s 1) (s 3) (s 10) (s 11) h) r (λs h r=>eT k (λs h=>zu.k5 C (zc7 24 (.zbj) 0) (N 589) (N 590) Q (s 0) (s 1) (s 3) (s 10) (s 11) (s 12) h) r (λs h r=>eT k (λs h=>zu.k4 C (zc7 24 (.zbj) 0) (N 589) (N 590) Q (s 0) (s 1) (s 3) (s 10) (s 11) (s 12) (s 13) h) r (λs h r=>eT k (λs h=>zu.k3 C (zc7 24 (.zbj) 0) (N 589) (N 590) Q (s 0) (s 3) (s 10) (s 11) (s 12) (s 13) (s 14) h) r (λs h r=>eS k (λs h=>zu.k1 C (zc7 24 (.zbj) 0) (N 589) (N 590) Q (s 11) (s 13) h) (eT k (λs h=>B.cond (s 34) (zu.k2 C (zc7 24 (.zbj) 0) (N 589) (N 590) Q (s 0) (s 3) (s 10) (s 11) (s 12) (s 13) (s 14) h) (zu.k1 C (zc7 24 (.zbj) 0) (N 589) (N 590) Q (s 11) (s 13) h)) r (λs h r=>eC 34 r (λr=>eT k (λs h=>B.call C (N 589) [(s 0),(s 12),(s 13),(s 14),(s 11),(s 3)] h λc h=>zu.k1 C (zc7 24 (.zbj) 0) (N 589) (N 590) Q (s 11) c h) r (λs h r=>e1 r)) (λr=>e1 r))) (λs h r=>e1 r)))))))
theorem zc5.imp:zc5.Imp (AC P) N:=λa b c d h Q r=>eF mixed (fn:=Tryz.f127) (λk=>zc5.L k (dn Q) (zbz [a,b,c,d]) h r)
def zcz.I:Bx:=⟨[],[],34,[(3,pz [] 16)]⟩
theorem zcz.L:LkT P zcz.I Tryz.f128 λC Q s h=>zcz.cps C N (s 0) (s 1) (s 2) (s 3) h Q:=λ{C} k Q s h r=>eT k (λs h=>B.pv (V.bin .sub (s 2) (.int .i64 1)) λa=>zd (zc8.l2 C (zc7 24 (.zbj) 0) Q (s 0)) [(s 8),a] h) r (λs h r=>eT k (λs h=>zd (zc8.l2 C (zc7 24 (.zbj) 0) Q (s 0)) [(s 8),(s 9)] h) r (λs h r=>eK (eL k [0] [8,9] (on1 (zc8.l2 C (zc7 24 (.zbj) 0) Q)) r (λY1 s h r=>e1 r))))
theorem zcz.imp:zcz.Imp (AC P) N:=λa b c d h Q r=>eF mixed (fn:=Tryz.f128) (λk=>zcz.L k (dn Q) (zbz [a,b,c,d]) h r)
def zca.I:Bx:=⟨[],[],141,[(5,pz [] 18),(11,pz [] 18),(16,pz [] 13),(17,pz [] 18),(22,pz [] 13),(23,pz [] 18)]⟩
theorem zca.L:LkT P zca.I Tryz.f129 λC Q s h=>zca.cps C N (s 0) (s 1) (s 2) (s 3) h Q:=λ{C} k Q s h r=>eT k (λs h=>B.pv (V.bin .add (s 1) (.int .i64 1)) λc=>zd (zf.l12 C (zc7 24 (.zbj) 0) Q (s 0) (s 1) (s 2) (s 3)) [c,(.int .i64 0)] h) r (λs h r=>eT k (λs h=>zd (zf.l12 C (zc7 24 (.zbj) 0) Q (s 0) (s 1) (s 2) (s 3)) [(s 9),(.int .i64 0)] h) r (λs h r=>eS k (λs h=>Q (.bool false) h) (eT k (λs h=>zd (zf.l12 C (zc7 24 (.zbj) 0) Q (s 0) (s 1) (s 2) (s 3)) [(s 9),(s 10)] h) r (λs h r=>eK (eL k [0,1,2,3] [9,10] (on4 (zf.l12 C (zc7 24 (.zbj) 0) Q)) r (λY1 s h r=>eT k (λs h=>zd (zf.l10 C (zc7 24 (.zbj) 0) Q Y1 (s 0) (s 1) (s 2) (s 3) (s 10)) [(s 9)] h) r (λs h r=>eS k (λs h=>B.pv (V.bin .add (s 10) (.int .i64 1)) λa=>Y1 [(s 9),a] h) (eK (eS k (λs h=>B.pv (V.bin .eql (s 9) (s 2)) λd=>B.cond d (Q (.bool true) h) (zf.k8 C (zc7 24 (.zbj) 0) Q Y1 (s 0) (s 1) (s 2) (s 3) (s 9) (s 10) h)) (eK (eL k [0,1,2,3,10] [9] (on5 (zf.l10 C (zc7 24 (.zbj) 0) Q Y1)) r (λY4 s h r=>e1 r))) (λs h r=>eT k (λs h=>zf.k8 C (zc7 24 (.zbj) 0) Q Y1 (s 0) (s 1) (s 2) (s 3) (s 9) (s 10) h) r (λs h r=>eT k (λs h=>zf.k7 C (zc7 24 (.zbj) 0) Q Y1 (s 0) (s 1) (s 2) (s 3) (s 9) (s 10) h) r (λs h r=>eT k (λs h=>zf.k6 C (zc7 24 (.zbj) 0) Q Y1 (s 0) (s 1) (s 2) (s 3) (s 9) (s 10) h) r (λs h r=>eS k (λs h=>zf.k3 C (zc7 24 (.zbj) 0) Q Y1 (s 0) (s 1) (s 2) (s 3) (s 9) (s 10) h) (eT k (λs h=>B.cond (s 65) (B.pv (V.bin .sub (s 9) (.int .i64 1)) λe=>zd (zf.l5 C (zc7 24 (.zbj) 0) Q Y1 (s 0) (s 1) (s 2) (s 3) (s 9) (s 10)) [e] h) (zf.k3 C (zc7 24 (.zbj) 0) Q Y1 (s 0) (s 1) (s 2) (s 3) (s 9) (s 10) h)) r (λs h r=>eC 65 r (λr=>eT k (λs h=>zd (zf.l5 C (zc7 24 (.zbj) 0) Q Y1 (s 0) (s 1) (s 2) (s 3) (s 9) (s 10)) [(s 11)] h) r (λs h r=>eK (eL k [0,1,2,3,9,10] [11] (on6 (zf.l5 C (zc7 24 (.zbj) 0) Q Y1)) r (λY3 s h r=>e1 r)))) (λr=>e1 r))) (λs h r=>eT k (λs h=>B.cond (s 104) (B.pv (V.bin .add (s 9) (.int .i64 1)) λb=>zd (zf.l2 C (zc7 24 (.zbj) 0) Q Y1 (s 0) (s 1) (s 2) (s 3) (s 9) (s 10)) [b] h) (B.pv (V.bin .add (s 10) (.int .i64 1)) λa=>Y1 [(s 9),a] h)) r (λs h r=>eC 104 r (λr=>eT k (λs h=>zd (zf.l2 C (zc7 24 (.zbj) 0) Q Y1 (s 0) (s 1) (s 2) (s 3) (s 9) (s 10)) [(s 12)] h) r (λs h r=>eK (eL k [0,1,2,3,9,10] [12] (on6 (zf.l2 C (zc7 24 (.zbj) 0) Q Y1)) r (λY2 s h r=>e1 r)))) (λr=>e1 r))))))))) (λs h r=>e1 r)))))) (λs h r=>e1 r)))
theorem zca.imp:zca.Imp (AC P) N:=λa b c d h Q r=>eF mixed (fn:=Tryz.f129) (λk=>zca.L k (dn Q) (zbz [a,b,c,d]) h r)
def zcn.I:Bx:=⟨[],[],90,[(1,pz [] 16),(3,pz [] 17),(5,pz [] 16),(8,pz [] 16)]⟩
theorem zcn.L:LkT P zcn.I Tryz.f130 λC Q s h=>zcn.cps C N (s 0) (s 1) (s 2) (s 3) (s 4) h Q:=λ{C} k Q s h r=>eT k (λs h=>zn.k8 C (zc7 24 (.zbj) 0) Q (s 0) (s 1) (s 2) (s 3) (s 4) h) r (λs h r=>eT k (λs h=>zn.k7 C (zc7 24 (.zbj) 0) Q (s 0) (s 1) (s 2) (s 4) h) r (λs h r=>eT k (λs h=>zd (zn.l6 C (zc7 24 (.zbj) 0) Q (s 0) (s 1) (s 4)) [(s 11),(s 12)] h) r (λs h r=>eS k (λs h=>Q (s 11) h) (eK (eL k [0,1,4] [11,12] (on3 (zn.l6 C (zc7 24 (.zbj) 0) Q)) r (λY1 s h r=>eK (eS k (λs h=>zd (zn.l3 C (zc7 24 (.zbj) 0) Q Y1 (s 0) (s 1) (s 4) (s 11)) [(s 12)] h) (eK (eL k [0,1,4,12] [11] (on4 (zn.l5 C (zc7 24 (.zbj) 0) Q Y1)) r (λY3 s h r=>e1 r))) (λs h r=>eS k (λs h=>zn.k1 C (zc7 24 (.zbj) 0) Q Y1 (s 0) (s 1) (s 4) (s 11) (s 12) h) (eK (eL k [0,1,4,11] [12] (on4 (zn.l3 C (zc7 24 (.zbj) 0) Q Y1)) r (λY2 s h r=>e1 r))) (λs h r=>e1 r)))))) (λs h r=>e1 r))))
theorem zcn.imp:zcn.Imp (AC P) N:=λa b c d e h Q r=>eF mixed (fn:=Tryz.f130) (λk=>zcn.L k (dn Q) (zbz [a,b,c,d,e]) h r)
def zde.I:Bx:=⟨[],[],178,[(1,pz [] 16),(3,pz [] 16),(5,pz [] 17),(8,pz [] 16),(10,pz [] 16),(13,pz [] 16),(15,pz [] 17),(18,pz [] 16),(21,pz [] 16)]⟩
theorem zde.L:LkT P zde.I Tryz.f131 λC Q s h=>zde.cps C N (s 0) (s 1) (s 2) (s 3) (s 4) h Q:=λ{C} k Q s h r=>eT k (λs h=>zg.k16 C (zc7 24 (.zbj) 0) Q (s 0) (s 1) (s 2) (s 3) (s 4) h) r (λs h r=>eT k (λs h=>zg.k15 C (zc7 24 (.zbj) 0) Q (s 0) (s 1) (s 2) (s 4) h) r (λs h r=>eT k (λs h=>zd (zg.l14 C (zc7 24 (.zbj) 0) Q (s 0) (s 1) (s 4) (s 13)) [(s 12)] h) r (λs h r=>eS k (λs h=>zd (zg.l12 C (zc7 24 (.zbj) 0) Q (s 0) (s 1) (s 4) (s 12)) [(s 13)] h) (eK (eL k [0,1,4,13] [12] (on4 (zg.l14 C (zc7 24 (.zbj) 0) Q)) r (λY5 s h r=>e1 r))) (λs h r=>eS k (λs h=>zg.k10 C (zc7 24 (.zbj) 0) Q (s 0) (s 1) (s 4) (s 12) (s 13) h) (eK (eL k [0,1,4,12] [13] (on4 (zg.l12 C (zc7 24 (.zbj) 0) Q)) r (λY4 s h r=>e1 r))) (λs h r=>eT k (λs h=>zg.k9 C (zc7 24 (.zbj) 0) Q (s 0) (s 1) (s 4) (s 12) (s 13) h) r (λs h r=>eT k (λs h=>zg.k8 C (zc7 24 (.zbj) 0) Q (s 0) (s 1) (s 4) (s 12) (s 13) h) r (λs h r=>eT k (λs h=>B.pv (V.bin .sub (s 13) (.int .i64 1)) λa=>zd (zg.l7 C (zc7 24 (.zbj) 0) Q (s 0) (s 1) (s 4)) [(s 12),a] h) r (λs h r=>eT k (λs h=>zd (zg.l7 C (zc7 24 (.zbj) 0) Q (s 0) (s 1) (s 4)) [(s 12),(s 13)] h) r (λs h r=>eS k (λs h=>zg.k1 C (zc7 24 (.zbj) 0) Q (s 0) (s 1) (s 13) h) (eK (eL k [0,1,4] [12,13] (on3 (zg.l7 C (zc7 24 (.zbj) 0) Q)) r (λY1 s h r=>eK (eS k (λs h=>zd (zg.l4 C (zc7 24 (.zbj) 0) Q Y1 (s 0) (s 1) (s 4) (s 12)) [(s 13)] h) (eK (eL k [0,1,4,13] [12] (on4 (zg.l6 C (zc7 24 (.zbj) 0) Q Y1)) r (λY3 s h r=>e1 r))) (λs h r=>eS k (λs h=>zg.k2 C (zc7 24 (.zbj) 0) Q Y1 (s 0) (s 1) (s 4) (s 12) (s 13) h) (eK (eL k [0,1,4,12] [13] (on4 (zg.l4 C (zc7 24 (.zbj) 0) Q Y1)) r (λY2 s h r=>e1 r))) (λs h r=>e1 r)))))) (λs h r=>e1 r))))))))))
theorem zde.imp:zde.Imp (AC P) N:=λa b c d e h Q r=>eF mixed (fn:=Tryz.f131) (λk=>zde.L k (dn Q) (zbz [a,b,c,d,e]) h r)
def zei.I:Bx:=⟨[],[],6,[]⟩
theorem zei.L:LkT P zei.I Tryz.f132 λC Q s h=>zei.cps C N (s 0) h Q:=λ{C} k Q s h r=>e1 r
theorem zei.imp:zei.Imp (AC P) N:=λa h Q r=>eF mixed (fn:=Tryz.f132) (λk=>zei.L k (dn Q) (zbz [a]) h r)
def zfj.I:Bx:=⟨[4],[],9,[]⟩
theorem zfj.L:LkT P zfj.I Tryz.f141 λC Q s h=>zfj.cps C N (s 0) (s 1) h Q:=λ{C} k Q s h r=>e1 r
theorem zfj.imp:zfj.Imp (AC P) N:=λa b h Q r=>eF mixed (fn:=Tryz.f141) (λk=>zfj.L k (dn Q) (zbz [a,b]) h r)
def zch.I:Bx:=⟨[],[],27,[]⟩
theorem zch.L:LkT P zch.I Tryz.f155 λC Q s h=>zch.cps C N (s 0) (s 1) h Q:=λ{C} k Q s h r=>eT k (λs h=>B.pv (V.bin .lss (s 1) (.int .i64 0)) λa=>B.cond a (False) (zjw.k1 C (zc7 16 (.str []) 0) Q (s 0) (s 1) h)) r (λs h r=>eT k (λs h=>zjw.k1 C (zc7 16 (.str []) 0) Q (s 0) (s 1) h) r (λs h r=>e1 r))
theorem zch.imp:zch.Imp (AC P) N:=λa b h Q r=>eF mixed (fn:=Tryz.f155) (λk=>zch.L k (dn Q) (zbz [a,b]) h r)
def zdt.I:Bx:=⟨[],[],27,[]⟩
theorem zdt.L:LkT P zdt.I Tryz.f156 λC Q s h=>zdt.cps C N (s 0) (s 1) h Q:=λ{C} k Q s h r=>eT k (λs h=>zd (zdt.l2 C N Q (s 0) (s 1)) [(.int .i64 0)] h) r (λs h r=>eT k (λs h=>zd (zdt.l2 C N Q (s 0) (s 1)) [(s 4)] h) r (λs h r=>eK (eL k [0,1] [4] (on2 (zdt.l2 C N Q)) r (λY1 s h r=>e1 r))))
theorem zdt.imp:zdt.Imp (AC P) N:=λa b h Q r=>eF mixed (fn:=Tryz.f156) (λk=>zdt.L k (dn Q) (zbz [a,b]) h r)
def zfu.I:Bx:=⟨[],[],14,[]⟩
theorem zfu.L:LkT P zfu.I Tryz.f157 λC Q s h=>zfu.cps C N (s 0) (s 1) h Q:=λ{C} k Q s h r=>e1 r
theorem zfu.imp:zfu.Imp (AC P) N:=λa b h Q r=>eF mixed (fn:=Tryz.f157) (λk=>zfu.L k (dn Q) (zbz [a,b]) h r)
def zfa.I:Bx:=⟨[],[],14,[]⟩
theorem zfa.L:LkT P zfa.I Tryz.f158 λC Q s h=>zfa.cps C N (s 0) (s 1) h Q:=λ{C} k Q s h r=>e1 r
theorem zfa.imp:zfa.Imp (AC P) N:=λa b h Q r=>eF mixed (fn:=Tryz.f158) (λk=>zfa.L k (dn Q) (zbz [a,b]) h r)
def zdi.I:Bx:=⟨[],[],76,[(3,pz [] 20),(5,pz [] 14),(6,pz [] 24)]⟩
theorem zdi.L:LkT P zdi.I Tryz.f159 λC Q s h=>zdi.cps C N (s 0) (s 1) (s 2) (s 3) h Q:=λ{C} k Q s h r=>eT k (λs h=>zd (zcx.l4 C (zc7 16 (.str []) 0) (N 377) Q (s 0) (s 2) (s 3)) [(s 8)] h) r (λs h r=>eK (eL k [0,2,3] [8] (on3 (zcx.l4 C (zc7 16 (.str []) 0) (N 377) Q)) r (λY1 s h r=>eK (eT k (λs h=>B.pv (V.bin .geq (s 9) (s 2)) λa=>B.cond a (Q (.tup []) h) (zcx.k2 C (zc7 16 (.str []) 0) (N 377) Q Y1 (s 0) (s 2) (s 3) (s 8) (s 9) h)) r (λs h r=>eT k (λs h=>zcx.k2 C (zc7 16 (.str []) 0) (N 377) Q Y1 (s 0) (s 2) (s 3) (s 8) (s 9) h) r (λs h r=>eT k (λs h=>zcx.k1 C (zc7 16 (.str []) 0) (N 377) Q Y1 (s 0) (s 2) (s 3) (s 8) (s 9) h) r (λs h r=>e1 r)))))))
theorem zdi.imp:zdi.Imp (AC P) N:=λa b c d h Q r=>eF mixed (fn:=Tryz.f159) (λk=>zdi.L k (dn Q) (zbz [a,b,c,d]) h r)
def zd5.I:Bx:=⟨[],[],7,[]⟩
theorem zd5.L:LkT P zd5.I Tryz.f160 λC Q s h=>zd5.cps C N (s 0) h Q:=λ{C} k Q s h r=>e1 r
theorem zd5.imp:zd5.Imp (AC P) N:=λa h Q r=>eF mixed (fn:=Tryz.f160) (λk=>zd5.L k (dn Q) (zbz [a]) h r)
def zdm.I:Bx:=⟨[],[],33,[(1,pz [] 10),(2,pz [] 10),(3,pz [] 10)]⟩
theorem zdm.L:LkT P zdm.I Tryz.f161 λC Q s h=>zdm.cps C N (s 0) h Q:=λ{C} k Q s h r=>e1 r
theorem zdm.imp:zdm.Imp (AC P) N:=λa h Q r=>eF mixed (fn:=Tryz.f161) (λk=>zdm.L k (dn Q) (zbz [a]) h r)
def zco.I:Bx:=⟨[],[],15,[]⟩
theorem zco.L:LkT P zco.I Tryz.f162 λC Q s h=>zco.cps C N (s 0) (s 1) (s 2) h Q:=λ{C} k Q s h r=>e1 r
theorem zco.imp:zco.Imp (AC P) N:=λa b c h Q r=>eF mixed (fn:=Tryz.f162) (λk=>zco.L k (dn Q) (zbz [a,b,c]) h r)
def zdy.I:Bx:=⟨[],[],36,[]⟩
theorem zdy.L:LkT P zdy.I Tryz.f163 λC Q s h=>zdy.cps C N (s 0) (s 1) (s 2) (s 3) (s 4) h Q:=λ{C} k Q s h r=>e1 r
theorem zdy.imp:zdy.Imp (AC P) N:=λa b c d e h Q r=>eF mixed (fn:=Tryz.f163) (λk=>zdy.L k (dn Q) (zbz [a,b,c,d,e]) h r)
def zdj.I:Bx:=⟨[],[],82,[(3,pz [] 22),(5,pz [] 16),(6,pz [] 24)]⟩
theorem zdj.L:LkT P zdj.I Tryz.f164 λC Q s h=>zdj.cps C N (s 0) (s 1) (s 2) (s 3) (s 4) h Q:=λ{C} k Q s h r=>eT k (λs h=>zd (zbw.l4 C (zc7 24 (.zbj) 0) Q (s 0) (s 2) (s 3) (s 4)) [(s 10)] h) r (λs h r=>eK (eL k [0,2,3,4] [10] (on4 (zbw.l4 C (zc7 24 (.zbj) 0) Q)) r (λY1 s h r=>eK (eT k (λs h=>B.pv (V.bin .geq (s 11) (s 2)) λa=>B.cond a (Q (.tup []) h) (zbw.k2 C (zc7 24 (.zbj) 0) Q Y1 (s 0) (s 2) (s 3) (s 4) (s 10) (s 11) h)) r (λs h r=>eT k (λs h=>zbw.k2 C (zc7 24 (.zbj) 0) Q Y1 (s 0) (s 2) (s 3) (s 4) (s 10) (s 11) h) r (λs h r=>eT k (λs h=>zbw.k1 C (zc7 24 (.zbj) 0) Q Y1 (s 0) (s 2) (s 3) (s 4) (s 10) (s 11) h) r (λs h r=>e1 r)))))))
theorem zdj.imp:zdj.Imp (AC P) N:=λa b c d e h Q r=>eF mixed (fn:=Tryz.f164) (λk=>zdj.L k (dn Q) (zbz [a,b,c,d,e]) h r)
def zcp.I:Bx:=⟨[],[],18,[]⟩
theorem zcp.L:LkT P zcp.I Tryz.f165 λC Q s h=>zcp.cps C N (s 0) (s 1) (s 2) (s 3) h Q:=λ{C} k Q s h r=>e1 r
theorem zcp.imp:zcp.Imp (AC P) N:=λa b c d h Q r=>eF mixed (fn:=Tryz.f165) (λk=>zcp.L k (dn Q) (zbz [a,b,c,d]) h r)
def zdz.I:Bx:=⟨[],[],41,[]⟩
theorem zdz.L:LkT P zdz.I Tryz.f166 λC Q s h=>zdz.cps C N (s 0) (s 1) (s 2) (s 3) (s 4) (s 5) h Q:=λ{C} k Q s h r=>e1 r
theorem zdz.imp:zdz.Imp (AC P) N:=λa b c d e f h Q r=>eF mixed (fn:=Tryz.f166) (λk=>zdz.L k (dn Q) (zbz [a,b,c,d,e,f]) h r)
def zfv.I:Bx:=⟨[3],[5,9],12,[]⟩
theorem zfv.L:LkT P zfv.I Tryz.f172 λC Q s h=>zfv.cps C N (s 0) (s 1) h Q:=λ{C} k Q s h r=>e1 r
theorem zfv.imp:zfv.Imp (AC P) N:=λa b h Q r=>eF mixed (fn:=Tryz.f172) (λk=>zfv.L k (dn Q) (zbz [a,b]) h r)
def zdw.I:Bx:=⟨[],[],28,[(1,pz [] 9)]⟩
theorem zdw.L:LkT P zdw.I Tryz.f173 λC Q s h=>zdw.cps C N (s 0) (s 1) (s 2) (s 3) h Q:=λ{C} k Q s h r=>e1 r
theorem zdw.imp:zdw.Imp (AC P) N:=λa b c d h Q r=>eF mixed (fn:=Tryz.f173) (λk=>zdw.L k (dn Q) (zbz [a,b,c,d]) h r)
def zdx.I:Bx:=⟨[],[],32,[(1,pz [] 11)]⟩
theorem zdx.L:LkT P zdx.I Tryz.f174 λC Q s h=>zdx.cps C N (s 0) (s 1) (s 2) (s 3) (s 4) h Q:=λ{C} k Q s h r=>e1 r
theorem zdx.imp:zdx.Imp (AC P) N:=λa b c d e h Q r=>eF mixed (fn:=Tryz.f174) (λk=>zdx.L k (dn Q) (zbz [a,b,c,d,e]) h r)
def ze9.I:Bx:=⟨[],[],14,[]⟩
theorem ze9.L:LkT P ze9.I Tryz.f175 λC Q s h=>ze9.cps C N (s 0) (s 1) h Q:=λ{C} k Q s h r=>e1 r
theorem ze9.imp:ze9.Imp (AC P) N:=λa b h Q r=>eF mixed (fn:=Tryz.f175) (λk=>ze9.L k (dn Q) (zbz [a,b]) h r)
theorem zhm.L0:F0 P Tryz.f83 zhm.I:=λhC Q s h hR=>eF0 hC 5 3 6 9 11 14 hR
theorem zhm.zqw:zhm.zl7 (AC P) N:=λa h Q hR=>eF mixed (fn:=Tryz.f83) (λhC=>zhm.L0 hC (dn Q) (zbz [a]) h hR)
theorem zh6.L0:F0 P Tryz.f84 zh6.I:=λhC Q s h hR=>eF0 hC 5 3 6 9 11 14 hR
theorem zh6.zqw:zh6.zl7 (AC P) N:=λa h Q hR=>eF mixed (fn:=Tryz.f84) (λhC=>zh6.L0 hC (dn Q) (zbz [a]) h hR)
theorem zhs.L0:F0 P Tryz.f85 zhs.I:=λhC Q s h hR=>eF0 hC 5 3 6 9 11 14 hR
theorem zhs.zqw:zhs.zl7 (AC P) N:=λa h Q hR=>eF mixed (fn:=Tryz.f85) (λhC=>zhs.L0 hC (dn Q) (zbz [a]) h hR)
theorem zeu.L0:F0 P Tryz.f87 zeu.I:=λhC Q s h hR=>eF0 hC 5 3 6 9 11 14 hR
theorem zeu.zqw:zeu.zl7 (AC P) N:=λa h Q hR=>eF mixed (fn:=Tryz.f87) (λhC=>zeu.L0 hC (dn Q) (zbz [a]) h hR)
theorem zbb.L0:F0 P Tryz.f88 zbb.I:=λhC Q s h hR=>eF0 hC 5 3 6 9 11 14 hR
theorem zbb.zqw:zbb.zl7 (AC P) N:=λa h Q hR=>eF mixed (fn:=Tryz.f88) (λhC=>zbb.L0 hC (dn Q) (zbz [a]) h hR)
theorem zbl.L0:F0 P Tryz.f90 zbl.I:=λhC Q s h hR=>eF0 hC 5 3 6 9 11 14 hR
theorem zbl.zqw:zbl.zl7 (AC P) N:=λa h Q hR=>eF mixed (fn:=Tryz.f90) (λhC=>zbl.L0 hC (dn Q) (zbz [a]) h hR)
theorem zbs.L0:F0 P Tryz.f91 zbs.I:=λhC Q s h hR=>eF0 hC 5 3 6 9 11 14 hR
theorem zbs.zqw:zbs.zl7 (AC P) N:=λa h Q hR=>eF mixed (fn:=Tryz.f91) (λhC=>zbs.L0 hC (dn Q) (zbz [a]) h hR)
theorem zbk.L0:F0 P Tryz.f93 zbk.I:=λhC Q s h hR=>eF0 hC 5 3 6 9 11 14 hR
theorem zbk.zqw:zbk.zl7 (AC P) N:=λa h Q hR=>eF mixed (fn:=Tryz.f93) (λhC=>zbk.L0 hC (dn Q) (zbz [a]) h hR)
theorem zh7.L0:F0 P Tryz.f95 zh7.I:=λhC Q s h hR=>eF0 hC 5 3 6 9 11 14 hR
theorem zh7.zqw:zh7.zl7 (AC P) N:=λa h Q hR=>eF mixed (fn:=Tryz.f95) (λhC=>zh7.L0 hC (dn Q) (zbz [a]) h hR)
theorem zho.L0:F0 P Tryz.f96 zho.I:=λhC Q s h hR=>eF0 hC 5 3 6 9 11 14 hR
theorem zho.zqw:zho.zl7 (AC P) N:=λa h Q hR=>eF mixed (fn:=Tryz.f96) (λhC=>zho.L0 hC (dn Q) (zbz [a]) h hR)
theorem zbc.L0:F0 P Tryz.f97 zbc.I:=λhC Q s h hR=>eF0 hC 5 3 6 9 11 14 hR
theorem zbc.zqw:zbc.zl7 (AC P) N:=λa h Q hR=>eF mixed (fn:=Tryz.f97) (λhC=>zbc.L0 hC (dn Q) (zbz [a]) h hR)
theorem zh5.L0:F0 P Tryz.f98 zh5.I:=λhC Q s h hR=>eF0 hC 5 3 6 9 11 14 hR
theorem zh5.zqw:zh5.zl7 (AC P) N:=λa h Q hR=>eF mixed (fn:=Tryz.f98) (λhC=>zh5.L0 hC (dn Q) (zbz [a]) h hR)
theorem zhn.L0:F0 P Tryz.f99 zhn.I:=λhC Q s h hR=>eF0 hC 5 3 6 9 11 14 hR
theorem zhn.zqw:zhn.zl7 (AC P) N:=λa h Q hR=>eF mixed (fn:=Tryz.f99) (λhC=>zhn.L0 hC (dn Q) (zbz [a]) h hR)
theorem zht.L0:F0 P Tryz.f100 zht.I:=λhC Q s h hR=>eF0 hC 5 3 6 9 11 14 hR
theorem zht.zqw:zht.zl7 (AC P) N:=λa h Q hR=>eF mixed (fn:=Tryz.f100) (λhC=>zht.L0 hC (dn Q) (zbz [a]) h hR)
theorem zg3.L0:F0 P Tryz.f101 zg3.I:=λhC Q s h hR=>eF0 hC 5 3 6 9 11 14 hR
theorem zg3.zqw:zg3.zl7 (AC P) N:=λa h Q hR=>eF mixed (fn:=Tryz.f101) (λhC=>zg3.L0 hC (dn Q) (zbz [a]) h hR)
theorem zhr.L0:F0 P Tryz.f102 zhr.I:=λhC Q s h hR=>eF0 hC 5 3 6 9 11 14 hR
theorem zhr.zqw:zhr.zl7 (AC P) N:=λa h Q hR=>eF mixed (fn:=Tryz.f102) (λhC=>zhr.L0 hC (dn Q) (zbz [a]) h hR)
theorem zg2.L0:F0 P Tryz.f103 zg2.I:=λhC Q s h hR=>eF0 hC 5 3 6 9 11 14 hR
theorem zg2.zqw:zg2.zl7 (AC P) N:=λa h Q hR=>eF mixed (fn:=Tryz.f103) (λhC=>zg2.L0 hC (dn Q) (zbz [a]) h hR)
theorem zhq.L0:F0 P Tryz.f104 zhq.I:=λhC Q s h hR=>eF0 hC 5 3 6 9 11 14 hR
theorem zhq.zqw:zhq.zl7 (AC P) N:=λa h Q hR=>eF mixed (fn:=Tryz.f104) (λhC=>zhq.L0 hC (dn Q) (zbz [a]) h hR)
theorem zhp.L0:F0 P Tryz.f105 zhp.I:=λhC Q s h hR=>eF0 hC 5 3 6 9 11 14 hR
theorem zhp.zqw:zhp.zl7 (AC P) N:=λa h Q hR=>eF mixed (fn:=Tryz.f105) (λhC=>zhp.L0 hC (dn Q) (zbz [a]) h hR)
end Go.Ab.S12z
namespace Go.Ab
open List
variable{C:zh}{N:zN}
section
variable{h h':zb}{x:za}{b:List UInt8}
end
theorem SlX.cutR{h:zb}{es:Nat}{x:za}{L R S:List (List za)}(hs:SlX h es x L (R++S)):SlX h es x L R:=by
 refine⟨λp hp=>hs.len p (by rcases mem_append.1 hp with h|h;exact mem_append_left _ h;exact mem_append_right _ (mem_append_left _ h)),?_⟩;rcases hs.at_ with⟨e,e2,e'⟩|⟨id,g,off,cp,b,hi,h1,h1',h2,h3,h4,hh,h5⟩
 ·exact .inl ⟨e,(append_eq_nil_iff.1 e2).1,e'⟩
 ·have hl:∀p∈L++R,p.length=es:=λp hp=>hs.len p (by rcases mem_append.1 hp with h|h;exact mem_append_left _ h;exact mem_append_right _ (mem_append_left _ h))
  have hfl:=zqa hl;rw[length_append]at h1' h4 h5 hfl;have hm:(L.length+R.length)*es <= (L.length+(R.length+S.length))*es:=Nat.mul_le_mul_right _ (by omega);refine .inr ⟨id,g,off,cp,b,hi,h1,by omega,h2,h3,by omega,hh,?_⟩;have:((b.cells.drop off).take ((L.length+(R.length+S.length))*es)).take ((L.length+R.length)*es)=(L++R).flatten:=by
   rw[h5,<-append_assoc,flatten_append (L₁:=L++R),take_append_of_le_length (by omega),take_of_length_le (by omega)]
  rw[<-this,take_take,Nat.min_eq_left hm]
abbrev zwh(h:zb)(l:List Ob):Prop:=∀o∈l,o.at h
theorem zwh.mono{h h':zb}{l:List Ob}(ha:zwh h l)(hle:h.le h'):zwh h' l:=λo hm=>(ha o hm).zms λ_ _ _ e=>hle _ _ e
structure DK(T Ad:Type) where
 n:Nat
 bytes:Nat
 z:List za
 pos:0<n
 small:bytes <= 1000
 zlen:z.length=n
 cells:T->Ad->List za
 len:∀t a,(cells t a).length=n
 at_:zb->T->Ad->Prop
 mono:∀{h h':zb}{t:T}{a:Ad},h.le h'->at_ h t a->at_ h' t a
 ok:T->Prop
 at_ok:∀{h:zb}{t:T}{a:Ad},at_ h t a->ok t
 obs:Bool->T->Ad->List Ob
 zxp:∀{b:Bool}{h:zb}{t:T}{a:Ad},ok t->zwh h (obs b t a)->at_ h t a
section
variable{T Ad:Type}(K:DK T Ad)
abbrev DK.cs(p:T×Ad):List za:=K.cells p.1 p.2
def DK.os(b:Bool)(P:List (T×Ad)):List Ob:=P.flatMap λp=>K.obs b p.1 p.2
def Dl(h:zb)(x:za)(L:List T):Prop:=∃(P:List (T×Ad))(R:List (List za)),P.map (·.1)=L /\ SlX h K.n x (P.map K.cs) R /\ ∀p∈P,K.at_ h p.1 p.2
structure DEl(h:zb)(x:za)(i:Nat)(t:T)(a:Ad):Prop where
 idx:V.zb3 K.n x (.int .i64 (i:Int))=some (elp K.n x i 0)
 ldn:A.zo3 h (elp K.n x i 0) K.n=some (.agg (K.cells t a))
 fld:∀f o,V.fieldAddr o (elp K.n x i f)=some (elp K.n x i (f+o))
 ld:∀f,f<K.n->A.ldv h (elp K.n x i f)=(K.cells t a)[f]?
 at_:K.at_ h t a
variable{K}{h h' h0:zb}{x:za}{L M:List T}
theorem slX_el{h:zb}{x:za}{P:List (T×Ad)}{R:List (List za)}(s:SlX h K.n x (P.map K.cs) R)(ha:∀p∈P,K.at_ h p.1 p.2){i:Nat}{p:T×Ad}(hi:P[i]?=some p):DEl K h x i p.1 p.2:=by
 have hc:(P.map K.cs)[i]?=some (K.cells p.1 p.2):=by rw[getElem?_map,hi];rfl
 have hl:i<(P.map K.cs).length:=(List.getElem?_eq_some_iff.1 hc).1;exact⟨s.zjp hl,s.elem hc,λf o=>s.zot hl f o,λf hf=>s.ldv hc hf,ha p (mem_of_getElem? hi)⟩
theorem Dl.get(hd:Dl K h x L){i:Nat}{t:T}(hi:L[i]?=some t):∃a,DEl K h x i t a:=by
 obtain⟨P,R,rfl,s,ha⟩:=hd;rw[getElem?_map]at hi;obtain⟨p,hp,rfl⟩:=Option.map_eq_some_iff.1 hi;exact⟨p.2,slX_el s ha hp⟩
theorem Dl.mono(hd:Dl K h x L)(hle:h.le h'):Dl K h' x L:=by
 obtain⟨P,R,e,s,ha⟩:=hd;exact⟨P,R,e,s.mono hle,λp hp=>K.mono hle (ha p hp)⟩
theorem Dl.zbi(hd:Dl K h x L):V.zbi x=some (.int .i64 L.length):=by
 obtain⟨P,R,rfl,s,ha⟩:=hd;simpa using s.zbi
theorem Dl.zbm(hd:Dl K h x L):x.zbm=true:=by
 obtain⟨P,R,rfl,s,ha⟩:=hd;exact s.zbm
theorem Dl.zbj(K:DK T Ad)(h:zb):Dl K h .zbj []:=⟨[],[],rfl,SlX.zbj h K.n,λ_ h=>by cases h⟩
theorem Dl.ok(hd:Dl K h x L):∀t∈L,K.ok t:=by
 obtain⟨P,R,rfl,s,ha⟩:=hd;intro t ht;obtain⟨p,hp,rfl⟩:=mem_map.1 ht;exact K.at_ok (ha p hp)
theorem dl_of{P:List (T×Ad)}{R:List (List za)}{b:Bool}{l:List Ob}(hok:∀p∈P,K.ok p.1)(hl:zwh h l)(h1: .sl K.n x (P.map K.cs) R∈l)(h2:∀o∈K.os b P,o∈l):Dl K h x (P.map (·.1)):=⟨P,R,rfl,hl _ h1,λp hp=>K.zxp (hok p hp) λo ho=>hl o (h2 o (mem_flatMap.2 ⟨p,hp,ho⟩))⟩
theorem DK.zq8(b:Bool)(P P':List (T×Ad)):K.os b (P++P')=K.os b P++K.os b P':=flatMap_append
theorem DK.os_one(b:Bool)(p:T×Ad):K.os b [p]=K.obs b p.1 p.2:=by simp[DK.os]
abbrev Df(K:DK T Ad)(h0 h:zb)(x:za)(P:List (T×Ad)):Prop:=zcw h0 h (.sl K.n x (P.map K.cs) []::K.os false P)
theorem Df.dl{P:List (T×Ad)}(hd:Df K h0 h x P)(hok:∀p∈P,K.ok p.1):Dl K h x (P.map (·.1)):=dl_of (b:=false) hok hd.is (mem_cons_self ..) λo ho=>mem_cons_of_mem _ ho
def SameE(K:DK T Ad)[DecidableEq T](C:zh)(f:Nat):Prop:=∀(t u:T)(a b:Ad)(h:zb)(Q:zQ),K.at_ h t a->K.at_ h u b->Q (.bool (decide (t=u))) h->C f [.agg (K.cells t a),.agg (K.cells u b)] h Q
def OneE(K:DK T Ad)(b:Bool)(C:zh)(f:Nat):Prop:=∀(t:T)(a:Ad)(h:zb)(Q:zQ),K.at_ h t a->(∀a' h',zcw h h' (K.obs b t a')->Q (.agg (K.cells t a')) h')->C f [.agg (K.cells t a)] h Q
def KeptE(K:DK T Ad)[DecidableEq T](C:zh)(f:Nat):Prop:=∀(t u:T)(a b:Ad)(h:zb)(Q:zQ),K.ok t->zwh h (K.obs true t a)->K.at_ h u b->Q (.bool (decide (t=u))) h->C f [.agg (K.cells t a),.agg (K.cells u b)] h Q
def MarkE(K:DK T Ad)(mk:Int->Int->T)(C:zh)(f:Nat):Prop:=∀(k i:Int)(h:zb)(Q:zQ),(∀a' h',zcw h h' (K.obs false (mk k i) a')->Q (.agg (K.cells (mk k i) a')) h')->C f [.int .i64 k,.int .i64 i] h Q
theorem zui(K:DK T Ad)(t:T)(a:Ad):zed [(0,some K.n,.agg (K.cells t a))] (zfs 1 K.z)=some (K.cells t a):=by
 have hrep:zfs 1 K.z=K.z:=by unfold zfs;split<;>simp_all
 have h1:=K.len t a;rw[hrep];simp[h1,K.zlen]
@[simp] def sameD.k1(C:zh)(n f:Nat)(Q:zQ)(Y1:zL)(v0 v1 v5:za)(h:zb):Prop:=B.pv (V.zbi v0) λv13=>B.pv (V.bin .lss v5 v13) λv14=>B.cond v14 (B.pv (V.zb3 n v0 v5) λv19=>B.ldn h v19 n λv20=>B.pv (V.zb3 n v1 v5) λv23=>B.ldn h v23 n λv24=>B.call C f [v20,v24] h λv25 h=>B.pv (V.un .not v25) λv26=>B.cond v26 (Q (.bool false) h) (B.pv (V.bin .add v5 (.int .i64 1)) λv16=>Y1 [v16] h)) (Q (.bool true) h)
@[simp] def sameD.l2(C:zh)(n f:Nat)(Q:zQ)(v0 v1:za):zG|[v5],h,Y1=>sameD.k1 C n f Q Y1 v0 v1 v5 h|_,_,_=>False
def sameD(C:zh)(n f:Nat)(v0 v1:za)(h:zb)(Q:zQ):Prop:=B.pv (V.zbi v0) λv7=>B.pv (V.zbi v1) λv9=>B.pv (V.bin .neq v7 v9) λv10=>B.cond v10 (Q (.bool false) h) (zd (sameD.l2 C n f Q v0 v1) [(.int .i64 0)] h)
theorem sameD_spec[DecidableEq T]{f:Nat}(sf:SameE K C f){y:za}{Q:zQ}(hx:Dl K h x L)(hy:Dl K h y M)(hlen:L.length<4611686018427387904)(hq:Q (.bool (decide (L=M))) h):sameD C K.n f x y h Q:=by
 have hlx:=hx.zbi;have hly:=hy.zbi;simp -dsimp[sameD,hlx,hly];refine B.zm (λhb=>?_) (λhb=>?_)<;>simp -dsimp at hb ⊢
 ·rw[decide_eq_false λe=>hb (by rw[e])]at hq
  exact hq
 ·refine zd.intro (λn vs hh=>∃k,k+n=L.length /\ vs=[.int .i64 k] /\ hh=h /\ L.take k=M.take k) L.length ?_ ⟨0,by simp,by simp,rfl,by simp⟩
  rintro Y n vs _ ⟨k,hn,rfl,rfl,he⟩ hY;simp -dsimp[hlx];refine B.zm (λhc=>?_) (λhc=>?_)<;>simp -dsimp at hc ⊢
  ·obtain⟨w,hw⟩:=zgf hc
   obtain⟨u,hu⟩:=zgf (L:=M) (k:=k) (by omega);obtain⟨a,ea⟩:=hx.get hw;obtain⟨b,eb⟩:=hy.get hu;simp -dsimp only[ea.idx,ea.ldn,eb.idx,eb.ldn,B.ze,B.zn5];refine sf _ _ _ _ _ _ ea.at_ eb.at_ ?_;simp -dsimp only[V.zjt,B.ze];refine B.zm (λhd=>?_) (λhd=>?_)<;>simp -dsimp at hd ⊢
   ·rw[decide_eq_false λe=>by subst e;rw[hw]at hu;cases hu;exact hd rfl]at hq
    exact hq
   ·simp[zjl (n:=k) (by omega)]
    refine hY (L.length-(k+1)) _ _ (by omega) ⟨k+1,by omega,by simp,rfl,?_⟩;rw[take_succ hw,take_succ hu,he,hd]
  ·rw[take_of_length_le (by omega),take_of_length_le (by omega)]at he
   rw[decide_eq_true he]at hq;exact hq
def zxt(mk:Int->Int->T):List T:=(List.range 12).map fun(i:Nat)=>mk 1 (i:Int)
@[simp] def zwd.k1(C:zh)(n bytes fm:Nat)(z:List za)(Q:zQ)(Y1:zL)(v0 v3 v6:za)(h:zb):Prop:=B.pv (V.bin .lss v6 (.int .i64 12)) λv27=>B.cond v27 (B.call C fm [(.int .i64 1),v6] h λv32 h=>B.zg1 h (zed [(0,some n,v32)] (zfs 1 z)) λi33 h=>B.zif h n bytes v3 (.sl i33 0 0 1 n 1) λv34 h=>B.pv (V.bin .add v6 (.int .i64 1)) λv29=>Y1 [v34,v29] h) (B.pv (V.zbi v0) λv37=>B.pv (V.zhj n v3 none (some v37)) λv38=>Q v38 h)
@[simp] def zwd.l2(C:zh)(n bytes fm:Nat)(z:List za)(Q:zQ)(v0:za):zG|[v3,v6],h,Y1=>zwd.k1 C n bytes fm z Q Y1 v0 v3 v6 h|_,_,_=>False
@[simp] def zwd.k3(C:zh)(n bytes fm fl:Nat)(z:List za)(Q:zQ)(Y2:zL)(v0 v3 v4:za)(h:zb):Prop:=B.pv (V.zbi v0) λv13=>B.pv (V.bin .lss v4 v13) λv14=>B.cond v14 (B.pv (V.zb3 n v0 v4) λv19=>B.ldn h v19 n λv20=>B.call C fl [v20] h λv21 h=>B.pv (V.zqf 0 n v21 (.agg z)) λc5=>B.pv (V.ze5 0 n c5) λv23=>B.zg1 h (zed [(0,some n,v23)] (zfs 1 z)) λi24 h=>B.zif h n bytes v3 (.sl i24 0 0 1 n 1) λv25 h=>B.pv (V.bin .add v4 (.int .i64 1)) λv16=>Y2 [v25,v16] h) (zd (zwd.l2 C n bytes fm z Q v0) [v3,(.int .i64 0)] h)
@[simp] def zwd.l4(C:zh)(n bytes fm fl:Nat)(z:List za)(Q:zQ)(v0:za):zG|[v3,v4],h,Y2=>zwd.k3 C n bytes fm fl z Q Y2 v0 v3 v4 h|_,_,_=>False
def zwd(C:zh)(n bytes fm fl:Nat)(z:List za)(v0:za)(h:zb)(Q:zQ):Prop:=B.pv (V.zbi v0) λv8=>B.pv (V.bin .add v8 (.int .i64 12)) λv9=>0<n /\ B.mks h bytes (some z) (.int .i64 0) v9 λv10 h=>zd (zwd.l4 C n bytes fm fl z Q v0) [v10,(.int .i64 0)] h
theorem setN_whole(K:DK T Ad)(t:T)(a:Ad):V.zqf 0 K.n (.agg (K.cells t a)) (.agg K.z)=some (.agg (K.cells t a)):=by
 simp[K.len t a,K.zlen]
theorem fieldN_whole(K:DK T Ad)(t:T)(a:Ad):V.ze5 0 K.n (.agg (K.cells t a))=some (.agg (K.cells t a)):=by
 have:=K.len t a;simp[this];rw[<-this,take_length]
theorem lentD_spec{mk:Int->Int->T}{fm fl:Nat}(sm:MarkE K mk C fm)(sl:OneE K true C fl){Q:zQ}(hx:Dl K h x L)(hlen:L.length <= 100000000)
  (hq:∀x' (P PM:List (T×Ad)) h',P.map (·.1)=L->PM.map (·.1)=zxt mk->zcw h h' (.sl K.n x' (P.map K.cs) (PM.map K.cs)::(K.os true P++K.os false PM))->Q x' h'):zwd C K.n K.bytes fm fl K.z x h Q:=by
 have hlx:=hx.zbi;have hmul:∀n:Nat,n <= 100000100->n*K.bytes <= 140737488355328:=λn hn=>by
  have:=Nat.mul_le_mul hn K.small;omega
 have e1:IntKind.i64.wrap ((L.length:Int)+12)=(L.length:Int)+12:=wrap_i64 (by omega) (by omega);simp -dsimp[zwd,hlx,e1];refine⟨K.pos,(zcw.start h).mks (es:=K.n) K.zlen (by omega) (by omega) ?_ (by omega) λy h1 ho=>?_⟩
 ·have:=hmul (L.length+12) (by omega)
  have e:((L.length:Int)+12)*K.bytes=((L.length+12)*K.bytes:Nat):=by simp
  rw[e];omega
 refine zd.intro (λn vs hh=>∃(k:Nat)(y:za)(P:List (T×Ad))(R:List (List za)),k+n=L.length /\ vs=[y,.int .i64 k] /\ P.map (·.1)=L.take k /\ zcw h hh (.sl K.n y (P.map K.cs) R::K.os true P)) L.length ?_ ⟨0,y,[],_,by simp,by simp,by simp,by simpa[DK.os]using ho⟩;rintro Y n vs hh ⟨k,y3,P,R3,hn,rfl,hP,ho3⟩ hY;have hPl:P.length=k:=by have:=congrArg List.length hP;simp at this;omega
 simp -dsimp[hlx];refine B.zm (λhc=>?_) (λhc=>?_)<;>simp -dsimp at hc ⊢
 ·obtain⟨w,hw⟩:=zgf hc
  obtain⟨a,ea⟩:=(hx.mono ho3.le).get hw;simp -dsimp only[ea.idx,ea.ldn,B.ze,B.zn5];refine sl _ _ _ _ ea.at_ λa' h4 o4=>?_;simp -dsimp only[setN_whole K _ a',fieldN_whole K _ a',zui K _ a',B.ze];refine(ho3.join o4).push 0 rfl (K.len _ a') K.pos (by simp;exact hmul _ (by omega)) (by simp[maxLen];omega) λy5 h5 o5 _=>?_;simp -dsimp[zjl (n:=k) (by omega)];refine hY (L.length-(k+1)) _ _ (by omega) ⟨k+1,y5,P++[(w,a')],[],by omega,by simp,?_,?_⟩
  ·rw[take_succ hw,map_append,hP];rfl
  ·rw[DK.zq8,DK.os_one,map_append]
   simpa using o5
 ·have hk:k=L.length:=by omega
  rw[hk,take_length]at hP;refine zd.intro (λn vs hh=>∃(j:Nat)(y:za)(PM:List (T×Ad))(R:List (List za)),j+n=12 /\ vs=[y,.int .i64 j] /\ PM.map (·.1)=(List.range j).map (fun(i:Nat)=>mk 1 (i:Int)) /\ zcw h hh (.sl K.n y (P.map K.cs++PM.map K.cs) R::(K.os true P++K.os false PM))) 12 ?_
   ⟨0,y3,[],R3,by simp,by simp,by simp,by simpa[DK.os]using ho3⟩
  rintro Z n' vs h4 ⟨j,y4,PM,R4,hj,rfl,hPM,o4⟩ hZ;have hMl:PM.length=j:=by have:=congrArg List.length hPM;simpa using this
  simp -dsimp only[zwd.l2,zwd.k1,V.zeh,B.ze];refine B.zm (λhd=>?_) (λhd=>?_)<;>simp -dsimp at hd
  ·refine sm _ _ _ _ λa' h5 o5=>?_
   simp -dsimp only[zui K _ a'];refine(o4.join o5).push 0 rfl (K.len _ a') K.pos (by simp;exact hmul _ (by omega)) (by simp[maxLen];omega) λy6 h6 o6 _=>?_;simp -dsimp[zjl (n:=j) (by omega)];refine hZ (12-(j+1)) _ _ (by omega) ⟨j+1,y6,PM++[(mk 1 j,a')],[],by omega,by simp,?_,?_⟩
   ·rw[map_append,hPM,range_succ,map_append];rfl
   ·rw[DK.zq8,DK.os_one,map_append]
    simpa using o6
  ·have hj12:j=12:=by omega
   subst hj12;obtain⟨x',e2,e3,e4⟩:=(o4.zgz 0 rfl).slice K.pos (lo:=0) (hi:=L.length) (a:=none) (b:=some (.int .i64 L.length)) (.inl ⟨rfl,rfl⟩) (.inr ⟨_,rfl⟩) (by omega) (by simp;omega);simp -dsimp only[hlx,e2,B.ze];have h1:((P.map K.cs++PM.map K.cs++R4).take L.length).drop 0=P.map K.cs:=by
    rw[append_assoc,take_append_of_le_length (by simp;omega),take_of_length_le (by simp;omega),drop_zero]
   have h2:(P.map K.cs++PM.map K.cs++R4).drop L.length=PM.map K.cs++R4:=by
    rw[append_assoc,drop_append_of_le_length (by simp;omega),drop_of_length_le (by simp;omega),nil_append]
   rw[h1,h2]at e3;have e5:SlX h4 K.n x' (P.map K.cs) (PM.map K.cs):=e3.cutR;refine hq x' P PM h4 hP hPM ?_;exact o4.zqk 0 rfl (o':= .sl K.n x' (P.map K.cs) (PM.map K.cs)) e5 (λid b hf hb=>o4.zqs 0 rfl id b (by show zhy y4=some id;rw[<-e4];exact hf) hb) (λj b hb _=>hb) (.inl e4)
def zut(K:DK T Ad)(mk:Int->Int->T)(h:zb)(x:za)(L:List T):Prop:=∃P PM:List (T×Ad),P.map (·.1)=L /\ PM.map (·.1)=zxt mk /\ SlX h K.n x (P.map K.cs) (PM.map K.cs) /\ zwh h (K.os true P) /\ (∀p∈P,K.ok p.1) /\ ∀p∈PM,K.at_ h p.1 p.2
theorem zut.mono{mk:Int->Int->T}(hd:zut K mk h x L)(hle:h.le h'):zut K mk h' x L:=by
 obtain⟨P,PM,e1,e2,s,a1,a0,a2⟩:=hd;exact⟨P,PM,e1,e2,s.mono hle,a1.mono hle,a0,λp hp=>K.mono hle (a2 p hp)⟩
theorem zut.dl{mk:Int->Int->T}(hd:zut K mk h x L):Dl K h x L:=by
 obtain⟨P,PM,e1,e2,s,a1,a0,a2⟩:=hd;exact⟨P,_,e1,s,λp hp=>K.zxp (a0 p hp) λo ho=>a1 o (mem_flatMap.2 ⟨p,hp,ho⟩)⟩
theorem mks12_ok{mk:Int->Int->T}{PM:List (T×Ad)}(hmk:∀k i,K.ok (mk k i))(e2:PM.map (·.1)=zxt mk):∀p∈PM,K.ok p.1:=λp hp=>by
 have:p.1∈PM.map (·.1):=mem_map.2 ⟨p,hp,rfl⟩
 rw[e2,zxt,mem_map]at this
 obtain⟨i,_,e⟩:=this
 rw[<-e];exact hmk _ _
theorem zut.of{mk:Int->Int->T}{P PM:List (T×Ad)}(hmk:∀k i,K.ok (mk k i))(hok:∀t∈L,K.ok t)(e1:P.map (·.1)=L)(e2:PM.map (·.1)=zxt mk)(ho:zcw h0 h (.sl K.n x (P.map K.cs) (PM.map K.cs)::(K.os true P++K.os false PM))):zut K mk h x L:=⟨P,PM,e1,e2,ho.zgz 0 rfl,λo hm=>ho.is o (mem_cons_of_mem _ (mem_append_left _ hm)),λp hp=>hok _ (e1 ▸ mem_map.2 ⟨p,hp,rfl⟩),λp hp=>K.zxp (mks12_ok hmk e2 p hp) λo hm=>ho.is o (mem_cons_of_mem _ (mem_append_right _ (mem_flatMap.2 ⟨p,hp,hm⟩)))⟩
@[simp] def keptD.k1(C:zh)(n fk fm fs:Nat)(Q:zQ)(Y1:zL)(v1 v5 v6:za)(h:zb):Prop:=B.pv (V.zbi v5) λv19=>B.pv (V.bin .lss v6 v19) λv20=>B.cond v20 (B.pv (V.zbi v1) λv25=>B.pv (V.bin .lss v6 v25) λv26=>B.gd h v26 true (λK=>K v5 h) λv28 h=>B.gd h v26 true (λK=>K v6 h) λv29 h=>B.gd h v26 true (λK=>B.pv (V.zb3 n v28 v29) λv=>K v h) λv30 h=>B.gd h v26 true (λK=>B.ldn h v30 n λv=>K v h) λv31 h=>B.gd h v26 true (λK=>K v1 h) λv32 h=>B.gd h v26 true (λK=>K v6 h) λv33 h=>B.gd h v26 true (λK=>B.pv (V.zb3 n v32 v33) λv=>K v h) λv34 h=>B.gd h v26 true (λK=>B.ldn h v34 n λv=>K v h) λv35 h=>B.gd h v26 true (λK=>B.call C fk [v31,v35] h K) λv36 h=>B.gd h v26 true (λK=>B.pv (V.un .not v36) λv=>K v h) λv37 h=>B.pick v26 v37 (.bool false) λv38=>B.gd h v38 false (λK=>K v6 h) λv40 h=>B.gd h v38 false (λK=>K v1 h) λv41 h=>B.gd h v38 false (λK=>B.pv (V.zbi v41) λv=>K v h) λv42 h=>B.gd h v38 false (λK=>B.pv (V.bin .geq v40 v42) λv=>K v h) λv43 h=>B.gd h v38 false (λK=>K v43 h) λv44 h=>B.gd h v44 true (λK=>K v5 h) λv45 h=>B.gd h v44 true (λK=>K v6 h) λv46 h=>B.gd h v44 true (λK=>B.pv (V.zb3 n v45 v46) λv=>K v h) λv47 h=>B.gd h v44 true (λK=>B.ldn h v47 n λv=>K v h) λv48 h=>B.gd h v44 true (λK=>K v6 h) λv49 h=>B.gd h v44 true (λK=>K v1 h) λv50 h=>B.gd h v44 true (λK=>B.pv (V.zbi v50) λv=>K v h) λv51 h=>B.gd h v44 true (λK=>B.pv (V.bin .sub v49 v51) λv=>K v h) λv52 h=>B.gd h v44 true (λK=>B.call C fm [(.int .i64 1),v52] h (B.zpl h [(v47,some n)] K)) λv53 h=>B.gd h v44 true (λK=>B.call C fs [v48,v53] h K) λv54 h=>B.gd h v44 true (λK=>B.pv (V.un .not v54) λv=>K v h) λv55 h=>B.gd h v38 false (λK=>B.pick v44 v55 (.bool false) λv=>K v h) λv56 h=>B.pick v38 (.bool true) v56 λv57=>B.cond v57 (Q (.bool false) h) (B.pv (V.bin .add v6 (.int .i64 1)) λv22=>Y1 [v22] h)) (Q (.bool true) h)
@[simp] def keptD.l2(C:zh)(n fk fm fs:Nat)(Q:zQ)(v1 v5:za):zG|[v6],h,Y1=>keptD.k1 C n fk fm fs Q Y1 v1 v5 v6 h|_,_,_=>False
@[simp] def keptD.k3(C:zh)(n fk fm fs:Nat)(Q:zQ)(v0 v1:za)(h:zb):Prop:=B.pv (V.zbi v1) λv14=>B.pv (V.bin .add v14 (.int .i64 12)) λv15=>B.pv (V.zhj n v0 none (some v15)) λv16=>zd (keptD.l2 C n fk fm fs Q v1 v16) [(.int .i64 0)] h
def keptD(C:zh)(n fk fm fs:Nat)(v0 v1:za)(h:zb)(Q:zQ):Prop:=B.pv (V.zbi v0) λv8=>B.pv (V.zbi v1) λv10=>B.pv (V.bin .neq v8 v10) λv11=>B.cond v11 (Q (.bool false) h) (keptD.k3 C n fk fm fs Q v0 v1 h)
theorem keptD_spec[DecidableEq T]{mk:Int->Int->T}{fk fm fs:Nat}(hmk:∀k i,K.ok (mk k i))(sk:KeptE K C fk)(sm:MarkE K mk C fm)(ss:SameE K C fs){y:za}{Q:zQ}(hx:zut K mk h x L)(hy:Dl K h y M)(hlen:L.length <= 100000000)
  (hq:∀h',h.le h'->Q (.bool (decide (L=M))) h'):keptD C K.n fk fm fs x y h Q:=by
 have hlx:=hx.dl.zbi;have hly:=hy.zbi;simp -dsimp[keptD,hlx,hly];refine B.zm (λhb=>?_) (λhb=>?_)<;>simp -dsimp at hb ⊢
 ·have hq:=hq h (zb.le_refl h)
  rw[decide_eq_false λe=>hb (by rw[e])]at hq;exact hq
 ·obtain⟨P,PM,rfl,hPM,s,a1,a0,a2⟩:=hx
  have hMl:PM.length=12:=by have:=congrArg List.length hPM;simpa[zxt]using this
  rw[length_map]at hb hlen;have e1:IntKind.i64.wrap ((M.length:Int)+12)=((M.length+12:Nat):Int):=by rw[wrap_i64 (by omega) (by omega)];omega
  obtain⟨z,e2,e3,e4⟩:=s.slice K.pos (lo:=0) (hi:=M.length+12) (a:=none) (b:=some (.int .i64 ((M.length+12:Nat):Int))) (.inl ⟨rfl,rfl⟩) (.inr ⟨_,rfl⟩) (by omega) (by simp;omega);have h1:((P.map K.cs++PM.map K.cs).take (M.length+12)).drop 0=(P++PM).map K.cs:=by rw[drop_zero,take_of_length_le,map_append];simp;omega
  rw[h1]at e3;have hlz:=e3.zbi;simp only[length_map,length_append,hMl]at hlz;simp only[hly,V.zex,e1,e2,B.ze];refine zd.intro (λn vs hh=>∃k,k+n=P.length+12 /\ vs=[.int .i64 k] /\ h.le hh /\ (P.map (·.1)).take k=M.take k) (P.length+12) ?_ ⟨0,by simp,by simp,zb.le_refl h,by simp⟩;rintro Y n vs hh ⟨k,hn,rfl,hle,he⟩ hY;have e3:=e3.mono hle;simp -dsimp[hlz];refine B.zm (λhc=>?_) (λhc=>?_)<;>simp -dsimp at hc ⊢
  ·by_cases hkL:k<P.length
   ·obtain⟨p,hp⟩:=zgf hkL
    have hkM:k<M.length:=by omega
    obtain⟨u,hu⟩:=zgf hkM;obtain⟨b,eb⟩:=(hy.mono hle).get hu;have hpz:((P++PM).map K.cs)[k]?=some (K.cells p.1 p.2):=by rw[getElem?_map,getElem?_append_left hkL,hp];rfl
    have hkz:k<((P++PM).map K.cs).length:=by simp;omega
    have e5:=e3.elem hpz;have e6:=e3.zjp (k:= .i64) hkz;have hw:(P.map (·.1))[k]?=some p.1:=by rw[getElem?_map,hp];rfl
    simp -dsimp only[hly,V.zeh,show ((k:Int)<(M.length:Int)) by omega,decide_true,B.zi1,B.zru,B.zdr,zk3,e6,e5,eb.idx,eb.ldn,B.ze,B.zn5];refine sk _ _ _ _ _ _ (a0 p (mem_of_getElem? hp)) (zwh.mono (l:=K.obs true p.1 p.2) (λo ho=>a1 o (mem_flatMap.2 ⟨p,mem_of_getElem? hp,ho⟩)) hle) eb.at_ ?_;simp -dsimp only[B.zi1,B.zdr,V.zjt,B.ze,B.zhx];by_cases hwu:p.1=u
    ·simp -dsimp only[hwu,decide_true,Bool.not_true,B.gd_f,Bool.not_false,B.zdr,hly,V.zk5,show ¬ ((M.length:Int) <= (k:Int)) by omega,decide_false,B.zi1,B.zgd,B.ziv,B.ze,B.cond_false,V.zex,zjl (n:=k) (by omega)]
     refine hY (P.length+12-(k+1)) _ _ (by omega) ⟨k+1,by omega,rfl,hle,?_⟩;rw[take_succ hw,take_succ hu,he,hwu]
    ·simp -dsimp only[hwu,decide_false,Bool.not_false,B.gd_f,Bool.not_true,B.zgd,B.zhx,B.cond_true,B.gd_tup]
     have hq:=hq hh hle;rw[decide_eq_false λe=>by rw[e,hu]at hw;cases hw;exact hwu rfl]at hq;exact hq
   ·have hkM:¬ k<M.length:=by omega
    obtain⟨p,hp⟩:=zgf (L:=PM) (k:=k-P.length) (by omega);have hpz:((P++PM).map K.cs)[k]?=some (K.cells p.1 p.2):=by rw[getElem?_map,getElem?_append_right (by omega),hp];rfl
    have hkz:k<((P++PM).map K.cs).length:=by simp;omega
    have e5:=e3.elem hpz;have e6:=e3.zjp (k:= .i64) hkz;have hm:p.1=mk 1 ((k-M.length:Nat):Int):=by
     have:(PM.map (·.1))[k-P.length]?=some p.1:=by rw[getElem?_map,hp];rfl
     rw[hPM,zxt,getElem?_map,getElem?_range (by omega)]at this;simp only[Option.map_some,Option.some.injEq]at this;rw[<-this];congr 2;omega
    have e7:IntKind.i64.wrap ((k:Int)-M.length)=((k-M.length:Nat):Int):=by rw[wrap_i64 (by omega) (by omega)];omega
    simp -dsimp only[hly,V.zeh,show ¬ ((k:Int)<(M.length:Int)) by omega,decide_false,B.zi1,B.zru,B.zgd,gv_false,B.ziv,B.gd_f,Bool.not_false,B.zdr,zk3,V.zk5,show ((M.length:Int) <= (k:Int)) by omega,decide_true,e6,e5,V.zi9,e7,B.ze,B.zn5];refine sm _ _ _ _ λa' h5 o5=>⟨?_,?_⟩
    ·intro q hq
     rw[mem_singleton.1 hq];exact⟨_,e5,(e3.mono o5.le).elem hpz⟩
    ·simp -dsimp only[zk3,B.zi1,B.zdr,B.ze,decide_true]
     refine ss _ _ _ _ _ _ (K.mono (zb.le_trans hle o5.le) (a2 p (mem_of_getElem? hp))) (K.zxp (hmk _ _) o5.is) ?_;simp -dsimp only[hm,zk3,decide_true,decide_false,V.zjt,Bool.not_true,Bool.not_false,B.zi1,B.gd_f,B.zdr,B.zhx,B.ziv,B.ze,B.cond_false,V.zex,zjl (n:=k) (by omega)];refine hY (P.length+12-(k+1)) _ _ (by omega) ⟨k+1,by omega,rfl,zb.le_trans hle o5.le,?_⟩;rw[take_of_length_le (by simp;omega),take_of_length_le (by omega)]at he ⊢;exact he
  ·have hq:=hq hh hle
   rw[take_of_length_le (by simp;omega),take_of_length_le (by omega)]at he;rw[decide_eq_true he]at hq;exact hq
end
variable{C:zh}{N:zN}
structure Itm where
 Code:List UInt8
 Life:Int
 zgc:List Part
 zep:List (List UInt8)
 deriving DecidableEq
def few:Nat:=100000000
abbrev Itm.ok(t:Itm):Prop:=t.zgc.length <= few /\ t.zep.length <= few
def zu8(b:Bool)(x:za)(l:List Part):Ob:= .sl 2 x (l.map Part.cs) (bif b then zn2 else [])
def zux(b:Bool)(x:za)(l:List (List UInt8)):Ob:= .sl 1 x (l.map tc) (bif b then zh2 else [])
def zd3:DK Itm (za×za) where
 n:=4
 bytes:=72
 z:=[.str [],.int .i64 0,.zbj,.zbj]
 pos:=by omega
 small:=by omega
 zlen:=rfl
 cells t a:=[.str t.Code,.int .i64 t.Life,a.1,a.2]
 len _ _:=rfl
 at_ h t a:=(∃R,SlX h 2 a.1 (t.zgc.map Part.cs) R) /\ (∃R,SlX h 1 a.2 (t.zep.map tc) R) /\ t.ok
 mono hle ha:=⟨ha.1.imp λ_ r=>r.mono hle,ha.2.1.imp λ_ r=>r.mono hle,ha.2.2⟩
 ok:=Itm.ok
 at_ok ha:=ha.2.2
 obs b t a:=[zu8 b a.1 t.zgc,zux b a.2 t.zep]
 zxp {b h t a} hk ha:=⟨⟨_,show SlX h 2 a.1 (t.zgc.map Part.cs) (bif b then zn2 else []) from ha (zu8 b a.1 t.zgc) (by simp)⟩,⟨_,show SlX h 1 a.2 (t.zep.map tc) (bif b then zh2 else []) from ha (zux b a.2 t.zep) (by simp)⟩,hk⟩
abbrev iCells(t:Itm)(a:za×za):List za:=[.str t.Code,.int .i64 t.Life,a.1,a.2]
theorem Itm.eq_iff(t u:Itm):t=u↔((t.Code=u.Code /\ t.Life=u.Life) /\ t.zgc=u.zgc) /\ t.zep=u.zep:=by
 cases t;cases u;simp[Itm.mk.injEq,and_assoc]
def zfg.Spec(C:zh)(N:zN):Prop:=SameE zd3 C (N 110)
theorem zfg.spec(i:zfg.Imp C N)(s1:ze1.Spec C N)(s2:zef.Spec C N):zfg.Spec C N:=by
 intro t u a b h Q ha hb hq;obtain⟨⟨R1,a1⟩,⟨R2,a2⟩,a3,a4⟩:(∃R,SlX h 2 a.1 (t.zgc.map Part.cs) R) /\ (∃R,SlX h 1 a.2 (t.zep.map tc) R) /\ t.ok:=ha;obtain⟨⟨S1,b1⟩,⟨S2,b2⟩,b3,b4⟩:(∃R,SlX h 2 b.1 (u.zgc.map Part.cs) R) /\ (∃R,SlX h 1 b.2 (u.zep.map tc) R) /\ u.ok:=hb;unfold few at a3 a4;apply i;simp +contextual -dsimp[zd3];refine B.zmo (v:= .bool (decide (t.zgc=u.zgc))) (λ_ Q hq=>s1 _ _ _ _ _ _ _ _ a1 b1 (by omega) hq) ?_;simp +contextual -dsimp;refine B.zmo (v:= .bool (decide (t.zep=u.zep))) (λ_ Q hq=>s2 _ _ _ _ _ _ _ _ a2 b2 (by omega) hq) ?_;simp -dsimp;refine zba ?_;have:decide (t=u)=(((decide (t.Code=u.Code)&&decide (t.Life=u.Life))&&decide (t.zgc=u.zgc))&&decide (t.zep=u.zep)):=by
  rw[Bool.eq_iff_iff];simp only[decide_eq_true_eq,Bool.and_eq_true];exact Itm.eq_iff t u
 rw[this]at hq;exact hq
def zf8.Spec(C:zh)(N:zN):Prop:=OneE zd3 true C (N 399)
theorem zf8.spec(i:zf8.Imp C N)(s1:ze3.Spec C N)(s2:zeq.Spec C N):zf8.Spec C N:=by
 intro t a h Q ha hq;obtain⟨⟨R1,a1⟩,⟨R2,a2⟩,a3,a4⟩:(∃R,SlX h 2 a.1 (t.zgc.map Part.cs) R) /\ (∃R,SlX h 1 a.2 (t.zep.map tc) R) /\ t.ok:=ha;apply i;simp -dsimp[zd3];refine s1 _ _ _ _ _ a1 a3 λx1 h1 o1=>?_;have c1:=(o1.zgz 0 rfl).zbm;simp -dsimp[c1];refine s2 _ _ _ _ _ (a2.mono o1.le) a4 λx2 h2 o2=>?_;have c2:=(o2.zgz 0 rfl).zbm;simp -dsimp[c2];exact zba (hq (x1,x2) h2 (o1.join o2))
def zf9.Spec(C:zh)(N:zN):Prop:=KeptE zd3 C (N 400)
theorem zf9.spec(i:zf9.Imp C N)(s0:zfg.Spec C N)(s1:zel.Spec C N)(s2:zec.Spec C N):zf9.Spec C N:=by
 intro t u a b h Q hok ha hb hq;apply i;have ha':=zd3.zxp hok ha;obtain⟨⟨S1,b1⟩,⟨S2,b2⟩,b3,b4⟩:(∃R,SlX h 2 b.1 (u.zgc.map Part.cs) R) /\ (∃R,SlX h 1 b.2 (u.zep.map tc) R) /\ u.ok:=hb;have k1:SlX h 2 a.1 (t.zgc.map Part.cs) zn2:=ha (zu8 true a.1 t.zgc) (by simp[zd3]);have k2:SlX h 1 a.2 (t.zep.map tc) zh2:=ha (zux true a.2 t.zep) (by simp[zd3]);simp -dsimp[zd3];refine s0 t u a b h _ ha' ⟨⟨S1,b1⟩,⟨S2,b2⟩,b3,b4⟩ ?_;simp +contextual -dsimp;refine B.zmo (v:= .bool (decide (t.zgc=u.zgc))) (λ_ Q hq=>s1 _ _ _ _ _ _ _ k1 b1 hok.1 hq) ?_;simp +contextual -dsimp;refine B.zmo (v:= .bool (decide (t.zep=u.zep))) (λ_ Q hq=>s2 _ _ _ _ _ _ _ k2 b2 hok.2 hq) ?_;simp -dsimp;refine zba ?_;have:decide (t=u)=(decide (t=u)&&decide (t.zgc=u.zgc)&&decide (t.zep=u.zep)):=by
  by_cases h:t=u
  ·subst h;simp
  ·simp[h]
 rw[this]at hq;exact hq
def zkt(k i:Int):Itm:=⟨[],mark k i,[],[]⟩
theorem zp1(k i:Int):zd3.ok (zkt k i):=⟨by simp[zkt],by simp[zkt]⟩
def zff.Spec(C:zh)(N:zN):Prop:=MarkE zd3 zkt C (N 109)
theorem zff.spec(i:zff.Imp C N)(s1:zhl.Spec C N):zff.Spec C N:=by
 intro k j h Q hq;apply i;simp -dsimp;refine s1 _ _ _ _ ?_;simp -dsimp;exact zba (hq (.zbj,.zbj) _ (by simpa[zd3,zkt,zu8,zux]using ((zcw.start h).zbj 2).zbj 1))
def zd4.Spec(C:zh)(N:zN):Prop:=∀(x y:za)(L M:List Itm)(h:zb)(Q:zQ),Dl zd3 h x L->Dl zd3 h y M->L.length<4611686018427387904->Q (.bool (decide (L=M))) h->C (N 134) [x,y] h Q
theorem zd4.spec(i:zd4.Imp C N)(s1:zfg.Spec C N):zd4.Spec C N:=λx y L M h Q hx hy hl hq=>i x y h Q (sameD_spec (K:=zd3) s1 hx hy hl (zba hq))
def zc0.Spec(C:zh)(N:zN):Prop:=∀(x:za)(L:List Itm)(h:zb)(Q:zQ),Dl zd3 h x L->L.length <= 100000000->(∀x' P PM h',P.map (·.1)=L->PM.map (·.1)=zxt zkt->zcw h h' (.sl 4 x' (P.map zd3.cs) (PM.map zd3.cs)::(zd3.os true P++zd3.os false PM))->Q x' h')->C (N 391) [x] h Q
theorem zc0.spec(i:zc0.Imp C N)(s1:zff.Spec C N)(s2:zf8.Spec C N):zc0.Spec C N:=λx L h Q hx hl hq=>i x h Q (lentD_spec (K:=zd3) s1 s2 hx hl λx' P PM h' e1 e2 ho=>zba (hq x' P PM h' e1 e2 ho))
def zdg.Spec(C:zh)(N:zN):Prop:=∀(x y:za)(L M:List Itm)(h:zb)(Q:zQ),zut zd3 zkt h x L->Dl zd3 h y M->L.length <= 100000000->Q (.bool (decide (L=M))) h->C (N 392) [x,y] h Q
theorem zdg.spec(i:zdg.Imp C N)(s1:zf9.Spec C N)(s2:zff.Spec C N)(s3:zfg.Spec C N):zdg.Spec C N:=λx y L M h Q hx hy hl hq=>i x y h Q (keptD_spec (K:=zd3) zp1 s1 s2 s3 hx hy hl λh' hle=>dn_le hle hq)
variable{C:zh}{N:zN}
abbrev zij:List UInt8->List UInt8->Bool:=Op.bytesLess
theorem lessB_nil(a:List UInt8):zij a []=false:=by cases a<;>rfl
theorem zt9(a b:UInt8)(as1 bs:List UInt8):zij (a::as1) (b::bs)=(decide (a<b)||(a==b&&zij as1 bs)):=rfl
theorem u8_tri(a b:UInt8):a<b \/ a=b \/ b<a:=by
 simp only[UInt8.lt_iff_toNat_lt,<-UInt8.toNat_inj];omega
theorem zko:∀a:List UInt8,zij a a=false
 | []=>rfl
 | a::as1=>by rw[zt9,zko as1];simp
theorem zmh:∀{a b c:List UInt8},zij a b=true->zij b c=true->zij a c=true
 | _,[],_,h,_=>by rw[lessB_nil]at h;cases h
 | _,_::_,[],_,h=>by rw[lessB_nil]at h;cases h
 | [],_::_,_::_,_,_=>rfl
 | a::as1,b::bs,c::cs,h1,h2=>by
  rw[zt9]at h1 h2 ⊢
  simp only[Bool.or_eq_true,decide_eq_true_eq,Bool.and_eq_true,beq_iff_eq]at h1 h2 ⊢
  rcases h1 with h1|⟨rfl,h1⟩
  ·rcases h2 with h2|⟨rfl,h2⟩
   ·left;simp only[UInt8.lt_iff_toNat_lt]at *;omega
   ·exact .inl h1
  ·rcases h2 with h2|⟨rfl,h2⟩
   ·exact .inl h2
   ·exact .inr ⟨rfl,zmh h1 h2⟩
theorem zp3:∀{a b:List UInt8},zij a b=false->zij b a=false->a=b
 | [],[],_,_=>rfl
 | [],_::_,h,_=>by cases h
 | _::_,[],_,h=>by cases h
 | a::as1,b::bs,h1,h2=>by
  rw[zt9]at h1 h2
  simp only[Bool.or_eq_false_iff,decide_eq_false_iff_not,Bool.and_eq_false_iff,beq_eq_false_iff_ne]at h1 h2
  obtain rfl:a=b:=by rcases u8_tri a b with h|h|h<;>simp_all
  rw[zp3 (h1.2.resolve_left λh=>h rfl) (h2.2.resolve_left λh=>h rfl)]
theorem zpf{a b:List UInt8}(h:zij a b=true):zij b a=false:=by
 cases e:zij b a with
 | false=>rfl
 | true=>have:=zmh h e;rw[zko]at this;cases this
theorem zwr{a b:List UInt8}(h:zij a b=true):a≠b:=λe=>by subst e;rw[zko]at h;cases h
theorem zop{a b:List UInt8}(h:zij a b=false)(hne:a≠b):zij b a=true:=by
 cases e:zij b a with
 | true=>rfl
 | false=>exact absurd (zp3 h e) hne
abbrev cmpB:=Lib.compareBytes
theorem zun:∀a b:List UInt8,cmpB a b=if zij a b then -1 else if zij b a then 1 else 0
 | [],[]=>rfl
 | [],_::_=>rfl
 | _::_,[]=>rfl
 | a::as1,b::bs=>by
  have ih:=zun as1 bs
  show (if a<b then -1 else if b<a then 1 else cmpB as1 bs)=_
  rw[ih,zt9,zt9]
  rcases u8_tri a b with h|rfl|h
  ·simp[h]
  ·have hi:¬ a<a:=by simp only[UInt8.lt_iff_toNat_lt];omega
   simp
  ·have h1:¬ a<b:=by simp only[UInt8.lt_iff_toNat_lt]at *;omega
   have h2:a≠b:=λe=>by subst e;exact h1 h
   have h3:(a==b)=false:=by simp[h2]
   simp[h,h1,h3]
theorem zuo{a b:List UInt8}:cmpB a b<0↔zij a b=true:=by
 rw[zun];split
 ·simp[*]
 ·split<;>simp[*]
theorem cmpB_zero{a b:List UInt8}:cmpB a b=0↔a=b:=by
 rw[zun];split
 ·rename_i h;simp[zwr h]
 ·split
  ·rename_i h;simp[(zwr h).symm]
  ·rename_i h1 h2;simp[zp3 (by simpa using h1) (by simpa using h2)]
theorem rise_ext{T:Type}{lt:T->T->Prop}(asym:∀a b,lt a b->lt b a->False){l m:List T}(s:l.Pairwise lt)(t:m.Pairwise lt)(e:∀x,x∈l↔x∈m):l=m:=by
 have nd:∀{l:List T},l.Pairwise lt->l.Nodup:=λh=>h.imp λ{a b} hab e=>by subst e;exact asym a a hab hab
 exact List.Perm.eq_of_pairwise (le:=lt) (λa b _ _ h1 h2=>(asym a b h1 h2).elim) s t ((perm_ext_iff_of_nodup (nd s) (nd t)).2 e)
variable{C:zh}{N:zN}
theorem SlX.sliceIn{T:Type}{h:zb}{es:Nat}{x:za}{f:T->List za}{L:List T}{R:List (List za)}(hs:SlX h es x (L.map f) R)(hes:0<es){lo hi:Nat}{a b:Option za}(ha:a=none /\ lo=0 \/ ∃k,a=some (.int k lo))(hb:b=none /\ hi=L.length \/ ∃k,b=some (.int k hi))(h1:lo <= hi)(h2:hi <= L.length):
  ∃x' R',V.zhj es x a b=some x' /\ SlX h es x' (((L.take hi).drop lo).map f) R' /\ zhy x'=zhy x:=by
 obtain⟨x',e1,e2,e3⟩:=hs.slice hes ha (by simpa using hb) h1 (by simp;omega);refine⟨x',(L.map f++R).drop hi,e1,?_,e3⟩
 rwa [take_append_of_le_length (by simpa using h2),<-map_take,<-map_drop]at e2
section
variable{V:Type}
variable(E:V->List V)
variable{E}
variable{K:List V}{D:V->Option Nat}
end
theorem flat_take{α:Type}{n:Nat}:∀{css:List (List α)},(∀cs∈css,cs.length=n)->∀k:Nat,(css.take k).flatten=css.flatten.take (k*n)
 | [],_,k=>by simp
 | c::css,hl,0=>by simp
 | c::css,hl,k+1=>by
  have hc:c.length=n:=hl c (by simp)
  rw[take_succ_cons,flatten_cons,flatten_cons,flat_take (λp hp=>hl p (by simp[hp])) k,Nat.add_mul,Nat.one_mul,show k*n+n=c.length+k*n by omega,take_length_add_append]
theorem flat_drop{α:Type}{n:Nat}:∀{css:List (List α)},(∀cs∈css,cs.length=n)->∀k:Nat,(css.drop k).flatten=css.flatten.drop (k*n)
 | [],_,k=>by simp
 | c::css,hl,0=>by simp
 | c::css,hl,k+1=>by
  have hc:c.length=n:=hl c (by simp)
  rw[drop_succ_cons,flatten_cons,flat_drop (λp hp=>hl p (by simp[hp])) k,Nat.add_mul,Nat.one_mul,show k*n+n=c.length+k*n by omega,drop_length_add_append]
theorem lay_read{cells Z F:List za}{off lo T:Nat}(h5:(cells.drop off).take T=F)(hF:F.length=T)(hh:off+T <= cells.length)(hz:lo+Z.length <= T):
  ((cells.take (off+lo)++Z++cells.drop (off+lo+Z.length)).drop off).take T=F.take lo++Z++F.drop (lo+Z.length):=by
 subst h5;apply ext_getElem?;intro k;by_cases hk:k<T
 ·rw[getElem?_take_of_lt hk,getElem?_drop,append_assoc,append_assoc]
  have l1:(cells.take (off+lo)).length=off+lo:=by simp;omega
  have l2:(((cells.drop off).take T).take lo).length=lo:=by simp;omega
  rw[zrs _ _ _ l1,zrs _ _ _ l2,show off+k-(off+lo)=k-lo by omega];by_cases k1:k<lo
  ·rw[if_pos (by omega),if_pos k1,getElem?_take_of_lt (by omega),getElem?_take_of_lt (by omega),getElem?_take_of_lt (by omega),getElem?_drop]
  ·rw[if_neg (by omega),if_neg k1]
   split
   ·rfl
   ·rw[getElem?_drop,getElem?_drop,getElem?_take_of_lt (by omega),getElem?_drop]
    congr 1;omega
 ·rw[getElem?_take_eq_none (by omega),getElem?_eq_none]
  simp;omega
section
variable{h h0:zb}{es:Nat}{x:za}{L R:List (List za)}{l:List Ob}
theorem SlX.clrTail{lo:Nat}{z:List za}{K:zQ}(ho:SlX h es x L R)(hown:∀id b,zhy x=some id->h id=some b->b.own=true)(hz:z.length=es)(hlo:lo <= L.length)
  (hk:∀h',SlX h' es x (L.take lo++List.replicate (L.length-lo) z) R->(∀id b,zhy x=some id->h' id=some b->b.own=true)->But x h h'->K (.tup []) h'):
  ∃y,V.zhj es x (some (.int .i64 (lo:Int))) none=some y /\ A.clr h (some z) y K:=by
 rcases ho.at_ with⟨e,e',e''⟩|⟨id,g,off,cp,b,hi,h1,h1',h2,h3,h4,hh,h5⟩
 ·subst e e'
  have:lo=0:=by simpa using hlo
  subst this;refine⟨x,?_,?_⟩
  ·rcases e'' with rfl|rfl<;>rfl
  ·have:=hk h (by simpa using ho) hown (λ_ _ h _=>h)
   rcases e'' with rfl|rfl<;>exact this
 ·subst h1
  refine⟨.sl id g (off+lo*es) (L.length-lo) es (max L.length cp-lo),?_,?_⟩
  ·simp only[V.zhj,endsC_eq (.inr ⟨_,rfl⟩) (.inl ⟨rfl,rfl⟩)]
   rw[if_pos ⟨hlo,by omega⟩];simp
  ·simp only[A.clr]
   split
   ·rename_i h0
    refine hk h ?_ hown (λ_ _ h _=>h);rw[h0,take_of_length_le (by omega)];simpa using ho
   ·rename_i hne
    have hown':=hown id b rfl h2;generalize hZ:(List.replicate (L.length-lo) z).flatten=Z;have hzl:Z.length=(L.length-lo)*es:=by rw[<-hZ];simp[hz]
    have hTl:(L++R).length=L.length+R.length:=by simp
    have hmul:lo*es+(L.length-lo)*es=L.length*es:=by rw[<-Nat.add_mul];congr 1;omega
    have hmul2:L.length*es+R.length*es=(L.length+R.length)*es:=by rw[<-Nat.add_mul]
    have hbl:Nat.ble (0+(off+lo*es)+(L.length-lo)*es) hi=true:=by rw[Nat.ble_eq];omega
    have hput:V.zy0 (off+lo*es) ((L.length-lo)*es) (.agg Z) b.cells=some (b.cells.take (off+lo*es)++Z++b.cells.drop (off+lo*es+(L.length-lo)*es)):=by
     simp only[V.zy0];rw[if_pos ⟨hzl,by omega⟩]
    simp only[A.stv,h2,h3,hown',hbl,Bool.true_and,cond_true,hput,A.ph];have rd:=lay_read (cells:=b.cells) (Z:=Z) (off:=off) (lo:=lo*es) h5 (by rw[zqa ho.len,hTl]) (by omega) (by rw[hzl];omega);have hnew:(L.take lo++List.replicate (L.length-lo) z++R).flatten=(L++R).flatten.take (lo*es)++Z++(L++R).flatten.drop (lo*es+Z.length):=by
     rw[flatten_append,flatten_append,hZ,hzl,hmul,<-flat_take ho.len,<-flat_drop ho.len,take_append_of_le_length hlo,drop_left]
    rw[<-hnew,hzl]at rd;have hll:(L.take lo++List.replicate (L.length-lo) z).length=L.length:=by simp;omega
    have hlen':∀p∈L.take lo++List.replicate (L.length-lo) z++R,p.length=es:=λp hp=>by
     rcases mem_append.1 hp with hp|hp
     ·rcases mem_append.1 hp with hp|hp
      ·exact ho.len p (mem_append_left _ (mem_of_mem_take hp))
      ·rw[(mem_replicate.1 hp).2];exact hz
     ·exact ho.len p (mem_append_right _ hp)
    refine hk _ ⟨hlen',.inr ⟨id,g,off,cp,_,hi,by rw[hll],by rw[hll];exact h1',zck ..,zk2 ..,by rw[hll];exact h4,?_,by simp only;rw[hll];exact rd⟩⟩ (λj b1 hj hb1=>?_) (λj b1 e1 e2=>?_)
    ·simp;omega
    ·cases hj
     rw[zck]at hb1;cases hb1;rfl
    ·rw[zbf]
     ·exact e1
     ·intro e;subst e;exact e2 rfl
theorem zcw.clrTail{lo:Nat}{z:List za}{K:zQ}(ho:zcw h0 h l)(k:Nat)(hk:l[k]?=some (.sl es x L R))(hz:z.length=es)(hlo:lo <= L.length)(hK:∀h',zcw h0 h' (l.set k (.sl es x (L.take lo++List.replicate (L.length-lo) z) R))->But x h h'->K (.tup []) h'):∃y,V.zhj es x (some (.int .i64 (lo:Int))) none=some y /\ A.clr h (some z) y K:=(ho.zgz k hk).clrTail (ho.zqs k hk) hz hlo λh' h1 h2 h3=>hK h' (ho.zqk k hk h1 h2 h3 (.inl rfl)) h3
end
abbrev zly(K T:Type):=List (K×T×Nat)
def zhe{K T:Type}(ps:zly K T):List K:=ps.map (·.1)
theorem zpj{K T:Type}(p:K×T×Nat)(r:zly K T):zhe (p::r)=p.1::zhe r:=rfl
section
variable{K T:Type}[DecidableEq K]
def zl1:zly K T->K->Option T|[],_=>none|p::r,k=>if p.1=k then some p.2.1 else zl1 r k
def zyf:zly K T->K->T->Nat->zly K T|[],k,t,c=>[(k,t,c)]|p::r,k,t,c=>if p.1=k then (k,t,p.2.2)::r else p::zyf r k t c
def clkP(ps:zly K T)(k:K)(c:Nat):Nat:=if (zl1 ps k).isSome then c else c+1
def zvi:zly K T->K->Option (Nat×T×Nat)|[],_=>none|p::r,k=>if p.1=k then some (0,p.2.1,p.2.2) else (zvi r k).map fun(i,q)=>(i+1,q)
theorem zrt(k k':K)(t:T)(c:Nat):∀ps:zly K T,zl1 (zyf ps k t c) k'=if k'=k then some t else zl1 ps k'
 | []=>by
  simp only[zyf,zl1]
  by_cases h:k'=k
  ·rw[if_pos h.symm,if_pos h]
  ·rw[if_neg (Ne.symm h),if_neg h]
 | p::r=>by
  have ih:=zrt k k' t c r
  simp only[zyf]
  by_cases hp:p.1=k
  ·rw[if_pos hp]
   simp only[zl1]
   by_cases h:k'=k
   ·rw[if_pos h.symm,if_pos h]
   ·rw[if_neg (Ne.symm h),if_neg h,if_neg (by rw[hp];exact Ne.symm h)]
  ·rw[if_neg hp]
   simp only[zl1,ih]
   by_cases h:k'=k
   ·subst h;rw[if_neg hp,if_pos rfl,if_pos rfl]
   ·rw[if_neg h,if_neg h]
theorem zuh{k:K}:∀{ps:zly K T},zl1 ps k=none↔k∉zhe ps
 | []=>by simp[zl1,zhe]
 | p::r=>by
  have ih:=zuh (k:=k) (ps:=r)
  simp only[zl1,zhe,map_cons,mem_cons,not_or]at ih ⊢
  by_cases hp:p.1=k
  ·simp[hp]
  ·simp[hp,ih,Ne.symm hp]
theorem zrr(k:K):∀ps:zly K T,zl1 ps k=(zvi ps k).map (·.2.1)
 | []=>rfl
 | p::r=>by
  simp only[zl1,zvi]
  split
  ·rfl
  ·rw[zrr k r];cases zvi r k<;>rfl
theorem zws{k:K}{t:T}{c i:Nat}{q:T×Nat}:∀{ps:zly K T},zvi ps k=some (i,q)->zyf ps k t c=ps.set i (k,t,q.2) /\ i<ps.length
 | [],h=>by simp[zvi]at h
 | p::r,h=>by
  simp only[zvi]at h
  by_cases hp:p.1=k
  ·rw[if_pos hp]at h
   simp only[Option.some.injEq,Prod.mk.injEq]at h
   obtain⟨rfl,rfl⟩:=h
   simp[zyf,hp]
  ·rw[if_neg hp]at h
   cases hr:zvi r k with
   | none=>simp[hr]at h
   | some x=>
    obtain⟨j,q'⟩:=x
    simp[hr]at h
    obtain⟨rfl,rfl⟩:=h
    have:=zws (t:=t) (c:=c) hr
    simp[zyf,hp,this.1,this.2]
theorem zls{k:K}{t:T}{c:Nat}:∀{ps:zly K T},zvi ps k=none->zyf ps k t c=ps++[(k,t,c)]
 | [],_=>rfl
 | p::r,h=>by
  simp only[zvi]at h
  by_cases hp:p.1=k
  ·rw[if_pos hp]at h;cases h
  ·rw[if_neg hp]at h
   cases hr:zvi r k with
   | none=>simp[zyf,hp,zls hr]
   | some x=>simp[hr]at h
theorem keysP_put(k:K)(t:T)(c:Nat):∀ps:zly K T,zhe (zyf ps k t c)=if k∈zhe ps then zhe ps else zhe ps++[k]
 | []=>by simp[zyf,zhe]
 | p::r=>by
  have ih:=keysP_put k t c r
  by_cases hp:p.1=k
  ·rw[zyf,if_pos hp,zpj,zpj,if_pos (by simp[hp]),hp]
  ·rw[zyf,if_neg hp,zpj,ih,zpj]
   by_cases hm:k∈zhe r
   ·rw[if_pos hm,if_pos (by simp[hm])]
   ·rw[if_neg hm,if_neg (by simp[hm,Ne.symm hp])];rfl
theorem zxq{ps:zly K T}(h:(zhe ps).Nodup)(k:K)(t:T)(c:Nat):(zhe (zyf ps k t c)).Nodup:=by
 rw[keysP_put];split
 ·exact h
 ·rename_i hk
  rw[nodup_append];exact⟨h,pairwise_singleton _ _,λa ha b hb e=>hk (by rw[mem_singleton.1 hb]at e;rw[<-e];exact ha)⟩
theorem getP_mem{k:K}{t:T}:∀{ps:zly K T},zl1 ps k=some t->∃n,(k,t,n)∈ps
 | [],h=>by simp[zl1]at h
 | p::r,h=>by
  simp only[zl1]at h
  by_cases hp:p.1=k
  ·rw[if_pos hp]at h
   cases h
   exact⟨p.2.2,by rw[<-hp];simp⟩
  ·rw[if_neg hp]at h
   obtain⟨n,hn⟩:=getP_mem h
   exact⟨n,by simp[hn]⟩
theorem mem_getP{ps:zly K T}(hn:(zhe ps).Nodup){p:K×T×Nat}(hp:p∈ps):zl1 ps p.1=some p.2.1:=by
 induction ps with
 | nil=>cases hp
 | cons q r ih=>
  simp only[zhe,map_cons,nodup_cons]at hn;simp only[zl1];rcases mem_cons.1 hp with rfl|hp
  ·rw[if_pos rfl]
  ·rw[if_neg,ih hn.2 hp]
   intro e;exact hn.1 (by rw[e];exact mem_map_of_mem hp)
end
structure KeyE(kd:KD){K:Type}[DecidableEq K](κ:K->za):Prop where
 same:∀a b,V.sameK kd (κ a) (κ b)=some (decide (a=b))
theorem keyS:KeyE .s (λs:List UInt8=> .str s):=⟨λa b=>by
 simp only[V.sameK];congr 1;rw[Bool.eq_iff_iff,beq_iff_eq,decide_eq_true_eq]⟩
def zqh{K T:Type}(κ:K->za)(v:T->za)(ps:zly K T):List (za×za×Nat):=ps.map λp=>(κ p.1,v p.2.1,p.2.2)
section
variable{kd:KD}{K T:Type}[DecidableEq K]{κ:K->za}{v:T->za}
theorem zx4(hκ:KeyE kd κ)(k:K):∀(ps:zly K T)(i:Nat),V.findK kd (κ k) (zqh κ v ps) i=some ((zvi ps k).map fun(j,q)=>(i+j,v q.1,q.2))
 | [],i=>rfl
 | p::r,i=>by
  simp only[zqh,map_cons,V.findK,hκ.same,zvi]
  by_cases hp:k=p.1
  ·rw[if_pos hp.symm];simp[hp]
  ·rw[if_neg (Ne.symm hp)]
   have ih:=zx4 hκ k r (i+1)
   simp only[zqh]at ih
   simp only[hp,decide_false,ih]
   cases zvi r k with
   | none=>rfl
   | some x=>obtain⟨j,q⟩:=x;simp only[Option.map_some];congr 3;omega
theorem fset_enc(hκ:KeyE kd κ)(k:K)(t:T)(ps:zly K T)(c:Nat):A.fset (some kd) (κ k) (v t) (zqh κ v ps) c=some (zqh κ v (zyf ps k t c),clkP ps k c,.undef):=by
 simp only[A.fset,zx4 hκ,clkP,zrr];cases h:zvi ps k with
 | none=>simp[zls h,zqh]
 | some x=>
  obtain⟨j,q⟩:=x;have:=zws (t:=t) (c:=c) h;simp only[Option.map_some,Option.isSome_some,if_true,Nat.zero_add,this.1,zqh,map_set]
end
def zih(es:List (za×za×Nat))(c:Nat):Blk:=zke (.map es c)
theorem zcw.newBlk{h0 h:zb}{l:List Ob}(ho:zcw h0 h l){id:Nat}(hid:h id=none){b:Blk}(hb:b.own=true):zcw h0 (upd h id b) (l++[.blk id b]):=
 ho.join ⟨zl6 _ hid,λo hm=>by rw[mem_singleton.1 hm];exact zck ..,λo hm j hj=>by rw[mem_singleton.1 hm]at hj;cases hj;exact⟨hid,λb hb'=>by rw[zck]at hb';cases hb';exact hb⟩,pairwise_singleton _ _⟩
theorem zcw.zsw{h0 h:zb}{l:List Ob}{K T:Type}(ho:zcw h0 h l)(κ:K->za)(v:T->za){Q:zQ}(hq:∀id h',h id=none->zcw h0 h' (l++[.blk id (zih (zqh κ v []) 0)])->h.le h'->Q (.mp id) h'):B.zsw h Q:=λid hid=>hq id _ hid (ho.newBlk hid rfl) (zl6 _ hid)
section
variable{h0 h:zb}{l:List Ob}{kd:KD}{K T:Type}[DecidableEq K]{κ:K->za}{v:T->za}
theorem zcw.setBlk(ho:zcw h0 h l)(k:Nat){id:Nat}{b b':Blk}(hk:l[k]?=some (.blk id b))(hb:b'.own=true):zcw h0 (upd h id b') (l.set k (.blk id b')):=
 ho.zqk k hk (zck ..) (λj c hj hc=>by cases hj;rw[zck]at hc;cases hc;exact hb) (λj c e1 e2=>by rw[zbf];exact e1;intro e;subst e;exact e2 rfl) (.inl rfl)
theorem zt8{id:Nat}{es:List (za×za×Nat)}{c:Nat}(hb:h id=some (zih es c)):A.zsq h (.mp id)=some (es,c):=by simp[A.zsq,hb,zih,zke]
theorem objT_blk{id:Nat}{es es':List (za×za×Nat)}{c c':Nat}{u:za}{f:List (za×za×Nat)->Nat->Option (List (za×za×Nat)×Nat×za)}{Q:zQ}(hb:h id=some (zih es c))(hf:f es c=some (es',c',u))
  (hq:Q u (upd h id (zih es' c'))):A.zwb h (.mp id) f Q:=by
 unfold zih zke at *;simp only[A.zwb,hb,hf];exact hq
theorem lkp_blk{id:Nat}{c:Nat}{ps:zly K T}(hκ:KeyE kd κ)(hb:h id=some (zih (zqh κ v ps) c))(z:T)(k:K)(ok:Bool):
  A.lkp h (some kd) (some (v z)) ok (.mp id) (κ k)=some (bif ok then .tup [v ((zl1 ps k).getD z),.bool (zl1 ps k).isSome] else v ((zl1 ps k).getD z)):=by
 simp only[A.lkp,A.entries,zt8 hb,zx4 hκ,zrr];cases zvi ps k with
 | none=>rfl
 | some x=>rfl
theorem zcw.lkp(ho:zcw h0 h l)(i:Nat){id c:Nat}{ps:zly K T}(hi:l[i]?=some (.blk id (zih (zqh κ v ps) c)))(hκ:KeyE kd κ)(z:T)(k:K):A.lkp h (some kd) (some (v z)) false (.mp id) (κ k)=some (v ((zl1 ps k).getD z)):=lkp_blk hκ (ho.at i hi) z k false
theorem zcw.mset(ho:zcw h0 h l)(i:Nat){id c:Nat}{ps:zly K T}(hi:l[i]?=some (.blk id (zih (zqh κ v ps) c)))(hκ:KeyE kd κ)(k:K)(t:T){Q:zb->Prop}
  (hq:∀h',zcw h0 h' (l.set i (.blk id (zih (zqh κ v (zyf ps k t c)) (clkP ps k c))))->But (.mp id) h h'->(∀j,j≠id->h' j=h j)->Q h'):B.mset h kd (.mp id) (κ k) (v t) Q:=
 objT_blk (ho.at i hi) (fset_enc hκ k t ps c) (hq _ (ho.setBlk i hi rfl) (λj b e1 e2=>by rw[zbf];exact e1;intro e;subst e;exact e2 rfl) λj hj=>zbf _ _ hj)
end
def zni{K T:Type}(ps:zly K T)(c:Nat):Prop:=(∀p∈ps,p.2.2<c) /\ (ps.map (·.2.2)).Nodup
section
variable{K T:Type}{ps D:zly K T}{c:Nat}
theorem zni.nil(c:Nat):zni ([]:zly K T) c:=⟨λ_ h=>(by cases h),List.Pairwise.nil⟩
theorem zni.put[DecidableEq K](hb:zni ps c)(k:K)(t:T):zni (zyf ps k t c) (clkP ps k c):=by
 unfold clkP;rw[zrr];cases h:zvi ps k with
 | none=>
  rw[zls h];simp only[Option.map_none,Option.isSome_none,Bool.false_eq_true,if_false];refine⟨λp hp=>?_,?_⟩
  ·rcases mem_append.1 hp with hp|hp
   ·have:=hb.1 p hp;omega
   ·rw[mem_singleton.1 hp];exact Nat.lt_succ_self _
  ·rw[map_append,nodup_append]
   refine⟨hb.2,pairwise_singleton _ _,λa ha b hb2=>?_⟩;obtain⟨p,hp,rfl⟩:=mem_map.1 ha;rw[map_singleton,mem_singleton]at hb2;have:=hb.1 p hp;subst hb2;exact Nat.ne_of_lt this
 | some x=>
  obtain⟨j,q⟩:=x;have he:=zws (t:=t) (c:=c) h;simp only[Option.map_some,Option.isSome_some,if_true,he.1];have hq:(ps.map (·.2.2))[j]?=some q.2:=by
   have:∀(ps:zly K T)(j:Nat)(q:T×Nat),zvi ps k=some (j,q)->(ps.map (·.2.2))[j]?=some q.2:=by
    intro ps
    induction ps with
    | nil=>intro j q h;cases h
    | cons p r ih=>
     intro j q h;simp only[zvi]at h;split at h
     ·cases h;rfl
     ·cases e:zvi r k with
      | none=>rw[e]at h;cases h
      | some y=>
       obtain⟨j',q'⟩:=y;rw[e]at h;simp only[Option.map_some,Option.some.injEq,Prod.mk.injEq]at h;obtain⟨rfl,rfl⟩:=h;simpa using ih _ _ e
   exact this _ _ _ h
  have hm:(ps.set j (k,t,q.2)).map (·.2.2)=ps.map (·.2.2):=by
   rw[map_set];apply ext_getElem?;intro i;rw[getElem?_set];split
   ·rename_i e;subst e
    split
    ·exact hq.symm
    ·rename_i e2;simp at e2;omega
   ·rfl
  refine⟨λp hp=>?_,by rw[hm];exact hb.2⟩;have:p.2.2∈(ps.set j (k,t,q.2)).map (·.2.2):=mem_map.2 ⟨p,hp,rfl⟩;rw[hm]at this;obtain⟨p',hp',e⟩:=mem_map.1 this;rw[<-e];exact hb.1 p' hp'
theorem zni.inj(hb:zni ps c){p q:K×T×Nat}(hp:p∈ps)(hq:q∈ps)(e:p.2.2=q.2.2):p=q:=by
 obtain⟨i,hi,rfl⟩:=mem_iff_getElem.1 hp;obtain⟨j,hj,rfl⟩:=mem_iff_getElem.1 hq;have:i=j:=by
  refine(getElem_inj (h₀:=by simpa using hi) (h₁:=by simpa using hj) hb.2).1 ?_;simpa using e
 subst this;rfl
theorem zni.all(hb:zni ps c)(h1:∀p∈D,p∈ps)(h2:(D.map (·.2.2)).Nodup)(h3:∀p∈ps,p.2.2∈D.map (·.2.2)):D.Perm ps:=by
 have nd:∀{l:zly K T},(l.map (·.2.2)).Nodup->l.Nodup:=λh=>List.Pairwise.of_map (S:=(· ≠ ·)) (λp:K×T×Nat=>p.2.2) (λa b h e=>h (by rw[e])) h;refine(perm_ext_iff_of_nodup (nd h2) (nd hb.2)).2 λp=>⟨h1 p,λhp=>?_⟩;obtain⟨q,hq,e⟩:=mem_map.1 (h3 p hp)
 rwa [hb.inj (h1 q hq) hp e]at hq
end
def zjk(m since:Nat)(seen:List Nat)(last:Nat):Blk:=zke (.mapIter (some m) since seen last)
section
variable{h0 h:zb}{l:List Ob}{K T:Type}{κ:K->za}{v:T->za}{ps:zly K T}{m c:Nat}{Q:zQ}
theorem zcw.nextMapB(ho:zcw h0 h l)(j:Nat){it since last:Nat}{seen:List Nat}(hbm:h m=some (zih (zqh κ v ps) c))(hj:l[j]?=some (.blk it (zjk m since seen last)))(hb:zni ps c)(hs:c <= since)(hsl:since <= last)
  (hdone:(∀p∈ps,p.2.2∈seen)->Q (.tup [.bool false]) h)
  (hstep:∀p∈ps,p.2.2∉seen->∀h',zcw h0 h' (l.set j (.blk it (zjk m since (seen++[p.2.2]) c)))->(∀k,k≠it->h' k=h k)->A.zkf h' (.ptr it 0 0)=some (.tup [κ p.1,v p.2.1])->Q (.tup [.bool true,κ p.1,v p.2.1]) h'):
  B.zh3 h (.ptr it 0 0) Q:=by
 have hbi:h it=some (zjk m since seen last):=ho.at j hj;have hne:m≠it:=λe=>by
  subst e;rw[hbm]at hbi;have:=Option.some.inj hbi;unfold zih zjk zke at this;cases this
 show A.zh3 h (.ptr it 0 0) Q;have hall:((zqh κ v ps).all λe=>Nat.blt e.2.2 since)=true:=by
  rw[all_eq_true];intro e he;obtain⟨p,hp,rfl⟩:=mem_map.1 he;have:=hb.1 p hp;rw[Nat.blt_eq];show p.2.2<since;omega
 have hle:Nat.ble since last=true:=by rw[Nat.ble_eq];exact hsl
 have hst:A.steps h (.ptr it 0 0)=some (it,match (zqh κ v ps).filter (λe=> !seen.contains e.2.2) with
   | []=>[(zjk m since seen last,.tup [.bool false])]
   | l=>l.map λe=>({ zjk m since seen last with obj:=some (.mapIter (some m) since (seen++[e.2.2]) c) },.tup [.bool true,e.1,e.2.1])):=by
  simp only[A.steps,hbi];unfold zjk zke;simp only[zt8 hbm,hall,hle,Bool.and_self,cond_true];rfl
 simp only[A.zh3,hst];intro p hp
 have hf:∀e,e∈(zqh κ v ps).filter (λe=> !seen.contains e.2.2)↔∃q∈ps,q.2.2∉seen /\ e=(κ q.1,v q.2.1,q.2.2):=λe=>by
  rw[mem_filter];constructor
  ·rintro⟨he,hc⟩
   obtain⟨q,hq,rfl⟩:=mem_map.1 he;refine⟨q,hq,?_,rfl⟩;simpa using hc
  ·rintro⟨q,hq,hn,rfl⟩
   exact⟨mem_map.2 ⟨q,hq,rfl⟩,by simpa using hn⟩
 cases hfl:(zqh κ v ps).filter (λe=> !seen.contains e.2.2) with
 | nil=>
  rw[hfl]at hp;rw[mem_singleton.1 hp];have:upd h it (zjk m since seen last)=h:=upd_self hbi;rw[this];refine hdone λq hq=>?_;by_cases hn:q.2.2∈seen
  ·exact hn
  ·have:=(hf _).2 ⟨q,hq,hn,rfl⟩
   rw[hfl]at this;cases this
 | cons e0 es0=>
  rw[hfl]at hp;obtain⟨e,he,rfl⟩:=mem_map.1 hp;rw[<-hfl]at he;obtain⟨q,hq,hn,rfl⟩:=(hf _).1 he;have hblk:({ zjk m since seen last with obj:=some (.mapIter (some m) since (seen++[q.2.2]) c) }:Blk)=zjk m since (seen++[q.2.2]) c:=rfl;show Q _ (upd h it { zjk m since seen last with obj:=some (.mapIter (some m) since (seen++[q.2.2]) c) });rw[hblk];refine hstep q hq hn _ (ho.setBlk j hj rfl) (λk hk=>zbf _ _ hk) ?_;have hbm':upd h it (zjk m since (seen++[q.2.2]) c) m=some (zih (zqh κ v ps) c):=by rw[zbf _ _ hne];exact hbm
  have hfind:(zqh κ v ps).find? (λe=>Nat.beq e.2.2 q.2.2)=some (κ q.1,v q.2.1,q.2.2):=by
   have key:∀(ps:zly K T),(ps.map (·.2.2)).Nodup->q∈ps->(zqh κ v ps).find? (λe=>Nat.beq e.2.2 q.2.2)=some (κ q.1,v q.2.1,q.2.2):=by
    intro ps
    induction ps with
    | nil=>intro _ h;cases h
    | cons a r ih=>
     intro hnd hm;simp only[map_cons,nodup_cons]at hnd;simp only[zqh,map_cons,find?_cons];rcases mem_cons.1 hm with rfl|hm
     ·simp[Nat.beq_refl]
     ·have hne:a.2.2≠q.2.2:=λe=>hnd.1 (by rw[e];exact mem_map.2 ⟨q,hm,rfl⟩)
      have:Nat.beq a.2.2 q.2.2=false:=by
       cases e:Nat.beq a.2.2 q.2.2 with
       | false=>rfl
       | true=>exact absurd (Nat.eq_of_beq_eq_true e) hne
      rw[this];exact ih hnd.2 hm
   exact key ps hb.2 hq
  simp only[A.zkf,upd_get];unfold zjk zke;have hbm'':=hbm';unfold zjk zke at hbm'';simp only[zt8 hbm'',getLast?_append,getLast?_singleton,Option.some_or,Nat.beq_refl,cond_true,hfind]
end
structure zo6{T:Type}(less:T->T->Bool):Prop where
 asym:∀{a b},less a b=true->less b a=false
 zsv:∀{a b c},less a b=false->less b c=false->less a c=false
section
variable{T:Type}{less:T->T->Bool}
theorem zo6.irr(W:zo6 less)(a:T):less a a=false:=by
 cases h:less a a with
 | false=>rfl
 | true=>have:=W.asym h;rw[h]at this;cases this
theorem zo6.trans(W:zo6 less){a b c:T}(h1:less a b=true)(h2:less b c=true):less a c=true:=by
 cases h:less a c with
 | true=>rfl
 | false=>have:=W.zsv h (W.asym h2);rw[h1]at this;cases this
def lt'(less:T->T->Bool)(x y:T×Nat):Prop:=less x.1 y.1=true \/ (less y.1 x.1=false /\ x.2<y.2)
theorem lt'_trans(W:zo6 less){x y z:T×Nat}(h1:lt' less x y)(h2:lt' less y z):lt' less x z:=by
 unfold lt' at *;rcases h1 with h1|⟨h1,n1⟩<;>rcases h2 with h2|⟨h2,n2⟩
 ·exact .inl (W.trans h1 h2)
 ·left
  cases h:less x.1 z.1 with
  | true=>rfl
  | false=>have:=W.zsv h h2;rw[h1]at this;cases this
 ·left
  cases h:less x.1 z.1 with
  | true=>rfl
  | false=>have:=W.zsv h1 h;rw[h2]at this;cases this
 ·exact .inr ⟨W.zsv h2 h1,by omega⟩
theorem lt'_gt{x y:T×Nat}(hn:y.2<x.2):lt' less x y↔less x.1 y.1=true:=⟨λh=>h.elim id λ⟨_,h⟩=>by omega,.inl⟩
theorem lt'_le(W:zo6 less){x y:T×Nat}(hn:x.2<y.2):lt' less x y↔less y.1 x.1=false:=⟨λh=>h.elim (λh=>W.asym h) λ⟨h,_⟩=>h,λh=> .inr ⟨h,hn⟩⟩
end
variable{C:zh}{N:zN}
theorem add64{a b:Nat}(h:a+b<4611686018427387904):V.bin .add (.int .i64 (a:Int)) (.int .i64 (b:Int))=some (.int .i64 ((a+b:Nat):Int)):=by
 rw[V.zex,wrap_i64 (by omega) (by omega)];simp
theorem zg8{a:Nat}(h:a<4611686018427387904):V.bin .add (.int .i64 (a:Int)) (.int .i64 1)=some (.int .i64 ((a+1:Nat):Int)):=by
 rw[V.zex,wrap_i64 (by omega) (by omega)];simp
theorem zwz{a:Nat}(h:1 <= a)(ha:a<4611686018427387904):V.bin .sub (.int .i64 (a:Int)) (.int .i64 1)=some (.int .i64 ((a-1:Nat):Int)):=by
 rw[V.zi9,wrap_i64 (by omega) (by omega)];congr 2;omega
theorem zqg{a b:Nat}:V.bin .lss (.int .i64 (a:Int)) (.int .i64 (b:Int))=some (.bool (decide (a<b))):=by rw[V.zeh];congr 3;exact propext (by omega)
theorem leqN{a b:Nat}:V.bin .leq (.int .i64 (a:Int)) (.int .i64 (b:Int))=some (.bool (decide (a <= b))):=by rw[V.bin_leq];congr 3;exact propext (by omega)
theorem gtrN{a b:Nat}:V.bin .gtr (.int .i64 (a:Int)) (.int .i64 (b:Int))=some (.bool (decide (b<a))):=by rw[V.bin_gtr];congr 3;exact propext (by omega)
structure zds(E:z8){X:Type}(cs:X->List za)(v:X->za):Prop where
 pos:0<E.es
 small:E.bytes <= 1000
 zlen:E.z.length=E.es
 len:∀t,(cs t).length=E.es
 new:∀t,zed [(0,E.kp,v t)] (zfs 1 E.z)=some (cs t)
 ld:∀{h:zb}{x:za}{L R:List (List za)}{i:Nat}{t:X}{K:za->Prop},SlX h E.es x L R->L[i]?=some (cs t)->K (v t)->E.ld h (elp E.es x i 0) K
 kpt:∀{h:zb}{x:za}{L R:List (List za)}{i:Nat}{t:X},SlX h E.es x L R->L[i]?=some (cs t)->Kp h (elp E.es x i 0) E.kp
 st:∀{h0 h:zb}{x:za}{L R:List (List za)}{i:Nat}{c:List za}{t:X}{K:zb->Prop},zcw h0 h [.sl E.es x L R]->L[i]?=some c ->
  (∀h',zcw h0 h' [.sl E.es x (L.set i (cs t)) R]->K h')->E.st h (elp E.es x i 0) (v t) K
theorem zds.comp{E:z8}{X Y:Type}{cs:X->List za}{v:X->za}(S:zds E cs v)(f:Y->X):zds E (λy=>cs (f y)) (λy=>v (f y)):=⟨S.pos,S.small,S.zlen,λt=>S.len _,λt=>S.new _,λh1 h2 h3=>S.ld h1 h2 h3,λh1 h2=>S.kpt h1 h2,λh1 h2 h3=>S.st h1 h2 h3⟩
theorem seqF{X:Type}{es bytes f:Nat}{z:List za}{sh:List Ck}{cs:X->List za}(hp:0<es)(hb:bytes <= 1000)(hz:z.length=es)(hl:∀t,(cs t).length=es):zds (ztv es bytes z f sh) cs (λt=> .agg (cs t)) where
 pos:=hp
 small:=hb
 zlen:=hz
 len:=hl
 new t:=by
  have hrep:zfs 1 z=z:=by unfold zfs;split<;>simp
  have h1:=hl t;show zed [(0,some es,za.agg (cs t))] (zfs 1 z)=_;rw[hrep];simp[h1,hz]
 ld hs hc hk:=by
  simp only[ztv,B.zn5]at hs ⊢;rw[hs.elem hc];exact hk
 kpt hs hc:=⟨_,hs.elem hc⟩
 st ho hc hk:=ho.stElem 0 rfl hc (hl _) λh' h1 _=>hk h' h1
theorem seqS{X:Type}{bytes f:Nat}{z:za}{v:X->za}(hb:bytes <= 1000)(hc:∀t,(v t).zbm=true):zds (zc7 bytes z f) (λt=>[v t]) v where
 pos:=Nat.one_pos
 small:=hb
 zlen:=rfl
 len _:=rfl
 new t:=by simp[zc7,hc,zfs]
 ld hs hcc hk:=by
  simp only[zc7,B.zha]at hs ⊢;rw[hs.cell hcc];exact hk
 kpt hs hcc:=⟨_,hs.cell hcc⟩
 st {h0 h x L R i c t K} ho hcc hk:=by
  have hs:SlX h 1 x L R:=ho.zgz 0 rfl;have hcl:c.length=1:=hs.len c (mem_append_left _ (mem_of_getElem? hcc));obtain⟨u,rfl⟩:=length_eq_one_iff.1 hcl;exact ho.st 0 rfl hcc (by show 0<1;omega) (hc _) λh' h1 _=>hk h' h1
def Rw(E:z8){X:Type}(cs:X->List za)(h0 h:zb)(x:za)(G:List X)(R:List (List za)):Prop:=zcw h0 h [.sl E.es x (G.map cs) R]
section
variable{E:z8}{X:Type}{cs:X->List za}{v:X->za}{h0 h:zb}{x:za}{G:List X}{R:List (List za)}
theorem Rw.idx(ho:Rw E cs h0 h x G R){i:Nat}(hi:i<G.length):V.zb3 E.es x (.int .i64 (i:Int))=some (elp E.es x i 0):=(zcw.zgz ho 0 rfl).zjp (by simpa using hi)
theorem Rw.lenE(ho:Rw E cs h0 h x G R):V.zbi x=some (.int .i64 G.length):=by have:=(zcw.zgz ho 0 rfl).zbi;simpa using this
theorem Rw.le(ho:Rw E cs h0 h x G R):h0.le h:=zcw.le ho
theorem Rw.ld(ho:Rw E cs h0 h x G R)(S:zds E cs v){i:Nat}{t:X}(hg:G[i]?=some t){K:za->Prop}(hk:K (v t)):E.ld h (elp E.es x i 0) K:=
 S.ld (zcw.zgz ho 0 rfl) (by rw[getElem?_map,hg];rfl) hk
theorem Rw.st(ho:Rw E cs h0 h x G R)(S:zds E cs v){i:Nat}{t:X}(hi:i<G.length){K:zb->Prop}(hk:∀h',Rw E cs h0 h' x (G.set i t) R->K h'):E.st h (elp E.es x i 0) (v t) K:=
 S.st ho (c:=cs G[i]) (by rw[getElem?_map,getElem?_eq_getElem hi];rfl) λh' h1=>hk h' (by unfold Rw;rwa [map_set])
theorem set_mid{P Q:List X}{a b:X}{i:Nat}(hi:i=P.length):(P++a::Q).set i b=P++b::Q:=by subst hi;simp
theorem get_mid{P Q:List X}{a:X}{i:Nat}(hi:i=P.length):(P++a::Q)[i]?=some a:=by subst hi;simp
theorem set_mid2{P Q T:List X}{a b c:X}{j:Nat}(hj:j=P.length+1+Q.length):(P++a::(Q++b::T)).set j c=P++a::(Q++c::T):=by
 have:=set_mid (P:=P++a::Q) (Q:=T) (a:=b) (b:=c) (i:=j) (by simp;omega);simpa using this
theorem get_mid2{P Q T:List X}{a b:X}{j:Nat}(hj:j=P.length+1+Q.length):(P++a::(Q++b::T))[j]?=some b:=by
 have:=get_mid (P:=P++a::Q) (Q:=T) (a:=b) (i:=j) (by simp;omega);simpa using this
theorem Rw.swapDn{P Q T:List X}{a b:X}{i j:Nat}(ho:Rw E cs h0 h x (P++a::(Q++b::T)) R)(S:zds E cs v)(hi:i=P.length)(hj:j=P.length+1+Q.length){K:zb->Prop}
  (hk:∀h',Rw E cs h0 h' x (P++b::(Q++a::T)) R->K h'):E.st h (elp E.es x j 0) (v a) λh=>E.st h (elp E.es x i 0) (v b) K:=by
 refine ho.st S (by simp;omega) λh1 o1=>?_;rw[set_mid2 hj]at o1;refine o1.st S (by simp;omega) λh2 o2=>hk h2 ?_
 rwa [set_mid hi]at o2
end
structure zeo(C:zh){X:Type}(v:X->za)(c:X->X->Int)(f:za)(h0:zb):Prop where
 call:∀(h:zb)(a b:X)(K:zQ),h0.le h->K (.int .i64 (c a b)) h->B.zi0 h C f [v a,v b] K
section
variable{E:z8}{T:Type}{cs:T->List za}{v:T->za}{c:T->T->Int}{h0 h:zb}{x f:za}{R:List (List za)}{Q:zQ}
def zgi(c:T->T->Int)(a b:T):Bool:=decide (c a b<0)
theorem zxr{X:Type}(L:List X):L=[] \/ ∃L0 y,L=L0++[y]:=by
 rcases eq_nil_or_concat L with h|⟨A,b,h⟩
 ·exact .inl h
 ·exact .inr ⟨A,b,by rw[h,concat_eq_append]⟩
theorem zlq(S:zds E cs v)(W:zo6 (zgi c)){P M U:List (T×Nat)}(hlen:(P++(M++U)).length <= 100000000)(ht:M.Pairwise λa b=>a.2<b.2)
  (hc:zeo C v c f h0) {a b:Nat} (ha:a=P.length) (hb:b=P.length+M.length) (ho:Rw E (λp:T×Nat=>cs p.1) h0 h x (P++(M++U)) R)
  (hq:∀h' M',M'.Perm M->M'.Pairwise (lt' (zgi c))->Rw E (λp:T×Nat=>cs p.1) h0 h' x (P++(M'++U)) R->Q (.tup []) h'):
  zbr.cps C E x (.int .i64 (a:Int)) (.int .i64 (b:Int)) f h Q:=by
 have S':=S.comp (λp:T×Nat=>p.1);subst ha;have hlen':P.length+M.length+U.length <= 100000000:=by simpa[Nat.add_assoc]using hlen
 simp -dsimp only[zbr.cps,zg8 (show P.length<4611686018427387904 by omega),B.ze];cases M with
 | nil=>
  intro Y hY;refine hY _ _ ?_;simp -dsimp only[zbr.l3,zqg,B.ze];rw[show decide (P.length+1<b)=false by simp at hb ⊢;omega,B.cond_false];exact hq h [] (List.Perm.refl _) .nil ho
 | cons m M1=>
 simp only[length_cons]at hlen' hb;rw[pairwise_cons]at ht;refine zd.intro (λt vs hh=>∃(i:Nat)(L M2:List (T×Nat)),t=M2.length /\ vs=[.int .i64 i] /\ i=P.length+L.length /\ i+M2.length=b /\ Rw E (λp:T×Nat=>cs p.1) h0 hh x (P++(L++(M2++U))) R /\
  (L++M2).Perm (m::M1) /\ L.Pairwise (lt' (zgi c)) /\ M2.Pairwise (λa b=>a.2<b.2) /\ ∀p∈L,∀q∈M2,p.2<q.2) M1.length ?_
  ⟨P.length+1,[m],M1,rfl,rfl,by simp,by omega,by simpa using ho,List.Perm.refl _,pairwise_singleton ..,ht.2,by simpa using ht.1⟩
 rintro Y t vs hh ⟨i,L,M2,rfl,rfl,hi,hib,o,hp,hs,ht2,htt⟩ hY;simp -dsimp only[zbr.l3,zqg,B.ze];cases M2 with
 | nil=>
  rw[show decide (i<b)=false by simp at hib ⊢;omega,B.cond_false];rw[append_nil]at hp;exact hq hh L hp hs o
 | cons x0 M2=>
  simp only[length_cons]at hib;rw[show decide (i<b)=true by simp;omega,B.cond_true];rw[pairwise_cons]at ht2;have hll:P.length+(L.length+(M2.length+1))=b:=by omega
  refine zd.intro (λt vs h2=>∃(L1 L2:List (T×Nat)),t=L1.length /\ vs=[.int .i64 ((P.length+L1.length:Nat):Int)] /\ L=L1++L2 /\ Rw E (λp:T×Nat=>cs p.1) h0 h2 x (P++(L1++x0::(L2++(M2++U)))) R /\
   ∀q∈L2,lt' (zgi c) x0 q) L.length ?_ ⟨L,[],rfl,by rw[hi],by simp,by simpa using o,by simp⟩
  rintro Z t vs h2 ⟨L1,L2,rfl,rfl,rfl,o2,hx⟩ hZ;rw[pairwise_append]at hs;have fin:(L1=[] \/ ∃L0 y,L1=L0++[y] /\ lt' (zgi c) y x0)->Y [.int .i64 ((i+1:Nat):Int)] h2:=λhz=>by
   have hlow:∀p∈L1,lt' (zgi c) p x0:=by
    rcases hz with rfl|⟨L0,y,rfl,hy⟩
    ·simp
    ·intro p hpm
     rcases mem_append.1 hpm with h1|h1
     ·exact lt'_trans W ((pairwise_append.1 hs.1).2.2 p h1 y (by simp)) hy
     ·rw[mem_singleton.1 h1];exact hy
   refine hY M2.length _ _ (by simp) ⟨i+1,L1++x0::L2,M2,rfl,rfl,by simp at hi ⊢;omega,by omega,by simpa using o2,?_,?_,ht2.2,?_⟩
   ·refine List.Perm.trans ?_ hp
    simp only[append_assoc,cons_append];refine List.Perm.append_left _ ?_;exact(perm_middle (l₁:=L2) (l₂:=M2) (a:=x0)).symm
   ·rw[pairwise_append,pairwise_cons]
    refine⟨hs.1,⟨hx,hs.2.1⟩,λp h1 q h2=>?_⟩;rcases mem_cons.1 h2 with rfl|h2
    ·exact hlow p h1
    ·exact hs.2.2 p h1 q h2
   ·intro p h1 q h2
    rcases mem_append.1 h1 with h1|h1
    ·exact htt p (mem_append_left _ h1) q (mem_cons_of_mem _ h2)
    ·rcases mem_cons.1 h1 with rfl|h1
     ·exact ht2.1 q h2
     ·exact htt p (mem_append_right _ h1) q (mem_cons_of_mem _ h2)
  have hll2:i=P.length+(L1.length+L2.length):=by simpa using hi
  simp -dsimp only[zbr.l2,zbr.k1,gtrN,B.ze];obtain rfl|⟨L0,y,rfl⟩:=zxr L1
  ·simp -dsimp[zg8 (show i<4611686018427387904 by omega)]
   exact fin (.inl rfl)
  ·have hyx:y.2<x0.2:=htt y (by simp) x0 (by simp)
   have o2':=o2;simp only[append_assoc,cons_append,nil_append]at o2';simp only[length_append,length_singleton]at hll2 hlen' hll;have hj:P.length+(L0++[y]).length=P.length+L0.length+1:=by simp[Nat.add_assoc]
   rw[show decide (P.length<P.length+(L0++[y]).length)=true by simp];rw[hj];simp -dsimp only[B.zi1,B.zru,B.zdr,zk3,zwz (show 1 <= P.length+L0.length+1 by omega) (by omega),Nat.add_sub_cancel,o2.idx (i:=P.length+L0.length+1) (by simp;omega),o2.idx (i:=P.length+L0.length) (by simp),B.ze];have o3:Rw E (λp:T×Nat=>cs p.1) h0 h2 x ((P++L0)++y::([]++x0::(L2++(M2++U)))) R:=by simpa using o2
   have gy:((P++L0)++y::([]++x0::(L2++(M2++U))))[P.length+L0.length]?=some y:=get_mid (by simp);have gx:((P++L0)++y::([]++x0::(L2++(M2++U))))[P.length+L0.length+1]?=some x0:=get_mid2 (by simp);refine o3.ld S' gx ?_;refine o3.ld S' gy ?_;refine hc.call _ _ _ _ o2.le ?_;simp -dsimp only[B.zi1,B.zru,B.zdr,zk3,V.zeh,B.ze,B.zhx];refine B.zm (λhb2=>?_) (λhb2=>?_)
   ·simp -dsimp only[zwz (show 1 <= P.length+L0.length+1 by omega) (by omega),Nat.add_sub_cancel,o2.idx (i:=P.length+L0.length+1) (by simp;omega),o2.idx (i:=P.length+L0.length) (by simp),B.ze]
    refine o3.ld S' gy ?_;refine o3.ld S' gx ?_;refine o3.swapDn S' (by simp) (by simp) λh4 o4=>?_;refine hZ L0.length _ _ (by simp) ⟨L0,y::L2,rfl,rfl,by simp,by simpa using o4,?_⟩;intro q hq2;rcases mem_cons.1 hq2 with rfl|hq2
    ·exact(lt'_gt hyx).2 hb2
    ·exact hx q hq2
   ·simp -dsimp only[zg8 (show i<4611686018427387904 by omega),B.ze]
    exact fin (.inr ⟨L0,y,rfl,(lt'_le W hyx).2 hb2⟩)
end
variable{C:zh}{N:zN}
section
variable{E:z8}{X:Type}{cs:X->List za}{v:X->za}{h0 h:zb}{x f:za}{R:List (List za)}{Q:zQ}
end
variable{C:zh}{N:zN}
section
variable{E:z8}{T:Type}{cs:T->List za}{v:T->za}{c:T->T->Int}{h0 h:zb}{x f:za}{R:List (List za)}{Q:zQ}
end
variable{C:zh}{N:zN}
section
variable{E:z8}{T:Type}{cs:T->List za}{v:T->za}{c:T->T->Int}{h0 h:zb}{x f:za}{R:List (List za)}{Q:zQ}
end
variable{C:zh}{N:zN}
section
variable{E:z8}{T:Type}{cs:T->List za}{v:T->za}{c:T->T->Int}{h0 h:zb}{x f:za}{R:List (List za)}{Q:zQ}
end
variable{C:zh}{N:zN}
section
variable{E:z8}{T:Type}{cs:T->List za}{v:T->za}{c:T->T->Int}{h0 h:zb}{x f:za}{R:List (List za)}{Q:zQ}
end
variable{C:zh}{N:zN}
section
variable{E:z8}{T:Type}{cs:T->List za}{v:T->za}{c:T->T->Int}{h0 h:zb}{x f:za}{R:List (List za)}{Q:zQ}
end
variable{C:zh}{N:zN}
section
variable{E:z8}{T:Type}{cs:T->List za}{v:T->za}{c:T->T->Int}{h0 h:zb}{x f:za}{R:List (List za)}{Q:zQ}
end
section
variable{T:Type}{c:T->T->Int}
end
variable{C:zh}{N:zN}
section
variable{E:z8}{T:Type}{cs:T->List za}{v:T->za}
def AskSpec(C:zh)(v:T->za)(f:za)(p:T->Bool)(h:zb):Prop:=∀(t:T)(h':zb)(K:zQ),h.le h'->K (.bool (p t)) h'->B.zi0 h' C f [v t] K
def idxI(p:T->Bool)(L:List T):Int:=match L.findIdx? p with|some i=>(i:Int)|none=> -1
theorem findIdx_first{α:Type}{p:α->Bool}{L:List α}{k:Nat}(hk:k<L.length)(h:∀i,i<k->∀a,L[i]?=some a->p a=false)(hp:p L[k]=true):L.findIdx? p=some k:=by
 rw[findIdx?_eq_some_iff_getElem];exact⟨hk,hp,λj hj=>by simp[h j hj _ (getElem?_eq_getElem (by omega))]⟩
theorem zym(S:zds E cs v){x f:za}{p:T->Bool}{L:List T}{R:List (List za)}{h:zb}{Q:zQ}(hx:SlX h E.es x (L.map cs) R)(hlen:L.length<4611686018427387904)(hf:AskSpec C v f p h)
  (hq:Q (.int .i64 (idxI p L)) h):zcq.cps C E x f h Q:=by
 have e1:=hx.zbi;rw[length_map]at e1;simp -dsimp only[zcq.cps,e1,B.ze];refine zd.intro (λt vs hh=>hh=h /\ ∃k:Nat,k+t=L.length /\ vs=[.int .i64 (k:Int)] /\ ∀i,i<k->∀a,L[i]?=some a->p a=false) L.length ?_ ⟨rfl,0,by omega,rfl,λi hi=>by omega⟩;rintro Y t vs h ⟨rfl,k,ht,rfl,hno⟩ hY;simp -dsimp only[zcq.l2,zcq.k1,zqg,B.ze];refine B.zm (λhb=>?_) (λhb=>?_)<;>simp only[decide_eq_true_eq,decide_eq_false_iff_not]at hb
 ·have hg:(L.map cs)[k]?=some (cs L[k]):=by rw[getElem?_map,getElem?_eq_getElem hb];rfl
  have hidx:V.zb3 E.es x (.int .i64 (k:Int))=some (elp E.es x k 0):=hx.zjp (by simpa using hb);simp -dsimp only[hidx,B.ze];refine S.ld hx hg ?_;refine hf _ _ _ (zb.le_refl _) ?_;refine B.zm (λhc=>?_) (λhc=>?_)
  ·have:idxI p L=(k:Int):=by rw[idxI,findIdx_first hb hno hc]
   rw[this]at hq;exact hq
  ·simp -dsimp only[zg8 (show k<4611686018427387904 by omega),B.ze]
   refine hY (L.length-(k+1)) _ _ (by omega) ⟨rfl,k+1,by omega,rfl,λi hi a ha=>?_⟩;by_cases e:i=k
   ·subst e;rw[getElem?_eq_getElem hb]at ha;cases ha;exact hc
   ·exact hno i (by omega) a ha
 ·have:idxI p L= -1:=by
   have:L.findIdx? p=none:=by
    rw[findIdx?_eq_none_iff];intro a ha;obtain⟨j,hj,rfl⟩:=getElem_of_mem ha;exact hno j (by omega) _ (getElem?_eq_getElem hj)
   rw[idxI,this]
  rw[this]at hq;exact hq
end
variable{C:zh}
structure zc1{X:Type}(a b:Nat)(G G':List X):Prop where
 perm:G'.Perm G
 out:∀i,i<a \/ b <= i->G'[i]?=G[i]?
theorem zc1.refl{X:Type}(a b:Nat)(G:List X):zc1 a b G G:=⟨.refl _,λ_ _=>rfl⟩
theorem zc1.trans{X:Type}{a b:Nat}{G G' G'':List X}(x:zc1 a b G G')(y:zc1 a b G' G''):zc1 a b G G'':=⟨y.perm.trans x.perm,λi hi=>(y.out i hi).trans (x.out i hi)⟩
theorem zc1.mono{X:Type}{a b a' b':Nat}{G G':List X}(x:zc1 a b G G')(ha:a' <= a)(hb:b <= b'):zc1 a' b' G G':=⟨x.perm,λi hi=>x.out i (by omega)⟩
theorem zc1.len{X:Type}{a b:Nat}{G G':List X}(x:zc1 a b G G'):G'.length=G.length:=x.perm.length_eq
theorem zc1.same{X:Type}{a b:Nat}{G G':List X}(w:zc1 a b G G'){k:Nat}(hk:k<a \/ b <= k)(h1:k<G'.length)(h2:k<G.length):G'[k]=G[k]:=by
 have:=w.out k hk;rw[getElem?_eq_getElem h1,getElem?_eq_getElem h2]at this;exact Option.some.inj this
def swp{X:Type}(G:List X)(i j:Nat)(hi:i<G.length)(hj:j<G.length):List X:=(G.set i G[j]).set j G[i]
theorem swp_perm{X:Type}{G:List X}{i j:Nat}(hi:i<G.length)(hj:j<G.length):(swp G i j hi hj).Perm G:=by
 unfold swp;exact set_set_perm hi hj
theorem swp_get{X:Type}{G:List X}{i j:Nat}(hi:i<G.length)(hj:j<G.length)(k:Nat):(swp G i j hi hj)[k]?=if k=j then some G[i] else if k=i then some G[j] else G[k]? :=by
 unfold swp;rw[getElem?_set];by_cases e:j=k
 ·subst e;simp[hj]
 ·rw[if_neg e,if_neg (Ne.symm e),getElem?_set]
  by_cases e2:i=k
  ·subst e2;simp[hi]
  ·rw[if_neg e2,if_neg (Ne.symm e2)]
theorem zfi{X:Type}{G:List X}{i j a b:Nat}(hi:i<G.length)(hj:j<G.length)(h1:a <= i)(h2:i<b)(h3:a <= j)(h4:j<b):zc1 a b G (swp G i j hi hj):=⟨swp_perm hi hj,λk hk=>by
 rw[swp_get,if_neg (by omega),if_neg (by omega)]⟩
section
variable{E:z8}{X:Type}{cs:X->List za}{v:X->za}{h0 h:zb}{x f:za}{G:List X}{R:List (List za)}{c:X->X->Int}
theorem Rw.swap(ho:Rw E cs h0 h x G R)(S:zds E cs v){i j:Nat}(hi:i<G.length)(hj:j<G.length){K:zb->Prop}(hk:∀h',Rw E cs h0 h' x (swp G i j hi hj) R->K h'):
  E.st h (elp E.es x i 0) (v G[j]) λh=>E.st h (elp E.es x j 0) (v G[i]) K:=by
 refine ho.st S (t:=G[j]) hi λh1 o1=>?_;exact o1.st S (t:=G[i]) (by simpa using hj) λh2 o2=>hk h2 o2
theorem zkz(S:zds E cs v)(hx:SlX h0 E.es x (G.map cs) R)(hc:zeo C v c f h0){p:za}{n:Int}(ho:zcw h0 h [.box p [.int .i64 n]]){i j:Nat}(hi:i<G.length)(hj:j<G.length){Q:zQ}
  (hq:∀(i' j':Nat) (n':Int) h',(i'=i \/ i'=j)->(j'=i \/ j'=j)->zcw h0 h' [.box p [.int .i64 n']]->Q (.tup [.int .i64 (i':Int),.int .i64 (j':Int)]) h'):zgs.cps C E x (.int .i64 (i:Int)) (.int .i64 (j:Int)) p f h Q:=by
 have hxx:=hx.mono ho.le;have ii:V.zb3 E.es x (.int .i64 (i:Int))=some (elp E.es x i 0):=hxx.zjp (by simpa using hi);have ij:V.zb3 E.es x (.int .i64 (j:Int))=some (elp E.es x j 0):=hxx.zjp (by simpa using hj);have gi:(G.map cs)[i]?=some (cs G[i]):=by rw[getElem?_map,getElem?_eq_getElem hi];rfl
 have gj:(G.map cs)[j]?=some (cs G[j]):=by rw[getElem?_map,getElem?_eq_getElem hj];rfl
 obtain⟨id,rfl,hb⟩:=ho.zts 0 rfl;have ld:A.ldv h (.ptr id 0 0)=some (.int .i64 n):=by rw[zpg hb];rfl
 simp -dsimp only[zgs.cps,zgs.k1,ij,B.ze];refine S.ld hxx gj ?_;simp -dsimp only[ii,B.ze];refine S.ld hxx gi ?_;refine hc.call _ _ _ _ ho.le ?_;simp -dsimp only[V.zeh,B.ze];refine B.zm (λhd=>?_) (λhd=>?_)
 ·simp -dsimp only[B.zk9,B.zha,ld,V.zex,B.ze]
  refine ho.zyp 0 (off:=0) rfl rfl (by simp) λh2 o2 _=>?_;exact hq j i _ h2 (.inr rfl) (.inl rfl) (by simpa using o2)
 ·exact hq i j n h (.inl rfl) (.inr rfl) ho
abbrev O2I(C:zh)(E:z8)(f1:Nat):Prop:=∀(v0 v1 v2 v3 v4:za)(h:zb)(Q:zQ),zgs.cps C E v0 v1 v2 v3 v4 h (dn Q)->C f1 [v0,v1,v2,v3,v4] h Q
abbrev MedI(C:zh)(E:z8)(f1 f2:Nat):Prop:=∀(v0 v1 v2 v3 v4 v5:za)(h:zb)(Q:zQ),zgt.cps C E f1 v0 v1 v2 v3 v4 v5 h (dn Q)->C f2 [v0,v1,v2,v3,v4,v5] h Q
abbrev AdjI(C:zh)(E:z8)(f2 f3:Nat):Prop:=∀(v0 v1 v2 v3:za)(h:zb)(Q:zQ),ze6.cps C E f2 v0 v1 v2 v3 h (dn Q)->C f3 [v0,v1,v2,v3] h Q
theorem zk0{f1:Nat}(io:O2I C E f1)(S:zds E cs v)(hx:SlX h0 E.es x (G.map cs) R)(hc:zeo C v c f h0){p:za}{n:Int}(ho:zcw h0 h [.box p [.int .i64 n]]){i j k:Nat}(hi:i<G.length)(hj:j<G.length)(hk:k<G.length){Q:zQ}
  (hq:∀(m:Nat) (n':Int) h',(m=i \/ m=j \/ m=k)->zcw h0 h' [.box p [.int .i64 n']]->Q (.int .i64 (m:Int)) h'):zgt.cps C E f1 x (.int .i64 (i:Int)) (.int .i64 (j:Int)) (.int .i64 (k:Int)) p f h Q:=by
 simp -dsimp only[zgt.cps,zgt.k1];refine io _ _ _ _ _ _ _ (zkz S hx hc ho hi hj λa b n1 h1 ha hb o1=>zba ?_);simp -dsimp only[V.zit,getElem?_cons_zero,getElem?_cons_succ,B.ze];have la:a<G.length:=by rcases ha with rfl|rfl<;>assumption
 have lb:b<G.length:=by rcases hb with rfl|rfl<;>assumption
 refine io _ _ _ _ _ _ _ (zkz S hx hc o1 lb hk λa2 b2 n2 h2 ha2 hb2 o2=>zba ?_);simp -dsimp only[V.zit,getElem?_cons_zero,getElem?_cons_succ,B.ze];have la2:a2<G.length:=by rcases ha2 with rfl|rfl<;>assumption
 refine io _ _ _ _ _ _ _ (zkz S hx hc o2 la la2 λa3 b3 n3 h3 ha3 hb3 o3=>zba ?_);simp -dsimp only[V.zit,getElem?_cons_zero,getElem?_cons_succ,B.ze];refine hq b3 n3 h3 ?_ o3;omega
theorem zg5{f1 f2:Nat}(io:O2I C E f1)(im:MedI C E f1 f2)(S:zds E cs v)(hx:SlX h0 E.es x (G.map cs) R)(hc:zeo C v c f h0){p:za}{n:Int}(ho:zcw h0 h [.box p [.int .i64 n]]){i:Nat}(hi:0<i)(hi2:i+1<G.length)(hl:G.length<4611686018427387904){Q:zQ}
  (hq:∀(m:Nat) (n':Int) h',i-1 <= m->m <= i+1->zcw h0 h' [.box p [.int .i64 n']]->Q (.int .i64 (m:Int)) h'):ze6.cps C E f2 x (.int .i64 (i:Int)) p f h Q:=by
 have e1:V.bin .sub (.int .i64 (i:Int)) (.int .i64 1)=some (.int .i64 ((i-1:Nat):Int)):=by
  rw[V.zi9,wrap_i64 (by omega) (by omega)];congr 2;omega
 simp -dsimp only[ze6.cps,ze6.k1,e1,zg8 (show i<4611686018427387904 by omega),B.ze];exact im _ _ _ _ _ _ _ _ (zk0 io S hx hc ho (by omega) (by omega) hi2 λm n' h' hm o'=>zba (hq m n' h' (by omega) (by omega) o'))
theorem zmc(S:zds E cs v)(hl:G.length<4611686018427387904)(ho:Rw E cs h0 h x G R){a b:Nat}(hab:a<b)(hb:b <= G.length){Q:zQ}(hq:∀h' G',zc1 a b G G'->Rw E cs h0 h' x G' R->Q (.tup []) h'):
  zc8.cps C E x (.int .i64 (a:Int)) (.int .i64 (b:Int)) f h Q:=by
 have e1:V.bin .sub (.int .i64 (b:Int)) (.int .i64 1)=some (.int .i64 ((b-1:Nat):Int)):=by
  rw[V.zi9,wrap_i64 (by omega) (by omega)];congr 2;omega
 simp -dsimp only[zc8.cps,e1,B.ze];refine zd.intro (λt vs hh=>∃(i j:Nat)(G':List X),t=j /\ vs=[.int .i64 (i:Int),.int .i64 (j:Int)] /\ a <= i /\ j<b /\ zc1 a b G G' /\ Rw E cs h0 hh x G' R) (b-1) ?_ ⟨a,b-1,G,rfl,rfl,Nat.le_refl _,by omega,zc1.refl _ _ _,ho⟩;rintro Y j vs hh ⟨i,_,G',rfl,rfl,hi,hj,W,o⟩ hY;simp -dsimp only[zc8.l2,zc8.k1,zqg,B.ze];have hlen:=W.len;refine B.zm (λhc=>?_) (λhc=>hq hh G' W o);rw[decide_eq_true_eq]at hc;have li:i<G'.length:=by omega
 have lj:j<G'.length:=by omega
 simp -dsimp only[o.idx lj,B.ze];refine o.ld S (getElem?_eq_getElem lj) ?_;simp -dsimp only[o.idx li,B.ze];refine o.ld S (getElem?_eq_getElem li) ?_;have ij:=o.idx lj;refine o.st S (t:=G'[j]) li λh1 o1=>?_;simp -dsimp only[ij,B.ze];refine o1.st S (t:=G'[i]) (by simpa using lj) λh2 o2=>?_;have e2:V.bin .sub (.int .i64 (j:Int)) (.int .i64 1)=some (.int .i64 ((j-1:Nat):Int)):=by
  rw[V.zi9,wrap_i64 (by omega) (by omega)];congr 2;omega
 simp -dsimp only[zg8 (show i<4611686018427387904 by omega),e2,B.ze];exact hY (j-1) _ _ (by omega) ⟨i+1,j-1,_,rfl,rfl,by omega,by omega,W.trans (zfi li lj hi (by omega) (by omega) hj),o2⟩
theorem quo4{a:Nat}(h:a<4611686018427387904):V.bin .quo (.int .i64 (a:Int)) (.int .i64 4)=some (.int .i64 ((a / 4:Nat):Int)):=by
 rw[V.zmy _ _ _ (by omega),show (a:Int).tdiv 4=((a / 4:Nat):Int) from rfl,wrap_i64 (by omega) (by omega)]
theorem mulN{a b:Nat}(h:a*b<4611686018427387904):V.bin .mul (.int .i64 (a:Int)) (.int .i64 (b:Int))=some (.int .i64 ((a*b:Nat):Int)):=by
 rw[V.bin_mul,show (a:Int)*(b:Int)=((a*b:Nat):Int) by simp,wrap_i64 (by omega) (by omega)]
theorem zlc{a b:Nat}(h:a+b<4611686018427387904):V.bin .add (.int .i64 (a:Int)) (.int .i64 (b:Int))=some (.int .i64 ((a+b:Nat):Int)):=by
 rw[V.zex,show (a:Int)+(b:Int)=((a+b:Nat):Int) by simp,wrap_i64 (by omega) (by omega)]
theorem zio{a b:Nat}(h:b <= a)(h2:a<4611686018427387904):V.bin .sub (.int .i64 (a:Int)) (.int .i64 (b:Int))=some (.int .i64 ((a-b:Nat):Int)):=by
 rw[V.zi9,show (a:Int)-(b:Int)=((a-b:Nat):Int) by omega,wrap_i64 (by omega) (by omega)]
theorem zzb{a b:Nat}:V.bin .geq (.int .i64 (a:Int)) (.int .i64 (b:Int))=some (.bool (decide (b <= a))):=by rw[V.zk5];congr 3;exact propext (by omega)
theorem zmw{f1 f2 f3:Nat}(io:O2I C E f1)(im:MedI C E f1 f2)(ia:AdjI C E f2 f3)(S:zds E cs v)(hx:SlX h E.es x (G.map cs) R)(h0le:h0.le h)(hc:zeo C v c f h0)(hl:G.length <= 100000000){a b:Nat}(hab:a+8 <= b)(hb:b <= G.length){Q:zQ}
  (hq:∀(m:Nat) (hint:Int) h',a <= m->m<b->h.le h'->Q (.tup [.int .i64 (m:Int),.int .i64 hint]) h'):zu.cps C E f2 f3 x (.int .i64 (a:Int)) (.int .i64 (b:Int)) f h Q:=by
 have e1:=zio (a:=b) (b:=a) (by omega) (by omega);simp -dsimp only[zu.cps,e1,B.ze];intro id hid;have o:=(zcw.start h).zvy hid [.int .i64 0];simp only[nil_append]at o;have q4:=quo4 (a:=b-a) (by omega);have m1:=mulN (a:=(b-a) / 4) (b:=1) (by omega);have m2:=mulN (a:=(b-a) / 4) (b:=2) (by omega);have m3:=mulN (a:=(b-a) / 4) (b:=3) (by omega);have a1:=zlc (a:=a) (b:=(b-a) / 4*1) (by omega);have a2:=zlc (a:=a) (b:=(b-a) / 4*2) (by omega);have a3:=zlc (a:=a) (b:=(b-a) / 4*3) (by omega);have g8:V.bin .geq (.int .i64 ((b-a:Nat):Int)) (.int .i64 8)=some (.bool true):=by rw[V.zk5,decide_eq_true (by omega)]
 have hc':zeo C v c f h:=⟨λh2 s t K hle hk=>hc.call h2 s t K (zb.le_trans h0le hle) hk⟩;simp -dsimp only[zu.k6,zu.k5,zu.k4,zu.k3,q4,B.ze];have m1':V.bin .mul (.int .i64 (((b-a) / 4:Nat):Int)) (.int .i64 1)=some (.int .i64 (((b-a) / 4*1:Nat):Int)):=m1;have m2':V.bin .mul (.int .i64 (((b-a) / 4:Nat):Int)) (.int .i64 2)=some (.int .i64 (((b-a) / 4*2:Nat):Int)):=m2;have m3':V.bin .mul (.int .i64 (((b-a) / 4:Nat):Int)) (.int .i64 3)=some (.int .i64 (((b-a) / 4*3:Nat):Int)):=m3;simp -dsimp only[q4,m1',m2',m3',a1,a2,a3,g8,B.cond_true,zu.k5,zu.k4,zu.k3,zu.k2,B.ze];have fin:∀(m:Nat) (n':Int) h',a <= m->m<b->zcw h h' [.box (.ptr id 0 0) [.int .i64 n']]->zu.k1 C E f2 f3 Q (.ptr id 0 0) (.int .i64 (m:Int)) h':=λm n' h' k1 k2 o'=>by
  obtain⟨id',e,hb'⟩:=o'.zts 0 rfl;cases e;have ld:A.ldv h' (.ptr id 0 0)=some (.int .i64 n'):=by rw[zpg hb'];rfl
  simp -dsimp only[zu.k1,B.zha,ld,V.zhh,B.ze];refine B.zm (λ_=>hq m _ h' k1 k2 o'.le) (λ_=>?_);refine B.zm (λ_=>hq m _ h' k1 k2 o'.le) (λ_=>hq m _ h' k1 k2 o'.le)
 have g50:V.bin .geq (.int .i64 ((b-a:Nat):Int)) (.int .i64 50)=some (.bool (decide (50 <= b-a))):=zzb (b:=50);simp -dsimp only[g50,B.ze];refine B.zm (λhd=>?_) (λhd=>?_)
 ·rw[decide_eq_true_eq]at hd
  refine ia _ _ _ _ _ _ (zg5 io im S hx hc' o (by omega) (by omega) (by omega) λi n1 h1 i1 i2 o1=>zba ?_);refine ia _ _ _ _ _ _ (zg5 io im S hx hc' o1 (by omega) (by omega) (by omega) λj n2 h2 j1 j2 o2=>zba ?_);refine ia _ _ _ _ _ _ (zg5 io im S hx hc' o2 (by omega) (by omega) (by omega) λk n3 h3 k1 k2 o3=>zba ?_);refine im _ _ _ _ _ _ _ _ (zk0 io S hx hc' o3 (by omega) (by omega) (by omega) λm n4 h4 hm o4=>zba ?_);exact fin m n4 h4 (by omega) (by omega) o4
 ·refine im _ _ _ _ _ _ _ _ (zk0 io S hx hc' o (by omega) (by omega) (by omega) λm n4 h4 hm o4=>zba ?_)
  exact fin m n4 h4 (by omega) (by omega) o4
end
end Go.Ab
