/- What is proved: a part of the way to the statement: L24z. No conditions. -/
import Derived.Test.YtneeejngeoaaoaaGreatRows
import Derived.Test.YtneeejngeoaaoaaGreatQ6
import Derived.Test.YtneeejngeoaaoaaGreatQ3
import Derived.Test.YtneeejngeoaaoaaGreatQ2
set_option linter.unusedVariables false
set_option linter.unusedSimpArgs false
set_option maxRecDepth 100000
namespace Go.Ab.S24z
open List
open Go.Ab Go.Proofs
noncomputable abbrev P:Program:=Tryz.prog
def lkz:List (Nat×List Nat)->Nat->List Nat|[],_=>[]|(a,b)::r,k=>bif Nat.beq a k then b else lkz r k
def pz(e:List (Nat×List Nat)):Nat->List (Nat×List Nat)|0=>[]|n+1=>pz e n++[(n,lkz e n)]
@[reducible] def LkT(P:Program)(I:Bx)(f:Func)(F:z6->(zQ)->zbr->zb->Prop):Prop:=∀{C:z6}(hC:zj8 C)(Q:zQ)(s:zbr)(h:zb),F C Q s h->bwp P C I (f.body.getD .skip) (retB P I f.results.toList Q) s h
theorem eT{P:Program}{C:z6}{I:Bx}(hC:zj8 C){c:Code}{Q:Ex->zbr->zb->Prop}{s:zbr}{h:zb}(X:zbr->zb->Prop){p:Prop}(hR:p)(hb:∀s h,X s h->bwp P C I (cB c) Q s h)(e:bwp P C I (cA c) (Ex.then X Q) s h=p:=by kernel_rfl)(hk:isS c=true:=by kernel_rfl):bwp P C I c Q s h:=eS hC X (e1 hR e) hb hk
@[reducible] def on1(F:za->zG):List za->zG|[a],u,v,w=>F a u v w|_,_,_,_=>False
@[reducible] def on2(F:za->za->zG):List za->zG|[a,b],u,v,w=>F a b u v w|_,_,_,_=>False
@[reducible] def on3(F:za->za->za->zG):List za->zG|[a,b,c],u,v,w=>F a b c u v w|_,_,_,_=>False
@[reducible] def on4(F:za->za->za->za->zG):List za->zG|[a,b,c,d],u,v,w=>F a b c d u v w|_,_,_,_=>False
@[reducible] def on5(F:za->za->za->za->za->zG):List za->zG|[a,b,c,d,e],u,v,w=>F a b c d e u v w|_,_,_,_=>False
@[reducible] def on9(F:za->za->za->za->za->za->za->za->za->zG):List za->zG|[a,b,c,d,e,f,g,i,j],u,v,w=>F a b c d e f g i j u v w|_,_,_,_=>False
def N(k:Nat):Nat:=[0,0,0,0,0,0,0,0,0,0,0,0,0,0,0,0,0,0,99,0,97,0,0,0,0,0,0,0,0,0,0,0,0,0,146,0,0,0,0,0,0,0,110,0,0,0,0,0,0,0,0,0,0,0,0,0,0,0,0,0,0,0,37,0,98,0,0,0,0,0,0,0,0,0,142,143,0,100,102,0,59,60,61,62,63,64,65,66,67,68,69,70,71,72,73,74,75,76,77,78,79,80,81,0,0,0,42,101,103,104,105,106,107,108,109,111,112,113,114,115,116,117,118,119,120,121,122,123,124,125,0,0,141,11,144,145,147,148,149,0,0,0,0,0,0,0,0,0,0,0,0,0,0,0,0,18,0,0,0,0,0,0,0,0,0,0,0,0,0,0,0,0,0,0,0,0,0,0,0,0,0,0,0,0,0,0,0,0,0,0,0,0,0,0,0,0,0,0,0,0,0,0,0,0,0,0,0,0,0,0,0,0,0,0,0,0,0,0,0,0,0,0,0,0,0,0,0,0,0,0,0,0,0,0,0,0,0,0,0,0,0,0,0,0,0,0,0,0,0,0,0,0,0,0,0,0,0,0,0,0,0,0,0,0,0,0,0,0,0,0,0,0,0,0,0,0,0,0,0,0,0,0,0,0,0,0,0,55,0,0,0,0,0,0,0,0,0,0,137,136,0,0,0,0,95,96,0,0,0,0,0,0,0,0,0,0,0,0,0,0,0,0,0,0,0,0,0,0,0,0,0,0,0,0,0,0,0,0,0,0,0,0,0,0,0,0,0,0,0,0,0,0,0,0,0,0,0,0,0,0,0,0,0,0,47,0,0,0,0,0,0,0,0,0,0,84,0,132,133,134,131,130,129,128,127,126,150,151,152,153,155,0,0,0,0,0,14,0,0,0,0,0,0,0,0,36,20,22,0,23,0,0,0,0,0,0,0,0,0,0,0,0,0,0,0,0,0,0,0,0,0,0,0,0,0,0,0,0,0,0,0,0,0,0,0,0,0,0,0,0,0,0,0,0,0,0,0,0,0,0,0,0,0,0,0,0,0,0,0,0,0,0,0,0,0,0,0,0,0,0,0,0,5,13,7,6,4,0,17,16,8,9,10,0,0,0,0,0,0,12,19,21,33,34,35,24,27,40,39,26,25,32,30,31,29,28,41,44,45,43,56,57,58,49,48,52,53,82,50,46,51,54,83,85,92,93,94,91,90,89,88,87,86,135,138,139,140,154,15,3,38,0,0,0,0,0,0,0,0,0,0,0,0,0,0,0,0,0,0,0,0,0,0,0,0,0,0,0,0,0,0,0,0,0,0,0,0,0,0,0,0,0,0,0,0,0,0,0,0,0,0,0,0,0,0].getD k 0
theorem mixed:P.follows .mixedOrders=true:=by kernel_rfl
def zo.I:Bx:=⟨[],[],120,[]⟩
theorem zo.L:LkT P zo.I Tryz.f3 λC Q s h=>zo.cps C N (s 0) (s 1) h Q:=λ{C} k Q s h r=>eT k (λs h=>zo.k11 C N Q (s 0) (s 1) h) r (λs h r=>eT k (λs h=>B.call C (N 486) [(s 0)] h λa h=>B.cond a (B.call C (N 482) [] h λb h=>Q b h) (zo.k10 C N Q (s 0) (s 1) h)) r (λs h r=>eT k (λs h=>zo.k10 C N Q (s 0) (s 1) h) r (λs h r=>eT k (λs h=>zq (zo.l9 C N Q (s 0) (s 1) (s 5) (s 6)) [(.int .i64 0)] h) r (λs h r=>eS k (λs h=>B.call C (N 490) [(s 5),(s 1)] h λc h=>B.call C (N 490) [(s 5),(s 1)] h λd h=>zo.k7 C N Q (s 1) (s 5) (s 6) c d h) (eT k (λs h=>zq (zo.l9 C N Q (s 0) (s 1) (s 5) (s 6)) [(s 7)] h) r (λs h r=>eK (eL k [0,1,5,6] [7] (on4 (zo.l9 C N Q)) r (λY3 s h r=>e1 r)))) (λs h r=>eT k (λs h=>zo.k7 C N Q (s 1) (s 5) (s 6) (s 8) (s 9) h) r (λs h r=>eT k (λs h=>B.call C (N 492) [(s 5)] h λe h=>B.call C (N 492) [(s 5)] h λf h=>zo.k6 C N Q (s 1) (s 5) (s 6) (s 8) (s 9) (s 10) (s 11) e f h) r (λs h r=>eT k (λs h=>zo.k6 C N Q (s 1) (s 5) (s 6) (s 8) (s 9) (s 10) (s 11) (s 12) (s 13) h) r (λs h r=>eT k (λs h=>zq (zo.l5 C N Q (s 1) (s 5) (s 6) (s 8) (s 9) (s 10) (s 11) (s 12) (s 13)) [(.int .i64 0)] h) r (λs h r=>eS k (λs h=>zq (zo.l3 C N Q (s 1) (s 5) (s 6) (s 8) (s 9) (s 10) (s 11) (s 12) (s 13)) [(.int .i64 0)] h) (eT k (λs h=>zq (zo.l5 C N Q (s 1) (s 5) (s 6) (s 8) (s 9) (s 10) (s 11) (s 12) (s 13)) [(s 14)] h) r (λs h r=>eK (eL k [1,5,6,8,9,10,11,12,13] [14] (on9 (zo.l5 C N Q)) r (λY2 s h r=>e1 r)))) (λs h r=>eS k (λs h=>zo.k1 C N Q (s 1) (s 5) (s 6) (s 8) (s 9) (s 10) (s 11) (s 12) (s 13) h) (eT k (λs h=>zq (zo.l3 C N Q (s 1) (s 5) (s 6) (s 8) (s 9) (s 10) (s 11) (s 12) (s 13)) [(s 15)] h) r (λs h r=>eK (eL k [1,5,6,8,9,10,11,12,13] [15] (on9 (zo.l3 C N Q)) r (λY1 s h r=>e1 r)))) (λs h r=>e1 r)))))))))))
theorem zo.imp:zo.Imp (AC P) N:=λa b h Q r=>eF mixed (fn:=Tryz.f3) (λk=>zo.L k (dn Q) (zbx [a,b]) h r)
def zcs.I:Bx:=⟨[],[],45,[]⟩
theorem zcs.L:LkT P zcs.I Tryz.f4 λC Q s h=>zcs.cps C N (s 0) h Q:=λ{C} k Q s h r=>eT k (λs h=>zq (zcs.l4 C N Q (s 0)) [(.int .i64 0),(.int .i64 0)] h) r (λs h r=>eT k (λs h=>zq (zcs.l4 C N Q (s 0)) [(s 3),(.int .i64 0)] h) r (λs h r=>eS k (λs h=>B.pv (V.bin .gtr (s 3) (.int .i64 2000)) λa=>Q a h) (eT k (λs h=>zq (zcs.l4 C N Q (s 0)) [(s 3),(s 4)] h) r (λs h r=>eK (eL k [0] [3,4] (on1 (zcs.l4 C N Q)) r (λY1 s h r=>eT k (λs h=>zq (zcs.l2 C N Q Y1 (s 0) (s 4)) [(s 3),(.int .i64 0)] h) r (λs h r=>eS k (λs h=>B.pv (V.bin .add (s 4) (.int .i64 1)) λb=>Y1 [(s 3),b] h) (eK (eT k (λs h=>zq (zcs.l2 C N Q Y1 (s 0) (s 4)) [(s 3),(s 5)] h) r (λs h r=>eK (eL k [0,4] [3,5] (on2 (zcs.l2 C N Q Y1)) r (λY2 s h r=>e1 r))))) (λs h r=>e1 r)))))) (λs h r=>e1 r)))
theorem zcs.imp:zcs.Imp (AC P) N:=λa h Q r=>eF mixed (fn:=Tryz.f4) (λk=>zcs.L k (dn Q) (zbx [a]) h r)
def zec.I:Bx:=⟨[],[],88,[]⟩
theorem zec.L:LkT P zec.I Tryz.f5 λC Q s h=>zec.cps C N h Q:=λ{C} k Q s h r=>e1 r
theorem zec.imp:zec.Imp (AC P) N:=λh Q r=>eF mixed (fn:=Tryz.f5) (λk=>zec.L k (dn Q) (zbx []) h r)
def zf3.I:Bx:=⟨[],[],4,[]⟩
theorem zf3.L:LkT P zf3.I Tryz.f6 λC Q s h=>zf3.cps C N h Q:=λ{C} k Q s h r=>e1 r
theorem zf3.imp:zf3.Imp (AC P) N:=λh Q r=>eF mixed (fn:=Tryz.f6) (λk=>zf3.L k (dn Q) (zbx []) h r)
def zej.I:Bx:=⟨[5],[9,14,18,21,25,30,32,38],45,[(6,[(0,[]),(1,[]),(2,[]),(3,[]),(5,[]),(6,[]),(7,[]),(8,[]),(9,[]),(4,[7,9]),(10,[]),(11,[]),(12,[]),(13,[]),(14,[]),(15,[]),(16,[]),(17,[]),(18,[])])]⟩
theorem zej.L:LkT P zej.I Tryz.f7 λC Q s h=>zej.cps C N (s 0) (s 1) (s 2) h Q:=λ{C} k Q s h r=>e1 r
theorem zej.imp:zej.Imp (AC P) N:=λa b c h Q r=>eF mixed (fn:=Tryz.f7) (λk=>zej.L k (dn Q) (zbx [a,b,c]) h r)
def zcx.I:Bx:=⟨[],[],28,[]⟩
theorem zcx.L:LkT P zcx.I Tryz.f8 λC Q s h=>zcx.cps C N (s 0) (s 1) h Q:=λ{C} k Q s h r=>e1 r
theorem zcx.imp:zcx.Imp (AC P) N:=λa b h Q r=>eF mixed (fn:=Tryz.f8) (λk=>zcx.L k (dn Q) (zbx [a,b]) h r)
def zcd.I:Bx:=⟨[],[],47,[(4,pz [] 12)]⟩
theorem zcd.L:LkT P zcd.I Tryz.f9 λC Q s h=>zcd.cps C N (s 0) (s 1) h Q:=λ{C} k Q s h r=>e1 r
theorem zcd.imp:zcd.Imp (AC P) N:=λa b h Q r=>eF mixed (fn:=Tryz.f9) (λk=>zcd.L k (dn Q) (zbx [a,b]) h r)
def zy.I:Bx:=⟨[],[],48,[]⟩
theorem zy.L:LkT P zy.I Tryz.f10 λC Q s h=>zy.cps C N (s 0) h Q:=λ{C} k Q s h r=>eT k (λs h=>B.call C (N 505) [(s 0)] h λe h=>B.pv (V.un .not e) λb=>B.cond b (Q .zdo h) (zy.k6 C N Q (s 0) h)) r (λs h r=>eT k (λs h=>zy.k6 C N Q (s 0) h) r (λs h r=>eS k (λs h=>Q .zdo h) (eT k (λs h=>zq (zy.l5 C N Q (s 0) (s 16) (s 17)) [(s 18)] h) r (λs h r=>eK (eL k [0,16,17] [18] (on3 (zy.l5 C N Q)) r (λY1 s h r=>eT k (λs h=>B.cond (s 19) (zy.k4 C N Q Y1 (s 0) (s 16) (s 17) (s 18) h) (Q .zdo h)) r (λs h r=>eT k (λs h=>zy.k4 C N Q Y1 (s 0) (s 16) (s 17) (s 18) h) r (λs h r=>eS k (λs h=>B.pv (V.bin .add (s 18) (.int .i64 1)) λc=>Y1 [c] h) (eK (eT k (λs h=>B.call C (N 512) [(s 0),(s 4)] h λd h=>zy.k3 C N Q Y1 (s 0) (s 4) d (s 16) (s 17) (s 18) h) r (λs h r=>eT k (λs h=>zy.k3 C N Q Y1 (s 0) (s 4) (s 5) (s 16) (s 17) (s 18) h) r (λs h r=>eT k (λs h=>B.rangeMap h (s 5) λa h=>zq (zy.l2 C N Q Y1 (s 0) (s 4) a) [.zdo] h) r (λs h r=>eT k (λs h=>B.rangeMap h (s 5) λa h=>zq (zy.l2 C N Q Y1 (s 0) (s 4) a) [(s 6)] h) r (λs h r=>eS k (λs h=>B.call C (N 511) [(s 6)] h λf h=>Q (s 6) h) (eT k (λs h=>zq (zy.l2 C N Q Y1 (s 0) (s 4) (s 30)) [(s 6)] h) r (λs h r=>eK (eL k [0,4,30] [6] (on3 (zy.l2 C N Q Y1)) r (λY2 s h r=>e1 r)))) (λs h r=>e1 r))))))) (λs h r=>e1 r))))))) (λs h r=>e1 r)))
theorem zy.imp:zy.Imp (AC P) N:=λa h Q r=>eF mixed (fn:=Tryz.f10) (λk=>zy.L k (dn Q) (zbx [a]) h r)
def zdk.I:Bx:=⟨[],[],26,[(6,pz [] 9)]⟩
theorem zdk.L:LkT P zdk.I Tryz.f11 λC Q s h=>zdk.cps C N (s 0) (s 1) h Q:=λ{C} k Q s h r=>eT k (λs h=>zdk.k3 C N Q (s 0) (s 1) h) r (λs h r=>eT k (λs h=>zq (zpz.l4  Q (s 0) (s 1)) [(.int .i64 0)] h) r (λs h r=>eS k (λs h=>Q (.bool true) h) (eT k (λs h=>zq (zpz.l4  Q (s 0) (s 1)) [(s 5)] h) r (λs h r=>eK (eL k [0,1] [5] (on2 (zpz.l4  Q)) r (λY1 s h r=>e1 r)))) (λs h r=>e1 r)))
theorem zdk.imp:zdk.Imp (AC P) N:=λa b h Q r=>eF mixed (fn:=Tryz.f11) (λk=>zdk.L k (dn Q) (zbx [a,b]) h r)
def zdl.I:Bx:=⟨[],[],26,[(6,pz [] 9)]⟩
theorem zdl.L:LkT P zdl.I Tryz.f12 λC Q s h=>zdl.cps C N (s 0) (s 1) h Q:=λ{C} k Q s h r=>eT k (λs h=>zdl.k3 C N Q (s 0) (s 1) h) r (λs h r=>eT k (λs h=>zq (zpz.l4  Q (s 0) (s 1)) [(.int .i64 0)] h) r (λs h r=>eS k (λs h=>Q (.bool true) h) (eT k (λs h=>zq (zpz.l4  Q (s 0) (s 1)) [(s 5)] h) r (λs h r=>eK (eL k [0,1] [5] (on2 (zpz.l4  Q)) r (λY1 s h r=>e1 r)))) (λs h r=>e1 r)))
theorem zdl.imp:zdl.Imp (AC P) N:=λa b h Q r=>eF mixed (fn:=Tryz.f12) (λk=>zdl.L k (dn Q) (zbx [a,b]) h r)
def zed.I:Bx:=⟨[],[],30,[]⟩
theorem zed.L:LkT P zed.I Tryz.f13 λC Q s h=>zed.cps C N (s 0) (s 1) (s 2) h Q:=λ{C} k Q s h r=>e1 r
theorem zed.imp:zed.Imp (AC P) N:=λa b c h Q r=>eF mixed (fn:=Tryz.f13) (λk=>zed.L k (dn Q) (zbx [a,b,c]) h r)
def zdf.I:Bx:=⟨[],[],21,[]⟩
theorem zdf.L:LkT P zdf.I Tryz.f14 λC Q s h=>zdf.cps C N (s 0) h Q:=λ{C} k Q s h r=>eT k (λs h=>zdf.k3 C N Q (s 0) h) r (λs h r=>eT k (λs h=>zq (zdf.l2 C N Q (s 0) (s 3)) [(.int .i64 0)] h) r (λs h r=>eS k (λs h=>B.call C (N 62) [(s 3)] h λa h=>Q a h) (eT k (λs h=>zq (zdf.l2 C N Q (s 0) (s 3)) [(s 4)] h) r (λs h r=>eK (eL k [0,3] [4] (on2 (zdf.l2 C N Q)) r (λY1 s h r=>e1 r)))) (λs h r=>e1 r)))
theorem zdf.imp:zdf.Imp (AC P) N:=λa h Q r=>eF mixed (fn:=Tryz.f14) (λk=>zdf.L k (dn Q) (zbx [a]) h r)
def zdg.I:Bx:=⟨[],[],21,[]⟩
theorem zdg.L:LkT P zdg.I Tryz.f15 λC Q s h=>zdg.cps C N (s 0) h Q:=λ{C} k Q s h r=>eT k (λs h=>zdg.k3 C N Q (s 0) h) r (λs h r=>eT k (λs h=>zq (zdg.l2 C N Q (s 0) (s 3)) [(.int .i64 0)] h) r (λs h r=>eS k (λs h=>B.call C (N 62) [(s 3)] h λa h=>Q a h) (eT k (λs h=>zq (zdg.l2 C N Q (s 0) (s 3)) [(s 4)] h) r (λs h r=>eK (eL k [0,3] [4] (on2 (zdg.l2 C N Q)) r (λY1 s h r=>e1 r)))) (λs h r=>e1 r)))
theorem zdg.imp:zdg.Imp (AC P) N:=λa h Q r=>eF mixed (fn:=Tryz.f15) (λk=>zdg.L k (dn Q) (zbx [a]) h r)
def z8.I:Bx:=⟨[],[],109,[(19,pz [] 9)]⟩
theorem z8.L:LkT P z8.I Tryz.f16 λC Q s h=>z8.cps C N (s 0) (s 1) (s 2) h Q:=λ{C} k Q s h r=>eT k (λs h=>B.call C (N 505) [(s 0)] h λa h=>B.pv (V.un .not a) λb=>B.cond b (Q (.bool false) h) (z8.k6 C N Q (s 0) (s 1) (s 2) h)) r (λs h r=>eT k (λs h=>z8.k6 C N Q (s 0) (s 1) (s 2) h) r (λs h r=>eT k (λs h=>z8.k5 C N Q (s 0) (s 1) (s 2) (s 7) h) r (λs h r=>eT k (λs h=>B.pv (V.zcj (s 2)) λc=>zq (z8.l4 C N Q (s 0) (s 7) (s 2) c) [(.int .i64 0)] h) r (λs h r=>eS k (λs h=>B.nilCheck (s 7) λd=>B.pv (V.fieldAddr 2 d) λe=>B.ld h e λf=>z8.k2 C N Q (s 0) (s 7) f h) (eT k (λs h=>zq (z8.l4 C N Q (s 0) (s 7) (s 32) (s 33)) [(s 34)] h) r (λs h r=>eK (eL k [0,7,32,33] [34] (on4 (z8.l4 C N Q)) r (λY1 s h r=>e1 r)))) (λs h r=>eT k (λs h=>z8.k2 C N Q (s 0) (s 7) (s 10) h) r (λs h r=>eT k (λs h=>z8.k1 C N Q (s 0) (s 7) (s 10) h) r (λs h r=>e1 r)))))))
theorem z8.imp:z8.Imp (AC P) N:=λa b c h Q r=>eF mixed (fn:=Tryz.f16) (λk=>z8.L k (dn Q) (zbx [a,b,c]) h r)
def zda.I:Bx:=⟨[],[],11,[]⟩
theorem zda.L:LkT P zda.I Tryz.f17 λC Q s h=>zda.cps C N (s 0) (s 1) h Q:=λ{C} k Q s h r=>e1 r
theorem zda.imp:zda.Imp (AC P) N:=λa b h Q r=>eF mixed (fn:=Tryz.f17) (λk=>zda.L k (dn Q) (zbx [a,b]) h r)
def zf9.I:Bx:=⟨[],[],16,[]⟩
theorem zf9.L:LkT P zf9.I Tryz.f18 λC Q s h=>zf9.cps C N (s 0) (s 1) h Q:=λ{C} k Q s h r=>e1 r
theorem zf9.imp:zf9.Imp (AC P) N:=λa b h Q r=>eF mixed (fn:=Tryz.f18) (λk=>zf9.L k (dn Q) (zbx [a,b]) h r)
def zc6.I:Bx:=⟨[],[],29,[(2,[(0,[]),(2,[]),(3,[]),(4,[]),(5,[]),(6,[]),(7,[]),(9,[]),(10,[]),(11,[]),(12,[]),(13,[]),(14,[]),(15,[]),(1,[]),(8,[12]),(16,[]),(17,[]),(18,[]),(19,[])])]⟩
theorem zc6.L:LkT P zc6.I Tryz.f19 λC Q s h=>zc6.cps C N (s 0) (s 1) h Q:=λ{C} k Q s h r=>e1 r
theorem zc6.imp:zc6.Imp (AC P) N:=λa b h Q r=>eF mixed (fn:=Tryz.f19) (λk=>zc6.L k (dn Q) (zbx [a,b]) h r)
def zd0.I:Bx:=⟨[],[],25,[]⟩
theorem zd0.L:LkT P zd0.I Tryz.f20 λC Q s h=>zd0.cps C N (s 0) h Q:=λ{C} k Q s h r=>eT k (λs h=>zd0.k3 C N Q (s 0) h) r (λs h r=>eT k (λs h=>B.zjc h 1 16 (s 3) (s 0) λa h=>zq (zr5.l4 C 16 (N 106) (.str []) 1 Q (s 0)) [a,(.int .i64 0)] h) r (λs h r=>eT k (λs h=>zq (zr5.l4 C 16 (N 106) (.str []) 1 Q (s 0)) [(s 3),(.int .i64 0)] h) r (λs h r=>eS k (λs h=>B.pv (V.zcj (s 0)) λb=>B.pv (V.zjp 1 (s 3) none (some b)) λc=>Q c h) (eT k (λs h=>zq (zr5.l4 C 16 (N 106) (.str []) 1 Q (s 0)) [(s 3),(s 4)] h) r (λs h r=>eK (eL k [0] [3,4] (on1 (zr5.l4 C 16 (N 106) (.str []) 1 Q)) r (λY1 s h r=>e1 r)))) (λs h r=>e1 r))))
theorem zd0.imp:zd0.Imp (AC P) N:=λa h Q r=>eF mixed (fn:=Tryz.f20) (λk=>zd0.L k (dn Q) (zbx [a]) h r)
def zj.I:Bx:=⟨[],[],157,[(10,pz [] 18),(28,pz [] 13)]⟩
theorem zj.L:LkT P zj.I Tryz.f21 λC Q s h=>zj.cps C N (s 0) (s 1) (s 2) h Q:=λ{C} k Q s h r=>eT k (λs h=>B.call C (N 516) [(s 0),(s 1)] h λa h=>zj.k12 C N Q (s 0) (s 1) (s 2) a h) r (λs h r=>eT k (λs h=>zj.k12 C N Q (s 0) (s 1) (s 2) (s 7) h) r (λs h r=>eT k (λs h=>zj.k11 C N Q (s 0) (s 2) (s 7) h) r (λs h r=>eT k (λs h=>zj.k10 C N Q (s 0) (s 2) (s 7) (s 8) h) r (λs h r=>eT k (λs h=>zq (zj.l9 C N Q (s 0) (s 2) (s 7) (s 8)) [(s 9),(.int .i64 0)] h) r (λs h r=>eS k (λs h=>B.nilCheck (s 8) λb=>B.pv (V.fieldAddr 3 b) λc=>B.ld h c λd=>zj.k7 C N Q (s 0) (s 7) (s 8) (s 9) d h) (eT k (λs h=>zq (zj.l9 C N Q (s 0) (s 2) (s 7) (s 8)) [(s 9),(s 10)] h) r (λs h r=>eK (eL k [0,2,7,8] [9,10] (on4 (zj.l9 C N Q)) r (λY3 s h r=>e1 r)))) (λs h r=>eT k (λs h=>zj.k7 C N Q (s 0) (s 7) (s 8) (s 9) (s 11) h) r (λs h r=>eT k (λs h=>zq (zj.l6 C N Q (s 0) (s 7) (s 8) (s 9) (s 11)) [(.bool false),(.int .i64 0)] h) r (λs h r=>eT k (λs h=>zq (zj.l6 C N Q (s 0) (s 7) (s 8) (s 9) (s 11)) [(s 12),(.int .i64 0)] h) r (λs h r=>eS k (λs h=>zj.k4 C N Q (s 0) (s 8) (s 9) (s 11) (s 12) h) (eT k (λs h=>zq (zj.l6 C N Q (s 0) (s 7) (s 8) (s 9) (s 11)) [(s 12),(s 13)] h) r (λs h r=>eK (eL k [0,7,8,9,11] [12,13] (on5 (zj.l6 C N Q)) r (λY2 s h r=>e1 r)))) (λs h r=>eT k (λs h=>zq (zj.l3 C N Q (s 8) (s 9)) [(.int .i64 0)] h) r (λs h r=>eS k (λs h=>zj.k1 C N Q (s 8) h) (eT k (λs h=>zq (zj.l3 C N Q (s 8) (s 9)) [(s 14)] h) r (λs h r=>eK (eL k [8,9] [14] (on2 (zj.l3 C N Q)) r (λY1 s h r=>e1 r)))) (λs h r=>e1 r))))))))))))
theorem zj.imp:zj.Imp (AC P) N:=λa b c h Q r=>eF mixed (fn:=Tryz.f21) (λk=>zj.L k (dn Q) (zbx [a,b,c]) h r)
def zdm.I:Bx:=⟨[],[],58,[(7,pz [(30,[25])] 35)]⟩
theorem zdm.L:LkT P zdm.I Tryz.f22 λC Q s h=>zdm.cps C N (s 0) (s 1) h Q:=λ{C} k Q s h r=>eT k (λs h=>zdm.k4 C N Q (s 0) (s 1) h) r (λs h r=>eT k (λs h=>zdm.k3 C N Q (s 0) (s 1) h) r (λs h r=>eT k (λs h=>zq (ztl.l4 C (N 106) 1 Q (s 1) (s 5)) [(.int .i64 0)] h) r (λs h r=>eS k (λs h=>Q (.bool true) h) (eT k (λs h=>zq (ztl.l4 C (N 106) 1 Q (s 1) (s 5)) [(s 6)] h) r (λs h r=>eK (eL k [1,5] [6] (on2 (ztl.l4 C (N 106) 1 Q)) r (λY1 s h r=>e1 r)))) (λs h r=>e1 r))))
theorem zdm.imp:zdm.Imp (AC P) N:=λa b h Q r=>eF mixed (fn:=Tryz.f22) (λk=>zdm.L k (dn Q) (zbx [a,b]) h r)
def zd8.I:Bx:=⟨[],[],20,[]⟩
theorem zd8.L:LkT P zd8.I Tryz.f23 λC Q s h=>zd8.cps C N (s 0) h Q:=λ{C} k Q s h r=>eT k (λs h=>zq (ztc.l3 C 1 (N 106) (λh p v K=>B.st h p v K) 2 Q (s 2)) [(.int .i64 0)] h) r (λs h r=>eT k (λs h=>zq (ztc.l3 C 1 (N 106) (λh p v K=>B.st h p v K) 2 Q (s 2)) [(s 3)] h) r (λs h r=>eK (eL k [2] [3] (λkv lv h Y1=>match kv with|[a]=>ztc.l3 C 1 (N 106) (λh p v K=>B.st h p v K) 2 Q a lv h Y1|_=>False) r (λY1 s h r=>e1 r))))
theorem zd8.imp:zd8.Imp (AC P) N:=λa h Q r=>eF mixed (fn:=Tryz.f23) (λk=>zd8.L k (dn Q) (zbx [a]) h r)
def zc5.I:Bx:=⟨[],[],12,[]⟩
theorem zc5.L:LkT P zc5.I Tryz.f24 λC Q s h=>zc5.cps C N (s 0) h Q:=λ{C} k Q s h r=>e1 r
theorem zc5.imp:zc5.Imp (AC P) N:=λa h Q r=>eF mixed (fn:=Tryz.f24) (λk=>zc5.L k (dn Q) (zbx [a]) h r)
def zcg.I:Bx:=⟨[],[],9,[]⟩
theorem zcg.L:LkT P zcg.I Tryz.f25 λC Q s h=>zcg.cps C N (s 0) h Q:=λ{C} k Q s h r=>e1 r
theorem zcg.imp:zcg.Imp (AC P) N:=λa h Q r=>eF mixed (fn:=Tryz.f25) (λk=>zcg.L k (dn Q) (zbx [a]) h r)
def zbp.I:Bx:=⟨[],[],4,[]⟩
theorem zbp.L:LkT P zbp.I Tryz.f26 λC Q s h=>zbp.cps C N (s 0) h Q:=λ{C} k Q s h r=>e1 r
theorem zbp.imp:zbp.Imp (AC P) N:=λa h Q r=>eF mixed (fn:=Tryz.f26) (λk=>zbp.L k (dn Q) (zbx [a]) h r)
def zbm.I:Bx:=⟨[],[],34,[]⟩
theorem zbm.L:LkT P zbm.I Tryz.f27 λC Q s h=>zbm.cps C N (s 0) (s 1) (s 2) (s 3) h Q:=λ{C} k Q s h r=>eT k (λs h=>zbm.k3 C N Q (s 0) (.fn (N 523) [] [(s 5),(s 6),(s 7)]) .zdo h) r (λs h r=>eT k (λs h=>zbm.k3 C N Q (s 0) (s 9) .zdo h) r (λs h r=>eT k (λs h=>zbm.k3 C N Q (s 0) (s 9) (s 10) h) r (λs h r=>eS k (λs h=>B.call C (N 511) [(s 10)] h λa h=>Q (s 10) h) (eT k (λs h=>zq (zbm.l2 C N Q (s 9) (s 18)) [(s 10)] h) r (λs h r=>eK (eL k [9,18] [10] (on2 (zbm.l2 C N Q)) r (λY1 s h r=>e1 r)))) (λs h r=>e1 r))))
theorem zbm.imp:zbm.Imp (AC P) N:=λa b c d h Q r=>eF mixed (fn:=Tryz.f27) (λk=>zbm.L k (dn Q) (zbx [a,b,c,d]) h r)
def zcr.I:Bx:=⟨[],[],9,[]⟩
theorem zcr.L:LkT P zcr.I Tryz.f28 λC Q s h=>zcr.cps C N (s 0) h Q:=λ{C} k Q s h r=>e1 r
theorem zcr.imp:zcr.Imp (AC P) N:=λa h Q r=>eF mixed (fn:=Tryz.f28) (λk=>zcr.L k (dn Q) (zbx [a]) h r)
def zba.I:Bx:=⟨[],[],4,[]⟩
theorem zba.L:LkT P zba.I Tryz.f29 λC Q s h=>zba.cps C N (s 0) h Q:=λ{C} k Q s h r=>e1 r
theorem zba.imp:zba.Imp (AC P) N:=λa h Q r=>eF mixed (fn:=Tryz.f29) (λk=>zba.L k (dn Q) (zbx [a]) h r)
def zch.I:Bx:=⟨[],[],13,[]⟩
theorem zch.L:LkT P zch.I Tryz.f30 λC Q s h=>zch.cps C N (s 0) (s 1) h Q:=λ{C} k Q s h r=>e1 r
theorem zch.imp:zch.Imp (AC P) N:=λa b h Q r=>eF mixed (fn:=Tryz.f30) (λk=>zch.L k (dn Q) (zbx [a,b]) h r)
def zcc.I:Bx:=⟨[],[],9,[]⟩
theorem zcc.L:LkT P zcc.I Tryz.f31 λC Q s h=>zcc.cps C N (s 0) (s 1) h Q:=λ{C} k Q s h r=>e1 r
theorem zcc.imp:zcc.Imp (AC P) N:=λa b h Q r=>eF mixed (fn:=Tryz.f31) (λk=>zcc.L k (dn Q) (zbx [a,b]) h r)
def zbq.I:Bx:=⟨[],[],11,[]⟩
theorem zbq.L:LkT P zbq.I Tryz.f32 λC Q s h=>zbq.cps C N (s 0) h Q:=λ{C} k Q s h r=>e1 r
theorem zbq.imp:zbq.Imp (AC P) N:=λa h Q r=>eF mixed (fn:=Tryz.f32) (λk=>zbq.L k (dn Q) (zbx [a]) h r)
def zco.I:Bx:=⟨[],[],21,[]⟩
theorem zco.L:LkT P zco.I Tryz.f33 λC Q s h=>zco.cps C N (s 0) (s 1) h Q:=λ{C} k Q s h r=>e1 r
theorem zco.imp:zco.Imp (AC P) N:=λa b h Q r=>eF mixed (fn:=Tryz.f33) (λk=>zco.L k (dn Q) (zbx [a,b]) h r)
def zbd.I:Bx:=⟨[],[],73,[(8,pz [] 29)]⟩
theorem zbd.L:LkT P zbd.I Tryz.f34 λC Q s h=>zbd.cps C N (s 0) (s 1) h Q:=λ{C} k Q s h r=>eT k (λs h=>B.call C (N 516) [(s 0),(s 1)] h λa h=>zbd.k3 C N Q (s 0) a h) r (λs h r=>eT k (λs h=>zbd.k3 C N Q (s 0) (s 5) h) r (λs h r=>eT k (λs h=>zq (zbd.l2 C N Q (s 0) (s 5)) [.zdo,(.int .i64 0)] h) r (λs h r=>eT k (λs h=>zq (zbd.l2 C N Q (s 0) (s 5)) [(s 6),(.int .i64 0)] h) r (λs h r=>eS k (λs h=>Q (s 6) h) (eT k (λs h=>zq (zbd.l2 C N Q (s 0) (s 5)) [(s 6),(s 7)] h) r (λs h r=>eK (eL k [0,5] [6,7] (on2 (zbd.l2 C N Q)) r (λY1 s h r=>e1 r)))) (λs h r=>e1 r)))))
theorem zbd.imp:zbd.Imp (AC P) N:=λa b h Q r=>eF mixed (fn:=Tryz.f34) (λk=>zbd.L k (dn Q) (zbx [a,b]) h r)
def zr.I:Bx:=⟨[],[],72,[(15,[(0,[]),(1,[]),(2,[]),(3,[]),(4,[]),(6,[]),(7,[]),(8,[]),(9,[]),(5,[9]),(10,[])])]⟩
theorem zr.L:LkT P zr.I Tryz.f35 λC Q s h=>zr.cps C N (s 0) h Q:=λ{C} k Q s h r=>eT k (λs h=>zq (zr.l7 C N Q (s 0)) [.zdo,(.int .i64 0)] h) r (λs h r=>eT k (λs h=>zq (zr.l7 C N Q (s 0)) [(s 3),(.int .i64 0)] h) r (λs h r=>eS k (λs h=>zq (zr.l5 C N Q (s 0) (s 3)) [(.int .i64 0)] h) (eT k (λs h=>zq (zr.l7 C N Q (s 0)) [(s 3),(s 4)] h) r (λs h r=>eK (eL k [0] [3,4] (on1 (zr.l7 C N Q)) r (λY3 s h r=>e1 r)))) (λs h r=>eS k (λs h=>Q .zdo h) (eT k (λs h=>zq (zr.l5 C N Q (s 0) (s 3)) [(s 5)] h) r (λs h r=>eK (eL k [0,3] [5] (on2 (zr.l5 C N Q)) r (λY1 s h r=>eT k (λs h=>B.pv (V.zcp 1 (s 3) (s 5)) λa=>B.ld h a λb=>B.call C (N 521) [(s 0),b] h λc h=>zr.k3 C N Q Y1 (s 0) (s 3) (s 5) c h) r (λs h r=>eS k (λs h=>B.pv (V.bin .add (s 5) (.int .i64 1)) λd=>Y1 [d] h) (eK (eT k (λs h=>zr.k3 C N Q Y1 (s 0) (s 3) (s 5) (s 6) h) r (λs h r=>eT k (λs h=>zq (zr.l2 C N Q Y1 (s 0) (s 3) (s 5) (s 6)) [.zdo,(.int .i64 0)] h) r (λs h r=>eT k (λs h=>zq (zr.l2 C N Q Y1 (s 0) (s 3) (s 5) (s 6)) [(s 7),(.int .i64 0)] h) r (λs h r=>eS k (λs h=>Q (s 7) h) (eT k (λs h=>zq (zr.l2 C N Q Y1 (s 0) (s 3) (s 5) (s 6)) [(s 7),(s 8)] h) r (λs h r=>eK (eL k [0,3,5,6] [7,8] (on4 (zr.l2 C N Q Y1)) r (λY2 s h r=>e1 r)))) (λs h r=>e1 r)))))) (λs h r=>e1 r)))))) (λs h r=>e1 r))))
theorem zr.imp:zr.Imp (AC P) N:=λa h Q r=>eF mixed (fn:=Tryz.f35) (λk=>zr.L k (dn Q) (zbx [a]) h r)
def zd1.I:Bx:=⟨[],[],14,[]⟩
theorem zd1.L:LkT P zd1.I Tryz.f36 λC Q s h=>zd1.cps C N (s 0) (s 1) h Q:=λ{C} k Q s h r=>e1 r
theorem zd1.imp:zd1.Imp (AC P) N:=λa b h Q r=>eF mixed (fn:=Tryz.f36) (λk=>zd1.L k (dn Q) (zbx [a,b]) h r)
def zeh.I:Bx:=⟨[],[],162,[]⟩
theorem zeh.L:LkT P zeh.I Tryz.f37 λC Q s h=>zeh.cps C N (s 0) h Q:=λ{C} k Q s h r=>e1 r
theorem zeh.imp:zeh.Imp (AC P) N:=λa h Q r=>eF mixed (fn:=Tryz.f37) (λk=>zeh.L k (dn Q) (zbx [a]) h r)
def zd2.I:Bx:=⟨[],[],14,[]⟩
theorem zd2.L:LkT P zd2.I Tryz.f38 λC Q s h=>zd2.cps C N (s 0) (s 1) h Q:=λ{C} k Q s h r=>e1 r
theorem zd2.imp:zd2.Imp (AC P) N:=λa b h Q r=>eF mixed (fn:=Tryz.f38) (λk=>zd2.L k (dn Q) (zbx [a,b]) h r)
def zcb.I:Bx:=⟨[],[],9,[]⟩
theorem zcb.L:LkT P zcb.I Tryz.f39 λC Q s h=>zcb.cps C N (s 0) (s 1) h Q:=λ{C} k Q s h r=>e1 r
theorem zcb.imp:zcb.Imp (AC P) N:=λa b h Q r=>eF mixed (fn:=Tryz.f39) (λk=>zcb.L k (dn Q) (zbx [a,b]) h r)
def zg.I:Bx:=⟨[],[],16,[]⟩
theorem zg.L:LkT P zg.I Tryz.f40 λC Q s h=>zg.cps C N (s 0) (s 1) h Q:=λ{C} k Q s h r=>eT k (λs h=>zq (zg.l2 C N Q (s 0) (s 7)) [] h) r (λs h r=>eK (eL k [0,7] [] (on2 (zg.l2 C N Q)) r (λY1 s h r=>e1 r)))
theorem zg.imp:zg.Imp (AC P) N:=λa b h Q r=>eF mixed (fn:=Tryz.f40) (λk=>zg.L k (dn Q) (zbx [a,b]) h r)
def zbu.I:Bx:=⟨[],[],26,[]⟩
theorem zbu.L:LkT P zbu.I Tryz.f41 λC Q s h=>zbu.cps C N (s 0) (s 1) h Q:=λ{C} k Q s h r=>eT k (λs h=>zq (zbu.l2 C N Q (s 0) (s 1)) [(.int .i64 0)] h) r (λs h r=>eS k (λs h=>Q (.int .i64 (-1)) h) (eT k (λs h=>zq (zbu.l2 C N Q (s 0) (s 1)) [(s 5)] h) r (λs h r=>eK (eL k [0,1] [5] (on2 (zbu.l2 C N Q)) r (λY1 s h r=>e1 r)))) (λs h r=>e1 r))
theorem zbu.imp:zbu.Imp (AC P) N:=λa b h Q r=>eF mixed (fn:=Tryz.f41) (λk=>zbu.L k (dn Q) (zbx [a,b]) h r)
def zd4.I:Bx:=⟨[],[],23,[]⟩
theorem zd4.L:LkT P zd4.I Tryz.f42 λC Q s h=>zd4.cps C N (s 0) (s 1) h Q:=λ{C} k Q s h r=>e1 r
theorem zd4.imp:zd4.Imp (AC P) N:=λa b h Q r=>eF mixed (fn:=Tryz.f42) (λk=>zd4.L k (dn Q) (zbx [a,b]) h r)
def zef.I:Bx:=⟨[],[],18,[]⟩
theorem zef.L:LkT P zef.I Tryz.f43 λC Q s h=>zef.cps C N (s 0) (s 1) h Q:=λ{C} k Q s h r=>eT k (λs h=>zq (zef.l2 C N Q (s 0) (s 1)) [(.int .i64 0)] h) r (λs h r=>eS k (λs h=>Q (.bool false) h) (eT k (λs h=>zq (zef.l2 C N Q (s 0) (s 1)) [(s 5)] h) r (λs h r=>eK (eL k [0,1] [5] (on2 (zef.l2 C N Q)) r (λY1 s h r=>e1 r)))) (λs h r=>e1 r))
theorem zef.imp:zef.Imp (AC P) N:=λa b h Q r=>eF mixed (fn:=Tryz.f43) (λk=>zef.L k (dn Q) (zbx [a,b]) h r)
def zdz.I:Bx:=⟨[],[],48,[]⟩
theorem zdz.L:LkT P zdz.I Tryz.f44 λC Q s h=>zdz.cps C N (s 0) (s 1) h Q:=λ{C} k Q s h r=>eT k (λs h=>zq (zdz.l3 C N Q (s 0) (s 1)) [(.int .i64 0)] h) r (λs h r=>eT k (λs h=>zq (zdz.l3 C N Q (s 0) (s 1)) [(s 5)] h) r (λs h r=>eS k (λs h=>zdz.k1 C N Q (s 0) (s 1) (s 5) h) (eK (eL k [0,1] [5] (on2 (zdz.l3 C N Q)) r (λY1 s h r=>e1 r))) (λs h r=>e1 r)))
theorem zdz.imp:zdz.Imp (AC P) N:=λa b h Q r=>eF mixed (fn:=Tryz.f44) (λk=>zdz.L k (dn Q) (zbx [a,b]) h r)
def zd7.I:Bx:=⟨[3],[7,12,16,22],28,[]⟩
theorem zd7.L:LkT P zd7.I Tryz.f45 λC Q s h=>zd7.cps C N (s 0) (s 1) (s 2) h Q:=λ{C} k Q s h r=>e1 r
theorem zd7.imp:zd7.Imp (AC P) N:=λa b c h Q r=>eF mixed (fn:=Tryz.f45) (λk=>zd7.L k (dn Q) (zbx [a,b,c]) h r)
def zdp.I:Bx:=⟨[],[],5,[]⟩
theorem zdp.L:LkT P zdp.I Tryz.f46 λC Q s h=>zdp.cps C N (s 0) h Q:=λ{C} k Q s h r=>e1 r
theorem zdp.imp:zdp.Imp (AC P) N:=λa h Q r=>eF mixed (fn:=Tryz.f46) (λk=>zdp.L k (dn Q) (zbx [a]) h r)
def zbt.I:Bx:=⟨[],[],11,[]⟩
theorem zbt.L:LkT P zbt.I Tryz.f47 λC Q s h=>zbt.cps C N (s 0) h Q:=λ{C} k Q s h r=>e1 r
theorem zbt.imp:zbt.Imp (AC P) N:=λa h Q r=>eF mixed (fn:=Tryz.f47) (λk=>zbt.L k (dn Q) (zbx [a]) h r)
def zu.I:Bx:=⟨[],[],14,[]⟩
theorem zu.L:LkT P zu.I Tryz.f48 λC Q s h=>zu.cps C N (s 0) (s 1) h Q:=λ{C} k Q s h r=>eT k (λs h=>zq (zu.l2 C N Q (s 0) (s 5)) [] h) r (λs h r=>eK (eL k [0,5] [] (on2 (zu.l2 C N Q)) r (λY1 s h r=>e1 r)))
theorem zu.imp:zu.Imp (AC P) N:=λa b h Q r=>eF mixed (fn:=Tryz.f48) (λk=>zu.L k (dn Q) (zbx [a,b]) h r)
def zc7.I:Bx:=⟨[],[],40,[(1,pz [] 35)]⟩
theorem zc7.L:LkT P zc7.I Tryz.f49 λC Q s h=>zc7.cps C N (s 0) (s 1) (s 2) (s 3) h Q:=λ{C} k Q s h r=>e1 r
theorem zc7.imp:zc7.Imp (AC P) N:=λa b c d h Q r=>eF mixed (fn:=Tryz.f49) (λk=>zc7.L k (dn Q) (zbx [a,b,c,d]) h r)
def zdv.I:Bx:=⟨[],[],29,[]⟩
theorem zdv.L:LkT P zdv.I Tryz.f50 λC Q s h=>zdv.cps C N (s 0) (s 1) h Q:=λ{C} k Q s h r=>eT k (λs h=>zdv.k4 C N Q (s 0) (s 1) h) r (λs h r=>eT k (λs h=>zdv.k3 C N Q (s 0) (s 1) h) r (λs h r=>eT k (λs h=>B.rangeMap h (s 0) λa h=>zq (zdv.l2 C N Q (s 1) a) [] h) r (λs h r=>eS k (λs h=>Q (.bool false) h) (eT k (λs h=>zq (zdv.l2 C N Q (s 1) (s 21)) [] h) r (λs h r=>eK (eL k [1,21] [] (on2 (zdv.l2 C N Q)) r (λY1 s h r=>e1 r)))) (λs h r=>e1 r))))
theorem zdv.imp:zdv.Imp (AC P) N:=λa b h Q r=>eF mixed (fn:=Tryz.f50) (λk=>zdv.L k (dn Q) (zbx [a,b]) h r)
def zdt.I:Bx:=⟨[],[],5,[]⟩
theorem zdt.L:LkT P zdt.I Tryz.f51 λC Q s h=>zdt.cps C N (s 0) h Q:=λ{C} k Q s h r=>e1 r
theorem zdt.imp:zdt.Imp (AC P) N:=λa h Q r=>eF mixed (fn:=Tryz.f51) (λk=>zdt.L k (dn Q) (zbx [a]) h r)
def zn.I:Bx:=⟨[],[],14,[]⟩
theorem zn.L:LkT P zn.I Tryz.f52 λC Q s h=>zn.cps C N (s 0) (s 1) h Q:=λ{C} k Q s h r=>eT k (λs h=>zq (zn.l2 C N Q (s 0) (s 5)) [] h) r (λs h r=>eK (eL k [0,5] [] (on2 (zn.l2 C N Q)) r (λY1 s h r=>e1 r)))
theorem zn.imp:zn.Imp (AC P) N:=λa b h Q r=>eF mixed (fn:=Tryz.f52) (λk=>zn.L k (dn Q) (zbx [a,b]) h r)
def zbo.I:Bx:=⟨[],[],25,[]⟩
theorem zbo.L:LkT P zbo.I Tryz.f53 λC Q s h=>zbo.cps C N (s 0) (s 1) (s 2) (s 3) h Q:=λ{C} k Q s h r=>eT k (λs h=>zq (zbo.l2 C N Q (s 2) (s 3) (s 9) (s 10)) [(s 11)] h) r (λs h r=>eK (eL k [2,3,9,10] [11] (on4 (zbo.l2 C N Q)) r (λY1 s h r=>e1 r)))
theorem zbo.imp:zbo.Imp (AC P) N:=λa b c d h Q r=>eF mixed (fn:=Tryz.f53) (λk=>zbo.L k (dn Q) (zbx [a,b,c,d]) h r)
def zc1.I:Bx:=⟨[],[],134,[(17,pz [] 15)]⟩
theorem zc1.L:LkT P zc1.I Tryz.f54 λC Q s h=>zc1.cps C N (s 0) (s 1) (s 2) (s 3) h Q:=λ{C} k Q s h r=>eT k (λs h=>zq (zp.l8 C (zdd 8 (.int .i64 0) 0) (N 534) (N 535) (N 536) (N 531) (N 537) (N 538) (N 539) (N 540) (N 541) (N 542) Q (s 0)) [(s 1),(s 2),(s 3),(s 8),(.bool true)] h) r (λs h r=>eT k (λs h=>zq (zp.l8 C (zdd 8 (.int .i64 0) 0) (N 534) (N 535) (N 536) (N 531) (N 537) (N 538) (N 539) (N 540) (N 541) (N 542) Q (s 0)) [(s 1),(s 2),(s 3),(s 8),(s 9)] h) r (λs h r=>eK (eL k [0] [1,2,3,8,9] (on1 (zp.l8 C (zdd 8 (.int .i64 0) 0) (N 534) (N 535) (N 536) (N 531) (N 537) (N 538) (N 539) (N 540) (N 541) (N 542) Q)) r (λY1 s h r=>eK (eT k (λs h=>zp.k7 C (zdd 8 (.int .i64 0) 0) (N 534) (N 535) (N 536) (N 531) (N 537) (N 538) (N 539) (N 540) (N 541) (N 542) Q Y1 (s 0) (s 1) (s 2) (s 3) (s 8) (s 9) (s 10) h) r (λs h r=>eT k (λs h=>zp.k6 C (zdd 8 (.int .i64 0) 0) (N 534) (N 535) (N 536) (N 531) (N 537) (N 538) (N 539) (N 540) (N 541) (N 542) Q Y1 (s 0) (s 1) (s 2) (s 3) (s 8) (s 9) (s 10) h) r (λs h r=>eT k (λs h=>zp.k5 C (zdd 8 (.int .i64 0) 0) (N 534) (N 535) (N 536) (N 531) (N 537) (N 538) (N 539) (N 540) (N 541) (N 542) Q Y1 (s 0) (s 1) (s 2) (s 3) (s 8) (s 9) (s 10) h) r (λs h r=>eT k (λs h=>zp.k4 C (zdd 8 (.int .i64 0) 0) (N 534) (N 535) (N 536) (N 531) (N 537) (N 538) (N 539) (N 540) (N 541) (N 542) Q Y1 (s 0) (s 1) (s 2) (s 3) (s 8) (s 9) (s 10) h) r (λs h r=>eT k (λs h=>zp.k3 C (zdd 8 (.int .i64 0) 0) (N 534) (N 535) (N 536) (N 531) (N 537) (N 538) (N 539) (N 540) (N 541) (N 542) Q Y1 (s 0) (s 1) (s 2) (s 3) (s 8) (s 9) (s 10) (s 11) (s 12) h) r (λs h r=>eT k (λs h=>zp.k2 C (zdd 8 (.int .i64 0) 0) (N 534) (N 535) (N 536) (N 531) (N 537) (N 538) (N 539) (N 540) (N 541) (N 542) Q Y1 (s 0) (s 1) (s 2) (s 3) (s 8) (s 9) (s 10) (s 11) (s 12) h) r (λs h r=>eT k (λs h=>zp.k1 C (zdd 8 (.int .i64 0) 0) (N 534) (N 535) (N 536) (N 531) (N 537) (N 538) (N 539) (N 540) (N 541) (N 542) Q Y1 (s 0) (s 1) (s 2) (s 3) (s 8) (s 9) (s 10) (s 11) h) r (λs h r=>e1 r))))))))))))
theorem zc1.imp:zc1.Imp (AC P) N:=λa b c d h Q r=>eF mixed (fn:=Tryz.f54) (λk=>zc1.L k (dn Q) (zbx [a,b,c,d]) h r)
def zd9.I:Bx:=⟨[],[],8,[]⟩
theorem zd9.L:LkT P zd9.I Tryz.f55 λC Q s h=>zd9.cps C N (s 0) h Q:=λ{C} k Q s h r=>e1 r
theorem zd9.imp:zd9.Imp (AC P) N:=λa h Q r=>eF mixed (fn:=Tryz.f55) (λk=>zd9.L k (dn Q) (zbx [a]) h r)
def zb6.I:Bx:=⟨[],[],48,[]⟩
theorem zb6.L:LkT P zb6.I Tryz.f56 λC Q s h=>zb6.cps C N (s 0) (s 1) h Q:=λ{C} k Q s h r=>eT k (λs h=>zq (zb6.l3 C N Q (s 0) (s 1)) [(.int .i64 0)] h) r (λs h r=>eT k (λs h=>zq (zb6.l3 C N Q (s 0) (s 1)) [(s 5)] h) r (λs h r=>eS k (λs h=>zb6.k1 C N Q (s 0) (s 1) (s 5) h) (eK (eL k [0,1] [5] (on2 (zb6.l3 C N Q)) r (λY1 s h r=>e1 r))) (λs h r=>e1 r)))
theorem zb6.imp:zb6.Imp (AC P) N:=λa b h Q r=>eF mixed (fn:=Tryz.f56) (λk=>zb6.L k (dn Q) (zbx [a,b]) h r)
def zw.I:Bx:=⟨[],[],43,[]⟩
theorem zw.L:LkT P zw.I Tryz.f57 λC Q s h=>zw.cps C N (s 0) (s 1) h Q:=λ{C} k Q s h r=>eT k (λs h=>B.call C (N 503) [(s 0),(s 1)] h λa h=>zq (zw.l6 C N Q (s 0)) [a,(.int .i64 (-1))] h) r (λs h r=>eT k (λs h=>zq (zw.l6 C N Q (s 0)) [(s 5),(.int .i64 (-1))] h) r (λs h r=>eS k (λs h=>Q (s 5) h) (eT k (λs h=>zq (zw.l6 C N Q (s 0)) [(s 5),(s 6)] h) r (λs h r=>eK (eL k [0] [5,6] (on1 (zw.l6 C N Q)) r (λY1 s h r=>eT k (λs h=>B.pv (V.zcj (s 5)) λb=>zq (zw.l4 C N Q Y1 (s 0) b) [(s 5),(.int .i64 0)] h) r (λs h r=>eK (eT k (λs h=>zq (zw.l4 C N Q Y1 (s 0) (s 6)) [(s 5),(.int .i64 0)] h) r (λs h r=>eT k (λs h=>zq (zw.l4 C N Q Y1 (s 0) (s 6)) [(s 5),(s 7)] h) r (λs h r=>eK (eL k [0,6] [5,7] (on2 (zw.l4 C N Q Y1)) r (λY2 s h r=>eT k (λs h=>zw.k3 C N Q Y1 Y2 (s 0) (s 5) (s 6) (s 7) h) r (λs h r=>eS k (λs h=>B.pv (V.bin .add (s 7) (.int .i64 1)) λc=>Y2 [(s 5),c] h) (eK (eT k (λs h=>zq (zw.l2 C N Q Y1 Y2 (s 0) (s 6) (s 7) (s 8)) [(s 5),(.int .i64 0)] h) r (λs h r=>eT k (λs h=>zq (zw.l2 C N Q Y1 Y2 (s 0) (s 6) (s 7) (s 8)) [(s 5),(s 9)] h) r (λs h r=>eK (eL k [0,6,7,8] [5,9] (on4 (zw.l2 C N Q Y1 Y2)) r (λY3 s h r=>e1 r)))))) (λs h r=>e1 r)))))))))))) (λs h r=>e1 r)))
theorem zw.imp:zw.Imp (AC P) N:=λa b h Q r=>eF mixed (fn:=Tryz.f57) (λk=>zw.L k (dn Q) (zbx [a,b]) h r)
def zdw.I:Bx:=⟨[],[],18,[]⟩
theorem zdw.L:LkT P zdw.I Tryz.f58 λC Q s h=>zdw.cps C N (s 0) (s 1) h Q:=λ{C} k Q s h r=>eT k (λs h=>zq (zdw.l2 C N Q (s 0) (s 1)) [(.int .i64 0)] h) r (λs h r=>eS k (λs h=>Q (.bool false) h) (eT k (λs h=>zq (zdw.l2 C N Q (s 0) (s 1)) [(s 5)] h) r (λs h r=>eK (eL k [0,1] [5] (on2 (zdw.l2 C N Q)) r (λY1 s h r=>e1 r)))) (λs h r=>e1 r))
theorem zdw.imp:zdw.Imp (AC P) N:=λa b h Q r=>eF mixed (fn:=Tryz.f58) (λk=>zdw.L k (dn Q) (zbx [a,b]) h r)
def zfn.I:Bx:=⟨[],[],200,[(7,pz [(7,[3])] 11),(24,pz [(9,[3,6]),(31,[25,28])] 37),(41,pz [(9,[3,6]),(23,[17,20])] 28)]⟩
def zgf.I:Bx:=⟨[],[],193,[(7,pz [(7,[3])] 10),(24,pz [(9,[3,6]),(30,[24,27])] 35),(41,pz [(9,[3,6]),(22,[16,19])] 26)]⟩
def zl.I:Bx:=⟨[],[],193,[(7,pz [(7,[3])] 10),(24,pz [(9,[3,6]),(30,[24,27])] 35),(41,pz [(9,[3,6]),(22,[16,19])] 26)]⟩
theorem zl.L:LkT P zl.I Tryz.f61 λC Q s h=>zl.cps C N (s 0) h Q:=λ{C} w Q s h r=>eT w (λs h=>zq (zl.l21 C N Q (s 0)) [(.int .i64 0)] h) r (λs h r=>eS w (λs h=>B.pv (V.zcj (s 0)) λb=>0<1 /\ B.mks h 24 (some [.zdo]) b b λf h=>zq (zl.l17 C N Q (s 0) f) [(.int .i64 0)] h) (eT w (λs h=>zq (zl.l21 C N Q (s 0)) [(s 3)] h) r (λs h r=>eK (eL w [0] [3] (on1 (zl.l21 C N Q)) r (λY9 s h r=>eT w (λs h=>zq (zl.l19 C N Q Y9 (s 0) (s 3)) [(.int .i64 0)] h) r (λs h r=>eS w (λs h=>B.pv (V.bin .add (s 3) (.int .i64 1)) λg=>Y9 [g] h) (eK (eT w (λs h=>zq (zl.l19 C N Q Y9 (s 0) (s 3)) [(s 4)] h) r (λs h r=>eK (eL w [0,3] [4] (on2 (zl.l19 C N Q Y9)) r (λY10 s h r=>e1 r))))) (λs h r=>e1 r)))))) (λs h r=>eT w (λs h=>zq (zl.l17 C N Q (s 0) (s 5)) [(.int .i64 0)] h) r (λs h r=>eS w (λs h=>zq (zl.l13 C N Q (s 0) (s 5)) [(.int .i64 0)] h) (eT w (λs h=>zq (zl.l17 C N Q (s 0) (s 5)) [(s 6)] h) r (λs h r=>eK (eL w [0,5] [6] (on2 (zl.l17 C N Q)) r (λY7 s h r=>eT w (λs h=>B.pv (V.zcp 1 (s 0) (s 6)) λi=>B.ld h i λj=>zq (zl.l15 C N Q Y7 (s 0) (s 5) (s 6)) [j,(.int .i64 0)] h) r (λs h r=>eS w (λs h=>B.pv (V.bin .add (s 6) (.int .i64 1)) λa=>Y7 [a] h) (eK (eT w (λs h=>zq (zl.l15 C N Q Y7 (s 0) (s 5) (s 6)) [(s 7),(.int .i64 0)] h) r (λs h r=>eS w (λs h=>B.pv (V.zcp 1 (s 5) (s 6)) λk=>B.st h k (s 7) λh=>B.pv (V.bin .add (s 6) (.int .i64 1)) λa=>Y7 [a] h) (eT w (λs h=>zq (zl.l15 C N Q Y7 (s 0) (s 5) (s 6)) [(s 7),(s 8)] h) r (λs h r=>eK (eL w [0,5,6] [7,8] (on3 (zl.l15 C N Q Y7)) r (λY8 s h r=>e1 r)))) (λs h r=>e1 r)))) (λs h r=>e1 r)))))) (λs h r=>eS w (λs h=>zq (zl.l9 C N Q (s 0) (s 5)) [(.int .i64 0)] h) (eT w (λs h=>zq (zl.l13 C N Q (s 0) (s 5)) [(s 9)] h) r (λs h r=>eK (eL w [0,5] [9] (on2 (zl.l13 C N Q)) r (λY5 s h r=>eT w (λs h=>zq (zl.l11 C N Q Y5 (s 0) (s 5) (s 9)) [(.int .i64 0)] h) r (λs h r=>eS w (λs h=>B.pv (V.bin .add (s 9) (.int .i64 1)) λl=>Y5 [l] h) (eK (eT w (λs h=>zq (zl.l11 C N Q Y5 (s 0) (s 5) (s 9)) [(s 10)] h) r (λs h r=>eK (eL w [0,5,9] [10] (on3 (zl.l11 C N Q Y5)) r (λY6 s h r=>e1 r))))) (λs h r=>e1 r)))))) (λs h r=>eS w (λs h=>zq (zl.l4 C N Q (s 0) (s 5)) [(.int .i64 0)] h) (eT w (λs h=>zq (zl.l9 C N Q (s 0) (s 5)) [(s 11)] h) r (λs h r=>eK (eL w [0,5] [11] (on2 (zl.l9 C N Q)) r (λY3 s h r=>eT w (λs h=>0<1 /\ B.mks h 8 (some [.int .i64 0]) (.int .i64 64) (.int .i64 64) λc h=>zq (zl.l7 C N Q Y3 (s 0) (s 5) (s 11) c) [(.int .i64 0)] h) r (λs h r=>eS w (λs h=>B.pv (V.bin .add (s 11) (.int .i64 1)) λd=>Y3 [d] h) (eK (eT w (λs h=>zq (zl.l7 C N Q Y3 (s 0) (s 5) (s 11) (s 12)) [(.int .i64 0)] h) r (λs h r=>eS w (λs h=>zl.k5 C N Q Y3 (s 0) (s 5) (s 11) (s 12) h) (eT w (λs h=>zq (zl.l7 C N Q Y3 (s 0) (s 5) (s 11) (s 12)) [(s 13)] h) r (λs h r=>eK (eL w [0,5,11,12] [13] (on4 (zl.l7 C N Q Y3)) r (λY4 s h r=>e1 r)))) (λs h r=>e1 r)))) (λs h r=>e1 r)))))) (λs h r=>eS w (λs h=>Q (.bool true) h) (eT w (λs h=>zq (zl.l4 C N Q (s 0) (s 5)) [(s 14)] h) r (λs h r=>eK (eL w [0,5] [14] (on2 (zl.l4 C N Q)) r (λY1 s h r=>eT w (λs h=>zq (zl.l2 C N Q Y1 (s 0) (s 5) (s 14)) [(.int .i64 0)] h) r (λs h r=>eS w (λs h=>B.pv (V.bin .add (s 14) (.int .i64 1)) λe=>Y1 [e] h) (eK (eT w (λs h=>zq (zl.l2 C N Q Y1 (s 0) (s 5) (s 14)) [(s 15)] h) r (λs h r=>eK (eL w [0,5,14] [15] (on3 (zl.l2 C N Q Y1)) r (λY2 s h r=>e1 r))))) (λs h r=>e1 r)))))) (λs h r=>e1 r)))))))
theorem zl.imp:zl.Imp (AC P) N:=λa h Q r=>eF mixed (fn:=Tryz.f61) (λk=>zl.L k (dn Q) (zbx [a]) h r)
def zet.I:Bx:=⟨[],[],193,[(7,pz [(7,[3])] 10),(24,pz [(9,[3,6]),(30,[24,27])] 35),(41,pz [(9,[3,6]),(22,[16,19])] 26)]⟩
theorem zet.L:LkT P zet.I Tryz.f62 λC Q s h=>zet.cps C N (s 0) h Q:=λ{C} w Q s h r=>eT w (λs h=>zq (zek.l103 (zdd 16 (.str []) (N 106)) C Q (s 0)) [(.int .i64 0)] h) r (λs h r=>eS w (λs h=>B.pv (V.zcj (s 0)) λb=>0<1 /\ B.mks h 24 (some [.zdo]) b b λf h=>zq (zek.l82 (zdd 16 (.str []) (N 106)) C Q (s 0) f) [(.int .i64 0)] h) (eT w (λs h=>zq (zek.l103 (zdd 16 (.str []) (N 106)) C Q (s 0)) [(s 3)] h) r (λs h r=>eK (eL w [0] [3] (on1 (zek.l103 (zdd 16 (.str []) (N 106)) C Q)) r (λY9 s h r=>eT w (λs h=>zq (zek.l93 (zdd 16 (.str []) (N 106)) C Q Y9 (s 0) (s 3)) [(.int .i64 0)] h) r (λs h r=>eS w (λs h=>B.pv (V.bin .add (s 3) (.int .i64 1)) λg=>Y9 [g] h) (eK (eT w (λs h=>zq (zek.l93 (zdd 16 (.str []) (N 106)) C Q Y9 (s 0) (s 3)) [(s 4)] h) r (λs h r=>eK (eL w [0,3] [4] (on2 (zek.l93 (zdd 16 (.str []) (N 106)) C Q Y9)) r (λY10 s h r=>e1 r))))) (λs h r=>e1 r)))))) (λs h r=>eT w (λs h=>zq (zek.l82 (zdd 16 (.str []) (N 106)) C Q (s 0) (s 5)) [(.int .i64 0)] h) r (λs h r=>eS w (λs h=>zq (zek.l59 (zdd 16 (.str []) (N 106)) C Q (s 0) (s 5)) [(.int .i64 0)] h) (eT w (λs h=>zq (zek.l82 (zdd 16 (.str []) (N 106)) C Q (s 0) (s 5)) [(s 6)] h) r (λs h r=>eK (eL w [0,5] [6] (on2 (zek.l82 (zdd 16 (.str []) (N 106)) C Q)) r (λY7 s h r=>eT w (λs h=>B.pv (V.zcp 1 (s 0) (s 6)) λi=>B.ld h i λj=>zq (zek.l69 (zdd 16 (.str []) (N 106)) C Q Y7 (s 0) (s 5) (s 6)) [j,(.int .i64 0)] h) r (λs h r=>eS w (λs h=>B.pv (V.bin .add (s 6) (.int .i64 1)) λa=>Y7 [a] h) (eK (eT w (λs h=>zq (zek.l69 (zdd 16 (.str []) (N 106)) C Q Y7 (s 0) (s 5) (s 6)) [(s 7),(.int .i64 0)] h) r (λs h r=>eS w (λs h=>B.pv (V.zcp 1 (s 5) (s 6)) λk=>B.st h k (s 7) λh=>B.pv (V.bin .add (s 6) (.int .i64 1)) λa=>Y7 [a] h) (eT w (λs h=>zq (zek.l69 (zdd 16 (.str []) (N 106)) C Q Y7 (s 0) (s 5) (s 6)) [(s 7),(s 8)] h) r (λs h r=>eK (eL w [0,5,6] [7,8] (on3 (zek.l69 (zdd 16 (.str []) (N 106)) C Q Y7)) r (λY8 s h r=>e1 r)))) (λs h r=>e1 r)))) (λs h r=>e1 r)))))) (λs h r=>eS w (λs h=>zq (zek.l40 (zdd 16 (.str []) (N 106)) C Q (s 0) (s 5)) [(.int .i64 0)] h) (eT w (λs h=>zq (zek.l59 (zdd 16 (.str []) (N 106)) C Q (s 0) (s 5)) [(s 9)] h) r (λs h r=>eK (eL w [0,5] [9] (on2 (zek.l59 (zdd 16 (.str []) (N 106)) C Q)) r (λY5 s h r=>eT w (λs h=>zq (zek.l49 (zdd 16 (.str []) (N 106)) C Q Y5 (s 0) (s 5) (s 9)) [(.int .i64 0)] h) r (λs h r=>eS w (λs h=>B.pv (V.bin .add (s 9) (.int .i64 1)) λl=>Y5 [l] h) (eK (eT w (λs h=>zq (zek.l49 (zdd 16 (.str []) (N 106)) C Q Y5 (s 0) (s 5) (s 9)) [(s 10)] h) r (λs h r=>eK (eL w [0,5,9] [10] (on3 (zek.l49 (zdd 16 (.str []) (N 106)) C Q Y5)) r (λY6 s h r=>e1 r))))) (λs h r=>e1 r)))))) (λs h r=>eS w (λs h=>zq (zek.l15 (zdd 16 (.str []) (N 106)) C Q (s 0) (s 5)) [(.int .i64 0)] h) (eT w (λs h=>zq (zek.l40 (zdd 16 (.str []) (N 106)) C Q (s 0) (s 5)) [(s 11)] h) r (λs h r=>eK (eL w [0,5] [11] (on2 (zek.l40 (zdd 16 (.str []) (N 106)) C Q)) r (λY3 s h r=>eT w (λs h=>0<1 /\ B.mks h 16 (some [.str []]) (.int .i64 64) (.int .i64 64) λc h=>zq (zek.l26 (zdd 16 (.str []) (N 106)) C Q Y3 (s 0) (s 5) (s 11) c) [(.int .i64 0)] h) r (λs h r=>eS w (λs h=>B.pv (V.bin .add (s 11) (.int .i64 1)) λd=>Y3 [d] h) (eK (eT w (λs h=>zq (zek.l26 (zdd 16 (.str []) (N 106)) C Q Y3 (s 0) (s 5) (s 11) (s 12)) [(.int .i64 0)] h) r (λs h r=>eS w (λs h=>zek.k22 (zdd 16 (.str []) (N 106)) C Q Y3 (s 0) (s 5) (s 11) (s 12) h) (eT w (λs h=>zq (zek.l26 (zdd 16 (.str []) (N 106)) C Q Y3 (s 0) (s 5) (s 11) (s 12)) [(s 13)] h) r (λs h r=>eK (eL w [0,5,11,12] [13] (on4 (zek.l26 (zdd 16 (.str []) (N 106)) C Q Y3)) r (λY4 s h r=>e1 r)))) (λs h r=>e1 r)))) (λs h r=>e1 r)))))) (λs h r=>eS w (λs h=>Q (.bool true) h) (eT w (λs h=>zq (zek.l15 (zdd 16 (.str []) (N 106)) C Q (s 0) (s 5)) [(s 14)] h) r (λs h r=>eK (eL w [0,5] [14] (on2 (zek.l15 (zdd 16 (.str []) (N 106)) C Q)) r (λY1 s h r=>eT w (λs h=>zq (zek.l5 (zdd 16 (.str []) (N 106)) C Q Y1 (s 0) (s 5) (s 14)) [(.int .i64 0)] h) r (λs h r=>eS w (λs h=>B.pv (V.bin .add (s 14) (.int .i64 1)) λe=>Y1 [e] h) (eK (eT w (λs h=>zq (zek.l5 (zdd 16 (.str []) (N 106)) C Q Y1 (s 0) (s 5) (s 14)) [(s 15)] h) r (λs h r=>eK (eL w [0,5,14] [15] (on3 (zek.l5 (zdd 16 (.str []) (N 106)) C Q Y1)) r (λY2 s h r=>e1 r))))) (λs h r=>e1 r)))))) (λs h r=>e1 r)))))))
theorem zet.imp:zet.Imp (AC P) N:=λa h Q r=>eF mixed (fn:=Tryz.f62) (λk=>zet.L k (dn Q) (zbx [a]) h r)
def zfy.I:Bx:=⟨[],[],193,[(7,pz [(7,[3])] 10),(24,pz [(9,[3,6]),(30,[24,27])] 35),(41,pz [(9,[3,6]),(22,[16,19])] 26)]⟩
def zev.I:Bx:=⟨[],[],193,[(7,pz [(7,[3])] 10),(24,pz [(9,[3,6]),(30,[24,27])] 35),(41,pz [(9,[3,6]),(22,[16,19])] 26)]⟩
def zge.I:Bx:=⟨[],[],193,[(7,pz [(7,[3])] 10),(24,pz [(9,[3,6]),(30,[24,27])] 35),(41,pz [(9,[3,6]),(22,[16,19])] 26)]⟩
def zfo.I:Bx:=⟨[],[],193,[(7,pz [(7,[3])] 10),(24,pz [(9,[3,6]),(30,[24,27])] 35),(41,pz [(9,[3,6]),(22,[16,19])] 26)]⟩
def zgc.I:Bx:=⟨[],[],193,[(7,pz [(7,[3])] 10),(24,pz [(9,[3,6]),(30,[24,27])] 35),(41,pz [(9,[3,6]),(22,[16,19])] 26)]⟩
def zft.I:Bx:=⟨[],[],193,[(7,pz [(7,[3])] 10),(24,pz [(9,[3,6]),(30,[24,27])] 35),(41,pz [(9,[3,6]),(22,[16,19])] 26)]⟩
def zfw.I:Bx:=⟨[],[],193,[(7,pz [(7,[3])] 10),(24,pz [(9,[3,6]),(30,[24,27])] 35),(41,pz [(9,[3,6]),(22,[16,19])] 26)]⟩
def zfv.I:Bx:=⟨[],[],193,[(7,pz [(7,[3])] 10),(24,pz [(9,[3,6]),(30,[24,27])] 35),(41,pz [(9,[3,6]),(22,[16,19])] 26)]⟩
def zgg.I:Bx:=⟨[],[],193,[(7,pz [(7,[3])] 10),(24,pz [(9,[3,6]),(30,[24,27])] 35),(41,pz [(9,[3,6]),(22,[16,19])] 26)]⟩
def zfq.I:Bx:=⟨[],[],193,[(7,pz [(7,[3])] 10),(24,pz [(9,[3,6]),(30,[24,27])] 35),(41,pz [(9,[3,6]),(22,[16,19])] 26)]⟩
def zfa.I:Bx:=⟨[],[],193,[(7,pz [(7,[3])] 10),(24,pz [(9,[3,6]),(30,[24,27])] 35),(41,pz [(9,[3,6]),(22,[16,19])] 26)]⟩
def zgd.I:Bx:=⟨[],[],193,[(7,pz [(7,[3])] 10),(24,pz [(9,[3,6]),(30,[24,27])] 35),(41,pz [(9,[3,6]),(22,[16,19])] 26)]⟩
def zfp.I:Bx:=⟨[],[],193,[(7,pz [(7,[3])] 10),(24,pz [(9,[3,6]),(30,[24,27])] 35),(41,pz [(9,[3,6]),(22,[16,19])] 26)]⟩
def zfx.I:Bx:=⟨[],[],193,[(7,pz [(7,[3])] 10),(24,pz [(9,[3,6]),(30,[24,27])] 35),(41,pz [(9,[3,6]),(22,[16,19])] 26)]⟩
def zex.I:Bx:=⟨[],[],193,[(7,pz [(7,[3])] 10),(24,pz [(9,[3,6]),(30,[24,27])] 35),(41,pz [(9,[3,6]),(22,[16,19])] 26)]⟩
def zfu.I:Bx:=⟨[],[],193,[(7,pz [(7,[3])] 10),(24,pz [(9,[3,6]),(30,[24,27])] 35),(41,pz [(9,[3,6]),(22,[16,19])] 26)]⟩
def zew.I:Bx:=⟨[],[],193,[(7,pz [(7,[3])] 10),(24,pz [(9,[3,6]),(30,[24,27])] 35),(41,pz [(9,[3,6]),(22,[16,19])] 26)]⟩
def zfs.I:Bx:=⟨[],[],193,[(7,pz [(7,[3])] 10),(24,pz [(9,[3,6]),(30,[24,27])] 35),(41,pz [(9,[3,6]),(22,[16,19])] 26)]⟩
def zfr.I:Bx:=⟨[],[],193,[(7,pz [(7,[3])] 10),(24,pz [(9,[3,6]),(30,[24,27])] 35),(41,pz [(9,[3,6]),(22,[16,19])] 26)]⟩
def zde.I:Bx:=⟨[],[],32,[]⟩
theorem zde.L:LkT P zde.I Tryz.f82 λC Q s h=>zde.cps C N (s 0) (s 1) h Q:=λ{C} k Q s h r=>eT k (λs h=>zde.k4 C N Q (s 0) (s 1) h) r (λs h r=>eT k (λs h=>zde.k3 C N Q (s 0) (s 1) h) r (λs h r=>eT k (λs h=>zq (zde.l2 C N Q (s 0) (s 1)) [(.int .i64 0)] h) r (λs h r=>eS k (λs h=>Q (.bool false) h) (eT k (λs h=>zq (zde.l2 C N Q (s 0) (s 1)) [(s 5)] h) r (λs h r=>eK (eL k [0,1] [5] (on2 (zde.l2 C N Q)) r (λY1 s h r=>e1 r)))) (λs h r=>e1 r))))
theorem zde.imp:zde.Imp (AC P) N:=λa b h Q r=>eF mixed (fn:=Tryz.f82) (λk=>zde.L k (dn Q) (zbx [a,b]) h r)
def zcf.I:Bx:=⟨[],[],13,[]⟩
theorem zcf.L:LkT P zcf.I Tryz.f83 λC Q s h=>zcf.cps C N (s 0) (s 1) h Q:=λ{C} k Q s h r=>eT k (λs h=>zrx C (s 1) (W1 λb h Z1=>zcz.r2 C (zdd 16 (.str []) 0) Q (s 2) b h Z1) h (RK [(0,λh=>B.ld h (s 2) λa=>Q a h)])) r (λs h r=>eS k (λs h=>B.ld h (s 2) λa=>Q a h) (eT k (λs h=>zrx C (s 6) (W1 λb h Z1=>zcz.r2 C (zdd 16 (.str []) 0) Q (s 2) b h Z1) h (RK [(0,λh=>B.ld h (s 2) λa=>Q a h)])) r (λs h r=>eK (eR1 k 6 7 [2] (λkv b h Z1=>match kv with|[c]=>zcz.r2 C (zdd 16 (.str []) 0) Q c b h Z1|_=>False) r (rk_cons (λh r=>e0 r) rk_nil) (λZ1 s h r=>e1 r)))) (λs h r=>e1 r))
theorem zcf.imp:zcf.Imp (AC P) N:=λa b h Q r=>eF mixed (fn:=Tryz.f83) (λk=>zcf.L k (dn Q) (zbx [a,b]) h r)
def zcu.I:Bx:=⟨[],[],134,[(17,pz [] 15)]⟩
theorem zcu.L:LkT P zcu.I Tryz.f84 λC Q s h=>zcu.cps C N (s 0) (s 1) (s 2) (s 3) h Q:=λ{C} k Q s h r=>eT k (λs h=>zq (zp.l8 C (zdd 16 (.str []) 0) (N 377) (N 378) (N 379) (N 375) (N 380) (N 381) (N 382) (N 383) (N 384) (N 385) Q (s 0)) [(s 1),(s 2),(s 3),(s 8),(.bool true)] h) r (λs h r=>eT k (λs h=>zq (zp.l8 C (zdd 16 (.str []) 0) (N 377) (N 378) (N 379) (N 375) (N 380) (N 381) (N 382) (N 383) (N 384) (N 385) Q (s 0)) [(s 1),(s 2),(s 3),(s 8),(s 9)] h) r (λs h r=>eK (eL k [0] [1,2,3,8,9] (on1 (zp.l8 C (zdd 16 (.str []) 0) (N 377) (N 378) (N 379) (N 375) (N 380) (N 381) (N 382) (N 383) (N 384) (N 385) Q)) r (λY1 s h r=>eK (eT k (λs h=>zp.k7 C (zdd 16 (.str []) 0) (N 377) (N 378) (N 379) (N 375) (N 380) (N 381) (N 382) (N 383) (N 384) (N 385) Q Y1 (s 0) (s 1) (s 2) (s 3) (s 8) (s 9) (s 10) h) r (λs h r=>eT k (λs h=>zp.k6 C (zdd 16 (.str []) 0) (N 377) (N 378) (N 379) (N 375) (N 380) (N 381) (N 382) (N 383) (N 384) (N 385) Q Y1 (s 0) (s 1) (s 2) (s 3) (s 8) (s 9) (s 10) h) r (λs h r=>eT k (λs h=>zp.k5 C (zdd 16 (.str []) 0) (N 377) (N 378) (N 379) (N 375) (N 380) (N 381) (N 382) (N 383) (N 384) (N 385) Q Y1 (s 0) (s 1) (s 2) (s 3) (s 8) (s 9) (s 10) h) r (λs h r=>eT k (λs h=>zp.k4 C (zdd 16 (.str []) 0) (N 377) (N 378) (N 379) (N 375) (N 380) (N 381) (N 382) (N 383) (N 384) (N 385) Q Y1 (s 0) (s 1) (s 2) (s 3) (s 8) (s 9) (s 10) h) r (λs h r=>eT k (λs h=>zp.k3 C (zdd 16 (.str []) 0) (N 377) (N 378) (N 379) (N 375) (N 380) (N 381) (N 382) (N 383) (N 384) (N 385) Q Y1 (s 0) (s 1) (s 2) (s 3) (s 8) (s 9) (s 10) (s 11) (s 12) h) r (λs h r=>eT k (λs h=>zp.k2 C (zdd 16 (.str []) 0) (N 377) (N 378) (N 379) (N 375) (N 380) (N 381) (N 382) (N 383) (N 384) (N 385) Q Y1 (s 0) (s 1) (s 2) (s 3) (s 8) (s 9) (s 10) (s 11) (s 12) h) r (λs h r=>eT k (λs h=>zp.k1 C (zdd 16 (.str []) 0) (N 377) (N 378) (N 379) (N 375) (N 380) (N 381) (N 382) (N 383) (N 384) (N 385) Q Y1 (s 0) (s 1) (s 2) (s 3) (s 8) (s 9) (s 10) (s 11) h) r (λs h r=>e1 r))))))))))))
theorem zcu.imp:zcu.Imp (AC P) N:=λa b c d h Q r=>eF mixed (fn:=Tryz.f84) (λk=>zcu.L k (dn Q) (zbx [a,b,c,d]) h r)
def zcw.I:Bx:=⟨[],[],13,[]⟩
theorem zcw.L:LkT P zcw.I Tryz.f85 λC Q s h=>zcw.cps C N (s 0) (s 1) h Q:=λ{C} k Q s h r=>eT k (λs h=>zrx C (s 1) (W1 λb h Z1=>zcz.r2 C (zdd 8 (.int .i64 0) 0) Q (s 2) b h Z1) h (RK [(0,λh=>B.ld h (s 2) λa=>Q a h)])) r (λs h r=>eS k (λs h=>B.ld h (s 2) λa=>Q a h) (eT k (λs h=>zrx C (s 6) (W1 λb h Z1=>zcz.r2 C (zdd 8 (.int .i64 0) 0) Q (s 2) b h Z1) h (RK [(0,λh=>B.ld h (s 2) λa=>Q a h)])) r (λs h r=>eK (eR1 k 6 7 [2] (λkv b h Z1=>match kv with|[c]=>zcz.r2 C (zdd 8 (.int .i64 0) 0) Q c b h Z1|_=>False) r (rk_cons (λh r=>e0 r) rk_nil) (λZ1 s h r=>e1 r)))) (λs h r=>e1 r))
theorem zcw.imp:zcw.Imp (AC P) N:=λa b h Q r=>eF mixed (fn:=Tryz.f85) (λk=>zcw.L k (dn Q) (zbx [a,b]) h r)
def zb4.I:Bx:=⟨[],[],49,[(4,pz [] 15),(6,pz [] 18)]⟩
theorem zb4.L:LkT P zb4.I Tryz.f86 λC Q s h=>zb4.cps C N (s 0) (s 1) (s 2) h Q:=λ{C} k Q s h r=>eT k (λs h=>zq (zbb.l3 C (zdd 8 (.int .i64 0) 0) (N 534) Q (s 0) (s 1) (s 2)) [(s 6)] h) r (λs h r=>eK (eL k [0,1,2] [6] (on3 (zbb.l3 C (zdd 8 (.int .i64 0) 0) (N 534) Q)) r (λY1 s h r=>eT k (λs h=>zq (zbb.l2 C (zdd 8 (.int .i64 0) 0) (N 534) Q Y1 (s 0) (s 1) (s 2) (s 6)) [(s 6)] h) r (λs h r=>eS k (λs h=>B.pv (V.bin .add (s 6) (.int .i64 1)) λa=>Y1 [a] h) (eK (eT k (λs h=>zq (zbb.l2 C (zdd 8 (.int .i64 0) 0) (N 534) Q Y1 (s 0) (s 1) (s 2) (s 6)) [(s 7)] h) r (λs h r=>eK (eL k [0,1,2,6] [7] (on4 (zbb.l2 C (zdd 8 (.int .i64 0) 0) (N 534) Q Y1)) r (λY2 s h r=>e1 r))))) (λs h r=>e1 r)))))
theorem zb4.imp:zb4.Imp (AC P) N:=λa b c h Q r=>eF mixed (fn:=Tryz.f86) (λk=>zb4.L k (dn Q) (zbx [a,b,c]) h r)
def zcv.I:Bx:=⟨[],[],56,[(10,pz [] 20)]⟩
theorem zcv.L:LkT P zcv.I Tryz.f87 λC Q s h=>zcv.cps C N (s 0) (s 1) (s 2) h Q:=λ{C} k Q s h r=>eT k (λs h=>B.pv (V.bin .sub (s 2) (s 1)) λa=>z7.k5 C (zdd 8 (.int .i64 0) 0) (N 543) Q (s 0) (s 6) (.int .i64 0) a h) r (λs h r=>eT k (λs h=>B.pv (V.bin .sub (s 2) (s 1)) λa=>z7.k5 C (zdd 8 (.int .i64 0) 0) (N 543) Q (s 0) (s 6) (s 7) a h) r (λs h r=>eT k (λs h=>z7.k5 C (zdd 8 (.int .i64 0) 0) (N 543) Q (s 0) (s 6) (s 7) (s 8) h) r (λs h r=>eS k (λs h=>B.pv (V.bin .sub (s 8) (.int .i64 1)) λb=>zq (z7.l2 C (zdd 8 (.int .i64 0) 0) (N 543) Q (s 0) (s 6) (s 7)) [b] h) (eT k (λs h=>zq (z7.l4 C (zdd 8 (.int .i64 0) 0) (N 543) Q (s 0) (s 6) (s 7) (s 8)) [(s 9)] h) r (λs h r=>eK (eL k [0,6,7,8] [9] (on4 (z7.l4 C (zdd 8 (.int .i64 0) 0) (N 543) Q)) r (λY2 s h r=>e1 r)))) (λs h r=>eT k (λs h=>zq (z7.l2 C (zdd 8 (.int .i64 0) 0) (N 543) Q (s 0) (s 6) (s 7)) [(s 10)] h) r (λs h r=>eK (eL k [0,6,7] [10] (on3 (z7.l2 C (zdd 8 (.int .i64 0) 0) (N 543) Q)) r (λY1 s h r=>e1 r)))))))
theorem zcv.imp:zcv.Imp (AC P) N:=λa b c h Q r=>eF mixed (fn:=Tryz.f87) (λk=>zcv.L k (dn Q) (zbx [a,b,c]) h r)
def zb5.I:Bx:=⟨[],[],65,[(10,pz [] 20)]⟩
theorem zb5.L:LkT P zb5.I Tryz.f88 λC Q s h=>zb5.cps C N (s 0) (s 1) (s 2) h Q:=λ{C} k Q s h r=>eT k (λs h=>B.pv (V.bin .geq (s 6) (.int .i64 8)) λa=>B.cond a (zi.k7 C (zdd 8 (.int .i64 0) 0) (N 298) (N 299) Q (s 0) (s 1) (s 6) h) (Q (.tup []) h)) r (λs h r=>eT k (λs h=>B.cond (s 15) (zi.k7 C (zdd 8 (.int .i64 0) 0) (N 298) (N 299) Q (s 0) (s 1) (s 6) h) (Q (.tup []) h)) r (λs h r=>eC 15 r (λr=>eT k (λs h=>B.call C (N 299) [(s 6)] h λb h=>zi.k6 C (zdd 8 (.int .i64 0) 0) (N 298) (N 299) Q (s 0) (s 1) (s 6) (s 7) b h) r (λs h r=>eT k (λs h=>zi.k6 C (zdd 8 (.int .i64 0) 0) (N 298) (N 299) Q (s 0) (s 1) (s 6) (s 7) (s 8) h) r (λs h r=>eT k (λs h=>zq (zi.l5 C (zdd 8 (.int .i64 0) 0) (N 298) (N 299) Q (s 0) (s 1) (s 6) (s 7) (s 8)) [(s 9)] h) r (λs h r=>eK (eL k [0,1,6,7,8] [9] (on5 (zi.l5 C (zdd 8 (.int .i64 0) 0) (N 298) (N 299) Q)) r (λY1 s h r=>eT k (λs h=>zi.k3 C (zdd 8 (.int .i64 0) 0) (N 298) (N 299) Q Y1 (s 0) (s 1) (s 6) (s 7) (s 8) (s 9) h) r (λs h r=>eS k (λs h=>B.pv (V.bin .add (s 9) (.int .i64 1)) λc=>Y1 [c] h) (eK (eT k (λs h=>zi.k2 C (zdd 8 (.int .i64 0) 0) (N 298) (N 299) Q Y1 (s 0) (s 1) (s 6) (s 7) (s 8) (s 9) (s 10) h) r (λs h r=>eT k (λs h=>zi.k1 C (zdd 8 (.int .i64 0) 0) (N 298) (N 299) Q Y1 (s 0) (s 1) (s 6) (s 7) (s 8) (s 9) (s 10) h) r (λs h r=>e1 r)))) (λs h r=>e1 r)))))))) (λr=>e1 r)))
theorem zb5.imp:zb5.Imp (AC P) N:=λa b c h Q r=>eF mixed (fn:=Tryz.f88) (λk=>zb5.L k (dn Q) (zbx [a,b,c]) h r)
def zca.I:Bx:=⟨[],[],57,[]⟩
theorem zca.L:LkT P zca.I Tryz.f89 λC Q s h=>zca.cps C N (s 0) (s 1) (s 2) h Q:=λ{C} k Q s h r=>eT k (λs h=>B.pv (V.bin .sub (s 2) (s 1)) λb=>B.zha h (some [.int .i64 0]) λa h=>zt.k5 C (zdd 8 (.int .i64 0) 0) (N 544) (N 545) Q (s 0) (s 1) b (.ptr a 0 0) h) r (λs h r=>eT k (λs h=>B.zha h (some [.int .i64 0]) λa h=>zt.k5 C (zdd 8 (.int .i64 0) 0) (N 544) (N 545) Q (s 0) (s 1) (s 8) (.ptr a 0 0) h) r (λs h r=>eT k (λs h=>zt.k5 C (zdd 8 (.int .i64 0) 0) (N 544) (N 545) Q (s 0) (s 1) (s 8) (s 9) h) r (λs h r=>eT k (λs h=>zt.k4 C (zdd 8 (.int .i64 0) 0) (N 544) (N 545) Q (s 0) (s 1) (s 8) (s 9) (s 10) h) r (λs h r=>eT k (λs h=>zt.k3 C (zdd 8 (.int .i64 0) 0) (N 544) (N 545) Q (s 0) (s 1) (s 8) (s 9) (s 10) (s 11) h) r (λs h r=>eT k (λs h=>zt.k2 C (zdd 8 (.int .i64 0) 0) (N 544) (N 545) Q (s 0) (s 8) (s 9) (s 10) (s 11) (s 12) h) r (λs h r=>eT k (λs h=>zt.k1 C (zdd 8 (.int .i64 0) 0) (N 544) (N 545) Q (s 9) (s 11) h) r (λs h r=>e1 r)))))))
theorem zca.imp:zca.Imp (AC P) N:=λa b c h Q r=>eF mixed (fn:=Tryz.f89) (λk=>zca.L k (dn Q) (zbx [a,b,c]) h r)
def zb7.I:Bx:=⟨[],[],32,[(3,pz [] 16)]⟩
theorem zb7.L:LkT P zb7.I Tryz.f90 λC Q s h=>zb7.cps C N (s 0) (s 1) (s 2) h Q:=λ{C} k Q s h r=>eT k (λs h=>B.pv (V.bin .sub (s 2) (.int .i64 1)) λa=>zq (zb3.l2 C (zdd 8 (.int .i64 0) 0) Q (s 0)) [(s 6),a] h) r (λs h r=>eT k (λs h=>zq (zb3.l2 C (zdd 8 (.int .i64 0) 0) Q (s 0)) [(s 6),(s 7)] h) r (λs h r=>eK (eL k [0] [6,7] (on1 (zb3.l2 C (zdd 8 (.int .i64 0) 0) Q)) r (λY1 s h r=>e1 r))))
theorem zb7.imp:zb7.Imp (AC P) N:=λa b c h Q r=>eF mixed (fn:=Tryz.f90) (λk=>zb7.L k (dn Q) (zbx [a,b,c]) h r)
def zbl.I:Bx:=⟨[],[],133,[(5,pz [] 16),(11,pz [] 18),(16,pz [] 11),(17,pz [] 18),(22,pz [] 11),(23,pz [] 18)]⟩
theorem zbl.L:LkT P zbl.I Tryz.f91 λC Q s h=>zbl.cps C N (s 0) (s 1) (s 2) h Q:=λ{C} k Q s h r=>eT k (λs h=>B.pv (V.bin .add (s 1) (.int .i64 1)) λc=>zq (zd.l12 C (zdd 8 (.int .i64 0) 0) (N 534) Q (s 0) (s 1) (s 2)) [c,(.int .i64 0)] h) r (λs h r=>eT k (λs h=>zq (zd.l12 C (zdd 8 (.int .i64 0) 0) (N 534) Q (s 0) (s 1) (s 2)) [(s 7),(.int .i64 0)] h) r (λs h r=>eS k (λs h=>Q (.bool false) h) (eT k (λs h=>zq (zd.l12 C (zdd 8 (.int .i64 0) 0) (N 534) Q (s 0) (s 1) (s 2)) [(s 7),(s 8)] h) r (λs h r=>eK (eL k [0,1,2] [7,8] (on3 (zd.l12 C (zdd 8 (.int .i64 0) 0) (N 534) Q)) r (λY1 s h r=>eT k (λs h=>zq (zd.l10 C (zdd 8 (.int .i64 0) 0) (N 534) Q Y1 (s 0) (s 1) (s 2) (s 8)) [(s 7)] h) r (λs h r=>eS k (λs h=>B.pv (V.bin .add (s 8) (.int .i64 1)) λa=>Y1 [(s 7),a] h) (eK (eS k (λs h=>B.pv (V.bin .eql (s 7) (s 2)) λd=>B.cond d (Q (.bool true) h) (zd.k8 C (zdd 8 (.int .i64 0) 0) (N 534) Q Y1 (s 0) (s 1) (s 2) (s 7) (s 8) h)) (eK (eL k [0,1,2,8] [7] (on4 (zd.l10 C (zdd 8 (.int .i64 0) 0) (N 534) Q Y1)) r (λY4 s h r=>e1 r))) (λs h r=>eT k (λs h=>zd.k8 C (zdd 8 (.int .i64 0) 0) (N 534) Q Y1 (s 0) (s 1) (s 2) (s 7) (s 8) h) r (λs h r=>eT k (λs h=>zd.k7 C (zdd 8 (.int .i64 0) 0) (N 534) Q Y1 (s 0) (s 1) (s 2) (s 7) (s 8) h) r (λs h r=>eT k (λs h=>zd.k6 C (zdd 8 (.int .i64 0) 0) (N 534) Q Y1 (s 0) (s 1) (s 2) (s 7) (s 8) h) r (λs h r=>eS k (λs h=>zd.k3 C (zdd 8 (.int .i64 0) 0) (N 534) Q Y1 (s 0) (s 1) (s 2) (s 7) (s 8) h) (eT k (λs h=>B.cond (s 61) (B.pv (V.bin .sub (s 7) (.int .i64 1)) λe=>zq (zd.l5 C (zdd 8 (.int .i64 0) 0) (N 534) Q Y1 (s 0) (s 1) (s 2) (s 7) (s 8)) [e] h) (zd.k3 C (zdd 8 (.int .i64 0) 0) (N 534) Q Y1 (s 0) (s 1) (s 2) (s 7) (s 8) h)) r (λs h r=>eC 61 r (λr=>eT k (λs h=>zq (zd.l5 C (zdd 8 (.int .i64 0) 0) (N 534) Q Y1 (s 0) (s 1) (s 2) (s 7) (s 8)) [(s 9)] h) r (λs h r=>eK (eL k [0,1,2,7,8] [9] (on5 (zd.l5 C (zdd 8 (.int .i64 0) 0) (N 534) Q Y1)) r (λY3 s h r=>e1 r)))) (λr=>e1 r))) (λs h r=>eT k (λs h=>B.cond (s 98) (B.pv (V.bin .add (s 7) (.int .i64 1)) λb=>zq (zd.l2 C (zdd 8 (.int .i64 0) 0) (N 534) Q Y1 (s 0) (s 1) (s 2) (s 7) (s 8)) [b] h) (B.pv (V.bin .add (s 8) (.int .i64 1)) λa=>Y1 [(s 7),a] h)) r (λs h r=>eC 98 r (λr=>eT k (λs h=>zq (zd.l2 C (zdd 8 (.int .i64 0) 0) (N 534) Q Y1 (s 0) (s 1) (s 2) (s 7) (s 8)) [(s 10)] h) r (λs h r=>eK (eL k [0,1,2,7,8] [10] (on5 (zd.l2 C (zdd 8 (.int .i64 0) 0) (N 534) Q Y1)) r (λY2 s h r=>e1 r)))) (λr=>e1 r))))))))) (λs h r=>e1 r)))))) (λs h r=>e1 r)))
theorem zbl.imp:zbl.Imp (AC P) N:=λa b c h Q r=>eF mixed (fn:=Tryz.f91) (λk=>zbl.L k (dn Q) (zbx [a,b,c]) h r)
def zdu.I:Bx:=⟨[],[],17,[]⟩
theorem zdu.L:LkT P zdu.I Tryz.f92 λC Q s h=>zdu.cps C N (s 0) (s 1) h Q:=λ{C} k Q s h r=>e1 r
theorem zdu.imp:zdu.Imp (AC P) N:=λa b h Q r=>eF mixed (fn:=Tryz.f92) (λk=>zdu.L k (dn Q) (zbx [a,b]) h r)
def zby.I:Bx:=⟨[],[],84,[(1,pz [] 16),(3,pz [] 15),(5,pz [] 14),(8,pz [] 16)]⟩
theorem zby.L:LkT P zby.I Tryz.f93 λC Q s h=>zby.cps C N (s 0) (s 1) (s 2) (s 3) h Q:=λ{C} k Q s h r=>eT k (λs h=>zk.k8 C (zdd 8 (.int .i64 0) 0) (N 534) Q (s 0) (s 1) (s 2) (s 3) h) r (λs h r=>eT k (λs h=>zk.k7 C (zdd 8 (.int .i64 0) 0) (N 534) Q (s 0) (s 1) (s 2) h) r (λs h r=>eT k (λs h=>zq (zk.l6 C (zdd 8 (.int .i64 0) 0) (N 534) Q (s 0) (s 1)) [(s 9),(s 10)] h) r (λs h r=>eS k (λs h=>Q (s 9) h) (eK (eL k [0,1] [9,10] (on2 (zk.l6 C (zdd 8 (.int .i64 0) 0) (N 534) Q)) r (λY1 s h r=>eK (eS k (λs h=>zq (zk.l3 C (zdd 8 (.int .i64 0) 0) (N 534) Q Y1 (s 0) (s 1) (s 9)) [(s 10)] h) (eK (eL k [0,1,10] [9] (on3 (zk.l5 C (zdd 8 (.int .i64 0) 0) (N 534) Q Y1)) r (λY3 s h r=>e1 r))) (λs h r=>eS k (λs h=>zk.k1 C (zdd 8 (.int .i64 0) 0) (N 534) Q Y1 (s 0) (s 1) (s 9) (s 10) h) (eK (eL k [0,1,9] [10] (on3 (zk.l3 C (zdd 8 (.int .i64 0) 0) (N 534) Q Y1)) r (λY2 s h r=>e1 r))) (λs h r=>e1 r)))))) (λs h r=>e1 r))))
theorem zby.imp:zby.Imp (AC P) N:=λa b c d h Q r=>eF mixed (fn:=Tryz.f93) (λk=>zby.L k (dn Q) (zbx [a,b,c,d]) h r)
def zcm.I:Bx:=⟨[],[],168,[(1,pz [] 16),(3,pz [] 14),(5,pz [] 15),(8,pz [] 16),(10,pz [] 16),(13,pz [] 14),(15,pz [] 15),(18,pz [] 16),(21,pz [] 16)]⟩
theorem zcm.L:LkT P zcm.I Tryz.f94 λC Q s h=>zcm.cps C N (s 0) (s 1) (s 2) (s 3) h Q:=λ{C} k Q s h r=>eT k (λs h=>zf.k16 C (zdd 8 (.int .i64 0) 0) (N 534) Q (s 0) (s 1) (s 2) (s 3) h) r (λs h r=>eT k (λs h=>zf.k15 C (zdd 8 (.int .i64 0) 0) (N 534) Q (s 0) (s 1) (s 2) h) r (λs h r=>eT k (λs h=>zq (zf.l14 C (zdd 8 (.int .i64 0) 0) (N 534) Q (s 0) (s 1) (s 11)) [(s 10)] h) r (λs h r=>eS k (λs h=>zq (zf.l12 C (zdd 8 (.int .i64 0) 0) (N 534) Q (s 0) (s 1) (s 10)) [(s 11)] h) (eK (eL k [0,1,11] [10] (on3 (zf.l14 C (zdd 8 (.int .i64 0) 0) (N 534) Q)) r (λY5 s h r=>e1 r))) (λs h r=>eS k (λs h=>zf.k10 C (zdd 8 (.int .i64 0) 0) (N 534) Q (s 0) (s 1) (s 10) (s 11) h) (eK (eL k [0,1,10] [11] (on3 (zf.l12 C (zdd 8 (.int .i64 0) 0) (N 534) Q)) r (λY4 s h r=>e1 r))) (λs h r=>eT k (λs h=>zf.k9 C (zdd 8 (.int .i64 0) 0) (N 534) Q (s 0) (s 1) (s 10) (s 11) h) r (λs h r=>eT k (λs h=>zf.k8 C (zdd 8 (.int .i64 0) 0) (N 534) Q (s 0) (s 1) (s 10) (s 11) h) r (λs h r=>eT k (λs h=>B.pv (V.bin .sub (s 11) (.int .i64 1)) λa=>zq (zf.l7 C (zdd 8 (.int .i64 0) 0) (N 534) Q (s 0) (s 1)) [(s 10),a] h) r (λs h r=>eT k (λs h=>zq (zf.l7 C (zdd 8 (.int .i64 0) 0) (N 534) Q (s 0) (s 1)) [(s 10),(s 11)] h) r (λs h r=>eS k (λs h=>zf.k1 C (zdd 8 (.int .i64 0) 0) (N 534) Q (s 0) (s 1) (s 11) h) (eK (eL k [0,1] [10,11] (on2 (zf.l7 C (zdd 8 (.int .i64 0) 0) (N 534) Q)) r (λY1 s h r=>eK (eS k (λs h=>zq (zf.l4 C (zdd 8 (.int .i64 0) 0) (N 534) Q Y1 (s 0) (s 1) (s 10)) [(s 11)] h) (eK (eL k [0,1,11] [10] (on3 (zf.l6 C (zdd 8 (.int .i64 0) 0) (N 534) Q Y1)) r (λY3 s h r=>e1 r))) (λs h r=>eS k (λs h=>zf.k2 C (zdd 8 (.int .i64 0) 0) (N 534) Q Y1 (s 0) (s 1) (s 10) (s 11) h) (eK (eL k [0,1,10] [11] (on3 (zf.l4 C (zdd 8 (.int .i64 0) 0) (N 534) Q Y1)) r (λY2 s h r=>e1 r))) (λs h r=>e1 r)))))) (λs h r=>e1 r))))))))))
theorem zcm.imp:zcm.Imp (AC P) N:=λa b c d h Q r=>eF mixed (fn:=Tryz.f94) (λk=>zcm.L k (dn Q) (zbx [a,b,c,d]) h r)
def zbn.I:Bx:=⟨[],[],25,[]⟩
theorem zbn.L:LkT P zbn.I Tryz.f96 λC Q s h=>zbn.cps C N (s 0) h Q:=λ{C} k Q s h r=>eT k (λs h=>zbn.k4 C N Q (s 0) (s 2) h) r (λs h r=>eT k (λs h=>zbn.k3 C N Q (s 0) (s 2) h) r (λs h r=>eT k (λs h=>zbn.k2 C N Q (s 0) (s 2) h) r (λs h r=>eT k (λs h=>zbn.k1 C N Q (s 0) (s 2) h) r (λs h r=>e1 r))))
theorem zbn.imp:zbn.Imp (AC P) N:=λa h Q r=>eF mixed (fn:=Tryz.f96) (λk=>zbn.L k (dn Q) (zbx [a]) h r)
def zgs.I:Bx:=⟨[],[],10,[]⟩
theorem zgs.L:LkT P zgs.I Tryz.f97 λC Q s h=>zgs.cps C N (s 0) (s 1) h Q:=λ{C} k Q s h r=>e1 r
theorem zgs.imp:zgs.Imp (AC P) N:=λa b h Q r=>eF mixed (fn:=Tryz.f97) (λk=>zgs.L k (dn Q) (zbx [a,b]) h r)
def zb0.I:Bx:=⟨[],[],49,[(4,pz [] 15),(6,pz [] 18)]⟩
theorem zb0.L:LkT P zb0.I Tryz.f126 λC Q s h=>zb0.cps C N (s 0) (s 1) (s 2) h Q:=λ{C} k Q s h r=>eT k (λs h=>zq (zbb.l3 C (zdd 16 (.str []) 0) (N 377) Q (s 0) (s 1) (s 2)) [(s 6)] h) r (λs h r=>eK (eL k [0,1,2] [6] (on3 (zbb.l3 C (zdd 16 (.str []) 0) (N 377) Q)) r (λY1 s h r=>eT k (λs h=>zq (zbb.l2 C (zdd 16 (.str []) 0) (N 377) Q Y1 (s 0) (s 1) (s 2) (s 6)) [(s 6)] h) r (λs h r=>eS k (λs h=>B.pv (V.bin .add (s 6) (.int .i64 1)) λa=>Y1 [a] h) (eK (eT k (λs h=>zq (zbb.l2 C (zdd 16 (.str []) 0) (N 377) Q Y1 (s 0) (s 1) (s 2) (s 6)) [(s 7)] h) r (λs h r=>eK (eL k [0,1,2,6] [7] (on4 (zbb.l2 C (zdd 16 (.str []) 0) (N 377) Q Y1)) r (λY2 s h r=>e1 r))))) (λs h r=>e1 r)))))
theorem zb0.imp:zb0.Imp (AC P) N:=λa b c h Q r=>eF mixed (fn:=Tryz.f126) (λk=>zb0.L k (dn Q) (zbx [a,b,c]) h r)
def zcn.I:Bx:=⟨[],[],56,[(10,pz [] 20)]⟩
theorem zcn.L:LkT P zcn.I Tryz.f127 λC Q s h=>zcn.cps C N (s 0) (s 1) (s 2) h Q:=λ{C} k Q s h r=>eT k (λs h=>B.pv (V.bin .sub (s 2) (s 1)) λa=>z7.k5 C (zdd 16 (.str []) 0) (N 386) Q (s 0) (s 6) (.int .i64 0) a h) r (λs h r=>eT k (λs h=>B.pv (V.bin .sub (s 2) (s 1)) λa=>z7.k5 C (zdd 16 (.str []) 0) (N 386) Q (s 0) (s 6) (s 7) a h) r (λs h r=>eT k (λs h=>z7.k5 C (zdd 16 (.str []) 0) (N 386) Q (s 0) (s 6) (s 7) (s 8) h) r (λs h r=>eS k (λs h=>B.pv (V.bin .sub (s 8) (.int .i64 1)) λb=>zq (z7.l2 C (zdd 16 (.str []) 0) (N 386) Q (s 0) (s 6) (s 7)) [b] h) (eT k (λs h=>zq (z7.l4 C (zdd 16 (.str []) 0) (N 386) Q (s 0) (s 6) (s 7) (s 8)) [(s 9)] h) r (λs h r=>eK (eL k [0,6,7,8] [9] (on4 (z7.l4 C (zdd 16 (.str []) 0) (N 386) Q)) r (λY2 s h r=>e1 r)))) (λs h r=>eT k (λs h=>zq (z7.l2 C (zdd 16 (.str []) 0) (N 386) Q (s 0) (s 6) (s 7)) [(s 10)] h) r (λs h r=>eK (eL k [0,6,7] [10] (on3 (z7.l2 C (zdd 16 (.str []) 0) (N 386) Q)) r (λY1 s h r=>e1 r)))))))
theorem zcn.imp:zcn.Imp (AC P) N:=λa b c h Q r=>eF mixed (fn:=Tryz.f127) (λk=>zcn.L k (dn Q) (zbx [a,b,c]) h r)
def zb1.I:Bx:=⟨[],[],65,[(10,pz [] 20)]⟩
theorem zb1.L:LkT P zb1.I Tryz.f128 λC Q s h=>zb1.cps C N (s 0) (s 1) (s 2) h Q:=λ{C} k Q s h r=>eT k (λs h=>B.pv (V.bin .geq (s 6) (.int .i64 8)) λa=>B.cond a (zi.k7 C (zdd 16 (.str []) 0) (N 298) (N 299) Q (s 0) (s 1) (s 6) h) (Q (.tup []) h)) r (λs h r=>eT k (λs h=>B.cond (s 15) (zi.k7 C (zdd 16 (.str []) 0) (N 298) (N 299) Q (s 0) (s 1) (s 6) h) (Q (.tup []) h)) r (λs h r=>eC 15 r (λr=>eT k (λs h=>B.call C (N 299) [(s 6)] h λb h=>zi.k6 C (zdd 16 (.str []) 0) (N 298) (N 299) Q (s 0) (s 1) (s 6) (s 7) b h) r (λs h r=>eT k (λs h=>zi.k6 C (zdd 16 (.str []) 0) (N 298) (N 299) Q (s 0) (s 1) (s 6) (s 7) (s 8) h) r (λs h r=>eT k (λs h=>zq (zi.l5 C (zdd 16 (.str []) 0) (N 298) (N 299) Q (s 0) (s 1) (s 6) (s 7) (s 8)) [(s 9)] h) r (λs h r=>eK (eL k [0,1,6,7,8] [9] (on5 (zi.l5 C (zdd 16 (.str []) 0) (N 298) (N 299) Q)) r (λY1 s h r=>eT k (λs h=>zi.k3 C (zdd 16 (.str []) 0) (N 298) (N 299) Q Y1 (s 0) (s 1) (s 6) (s 7) (s 8) (s 9) h) r (λs h r=>eS k (λs h=>B.pv (V.bin .add (s 9) (.int .i64 1)) λc=>Y1 [c] h) (eK (eT k (λs h=>zi.k2 C (zdd 16 (.str []) 0) (N 298) (N 299) Q Y1 (s 0) (s 1) (s 6) (s 7) (s 8) (s 9) (s 10) h) r (λs h r=>eT k (λs h=>zi.k1 C (zdd 16 (.str []) 0) (N 298) (N 299) Q Y1 (s 0) (s 1) (s 6) (s 7) (s 8) (s 9) (s 10) h) r (λs h r=>e1 r)))) (λs h r=>e1 r)))))))) (λr=>e1 r)))
theorem zb1.imp:zb1.Imp (AC P) N:=λa b c h Q r=>eF mixed (fn:=Tryz.f128) (λk=>zb1.L k (dn Q) (zbx [a,b,c]) h r)
def zb8.I:Bx:=⟨[],[],57,[]⟩
theorem zb8.L:LkT P zb8.I Tryz.f129 λC Q s h=>zb8.cps C N (s 0) (s 1) (s 2) h Q:=λ{C} k Q s h r=>eT k (λs h=>B.pv (V.bin .sub (s 2) (s 1)) λb=>B.zha h (some [.int .i64 0]) λa h=>zt.k5 C (zdd 16 (.str []) 0) (N 387) (N 388) Q (s 0) (s 1) b (.ptr a 0 0) h) r (λs h r=>eT k (λs h=>B.zha h (some [.int .i64 0]) λa h=>zt.k5 C (zdd 16 (.str []) 0) (N 387) (N 388) Q (s 0) (s 1) (s 8) (.ptr a 0 0) h) r (λs h r=>eT k (λs h=>zt.k5 C (zdd 16 (.str []) 0) (N 387) (N 388) Q (s 0) (s 1) (s 8) (s 9) h) r (λs h r=>eT k (λs h=>zt.k4 C (zdd 16 (.str []) 0) (N 387) (N 388) Q (s 0) (s 1) (s 8) (s 9) (s 10) h) r (λs h r=>eT k (λs h=>zt.k3 C (zdd 16 (.str []) 0) (N 387) (N 388) Q (s 0) (s 1) (s 8) (s 9) (s 10) (s 11) h) r (λs h r=>eT k (λs h=>zt.k2 C (zdd 16 (.str []) 0) (N 387) (N 388) Q (s 0) (s 8) (s 9) (s 10) (s 11) (s 12) h) r (λs h r=>eT k (λs h=>zt.k1 C (zdd 16 (.str []) 0) (N 387) (N 388) Q (s 9) (s 11) h) r (λs h r=>e1 r)))))))
theorem zb8.imp:zb8.Imp (AC P) N:=λa b c h Q r=>eF mixed (fn:=Tryz.f129) (λk=>zb8.L k (dn Q) (zbx [a,b,c]) h r)
def zb2.I:Bx:=⟨[],[],32,[(3,pz [] 16)]⟩
theorem zb2.L:LkT P zb2.I Tryz.f130 λC Q s h=>zb2.cps C N (s 0) (s 1) (s 2) h Q:=λ{C} k Q s h r=>eT k (λs h=>B.pv (V.bin .sub (s 2) (.int .i64 1)) λa=>zq (zb3.l2 C (zdd 16 (.str []) 0) Q (s 0)) [(s 6),a] h) r (λs h r=>eT k (λs h=>zq (zb3.l2 C (zdd 16 (.str []) 0) Q (s 0)) [(s 6),(s 7)] h) r (λs h r=>eK (eL k [0] [6,7] (on1 (zb3.l2 C (zdd 16 (.str []) 0) Q)) r (λY1 s h r=>e1 r))))
theorem zb2.imp:zb2.Imp (AC P) N:=λa b c h Q r=>eF mixed (fn:=Tryz.f130) (λk=>zb2.L k (dn Q) (zbx [a,b,c]) h r)
def zbk.I:Bx:=⟨[],[],133,[(5,pz [] 16),(11,pz [] 18),(16,pz [] 11),(17,pz [] 18),(22,pz [] 11),(23,pz [] 18)]⟩
theorem zbk.L:LkT P zbk.I Tryz.f131 λC Q s h=>zbk.cps C N (s 0) (s 1) (s 2) h Q:=λ{C} k Q s h r=>eT k (λs h=>B.pv (V.bin .add (s 1) (.int .i64 1)) λc=>zq (zd.l12 C (zdd 16 (.str []) 0) (N 377) Q (s 0) (s 1) (s 2)) [c,(.int .i64 0)] h) r (λs h r=>eT k (λs h=>zq (zd.l12 C (zdd 16 (.str []) 0) (N 377) Q (s 0) (s 1) (s 2)) [(s 7),(.int .i64 0)] h) r (λs h r=>eS k (λs h=>Q (.bool false) h) (eT k (λs h=>zq (zd.l12 C (zdd 16 (.str []) 0) (N 377) Q (s 0) (s 1) (s 2)) [(s 7),(s 8)] h) r (λs h r=>eK (eL k [0,1,2] [7,8] (on3 (zd.l12 C (zdd 16 (.str []) 0) (N 377) Q)) r (λY1 s h r=>eT k (λs h=>zq (zd.l10 C (zdd 16 (.str []) 0) (N 377) Q Y1 (s 0) (s 1) (s 2) (s 8)) [(s 7)] h) r (λs h r=>eS k (λs h=>B.pv (V.bin .add (s 8) (.int .i64 1)) λa=>Y1 [(s 7),a] h) (eK (eS k (λs h=>B.pv (V.bin .eql (s 7) (s 2)) λd=>B.cond d (Q (.bool true) h) (zd.k8 C (zdd 16 (.str []) 0) (N 377) Q Y1 (s 0) (s 1) (s 2) (s 7) (s 8) h)) (eK (eL k [0,1,2,8] [7] (on4 (zd.l10 C (zdd 16 (.str []) 0) (N 377) Q Y1)) r (λY4 s h r=>e1 r))) (λs h r=>eT k (λs h=>zd.k8 C (zdd 16 (.str []) 0) (N 377) Q Y1 (s 0) (s 1) (s 2) (s 7) (s 8) h) r (λs h r=>eT k (λs h=>zd.k7 C (zdd 16 (.str []) 0) (N 377) Q Y1 (s 0) (s 1) (s 2) (s 7) (s 8) h) r (λs h r=>eT k (λs h=>zd.k6 C (zdd 16 (.str []) 0) (N 377) Q Y1 (s 0) (s 1) (s 2) (s 7) (s 8) h) r (λs h r=>eS k (λs h=>zd.k3 C (zdd 16 (.str []) 0) (N 377) Q Y1 (s 0) (s 1) (s 2) (s 7) (s 8) h) (eT k (λs h=>B.cond (s 61) (B.pv (V.bin .sub (s 7) (.int .i64 1)) λe=>zq (zd.l5 C (zdd 16 (.str []) 0) (N 377) Q Y1 (s 0) (s 1) (s 2) (s 7) (s 8)) [e] h) (zd.k3 C (zdd 16 (.str []) 0) (N 377) Q Y1 (s 0) (s 1) (s 2) (s 7) (s 8) h)) r (λs h r=>eC 61 r (λr=>eT k (λs h=>zq (zd.l5 C (zdd 16 (.str []) 0) (N 377) Q Y1 (s 0) (s 1) (s 2) (s 7) (s 8)) [(s 9)] h) r (λs h r=>eK (eL k [0,1,2,7,8] [9] (on5 (zd.l5 C (zdd 16 (.str []) 0) (N 377) Q Y1)) r (λY3 s h r=>e1 r)))) (λr=>e1 r))) (λs h r=>eT k (λs h=>B.cond (s 98) (B.pv (V.bin .add (s 7) (.int .i64 1)) λb=>zq (zd.l2 C (zdd 16 (.str []) 0) (N 377) Q Y1 (s 0) (s 1) (s 2) (s 7) (s 8)) [b] h) (B.pv (V.bin .add (s 8) (.int .i64 1)) λa=>Y1 [(s 7),a] h)) r (λs h r=>eC 98 r (λr=>eT k (λs h=>zq (zd.l2 C (zdd 16 (.str []) 0) (N 377) Q Y1 (s 0) (s 1) (s 2) (s 7) (s 8)) [(s 10)] h) r (λs h r=>eK (eL k [0,1,2,7,8] [10] (on5 (zd.l2 C (zdd 16 (.str []) 0) (N 377) Q Y1)) r (λY2 s h r=>e1 r)))) (λr=>e1 r))))))))) (λs h r=>e1 r)))))) (λs h r=>e1 r)))
theorem zbk.imp:zbk.Imp (AC P) N:=λa b c h Q r=>eF mixed (fn:=Tryz.f131) (λk=>zbk.L k (dn Q) (zbx [a,b,c]) h r)
def zdn.I:Bx:=⟨[],[],17,[]⟩
theorem zdn.L:LkT P zdn.I Tryz.f132 λC Q s h=>zdn.cps C N (s 0) (s 1) h Q:=λ{C} k Q s h r=>e1 r
theorem zdn.imp:zdn.Imp (AC P) N:=λa b h Q r=>eF mixed (fn:=Tryz.f132) (λk=>zdn.L k (dn Q) (zbx [a,b]) h r)
def zbv.I:Bx:=⟨[],[],84,[(1,pz [] 16),(3,pz [] 15),(5,pz [] 14),(8,pz [] 16)]⟩
theorem zbv.L:LkT P zbv.I Tryz.f133 λC Q s h=>zbv.cps C N (s 0) (s 1) (s 2) (s 3) h Q:=λ{C} k Q s h r=>eT k (λs h=>zk.k8 C (zdd 16 (.str []) 0) (N 377) Q (s 0) (s 1) (s 2) (s 3) h) r (λs h r=>eT k (λs h=>zk.k7 C (zdd 16 (.str []) 0) (N 377) Q (s 0) (s 1) (s 2) h) r (λs h r=>eT k (λs h=>zq (zk.l6 C (zdd 16 (.str []) 0) (N 377) Q (s 0) (s 1)) [(s 9),(s 10)] h) r (λs h r=>eS k (λs h=>Q (s 9) h) (eK (eL k [0,1] [9,10] (on2 (zk.l6 C (zdd 16 (.str []) 0) (N 377) Q)) r (λY1 s h r=>eK (eS k (λs h=>zq (zk.l3 C (zdd 16 (.str []) 0) (N 377) Q Y1 (s 0) (s 1) (s 9)) [(s 10)] h) (eK (eL k [0,1,10] [9] (on3 (zk.l5 C (zdd 16 (.str []) 0) (N 377) Q Y1)) r (λY3 s h r=>e1 r))) (λs h r=>eS k (λs h=>zk.k1 C (zdd 16 (.str []) 0) (N 377) Q Y1 (s 0) (s 1) (s 9) (s 10) h) (eK (eL k [0,1,9] [10] (on3 (zk.l3 C (zdd 16 (.str []) 0) (N 377) Q Y1)) r (λY2 s h r=>e1 r))) (λs h r=>e1 r)))))) (λs h r=>e1 r))))
theorem zbv.imp:zbv.Imp (AC P) N:=λa b c d h Q r=>eF mixed (fn:=Tryz.f133) (λk=>zbv.L k (dn Q) (zbx [a,b,c,d]) h r)
def zce.I:Bx:=⟨[],[],168,[(1,pz [] 16),(3,pz [] 14),(5,pz [] 15),(8,pz [] 16),(10,pz [] 16),(13,pz [] 14),(15,pz [] 15),(18,pz [] 16),(21,pz [] 16)]⟩
theorem zce.L:LkT P zce.I Tryz.f134 λC Q s h=>zce.cps C N (s 0) (s 1) (s 2) (s 3) h Q:=λ{C} k Q s h r=>eT k (λs h=>zf.k16 C (zdd 16 (.str []) 0) (N 377) Q (s 0) (s 1) (s 2) (s 3) h) r (λs h r=>eT k (λs h=>zf.k15 C (zdd 16 (.str []) 0) (N 377) Q (s 0) (s 1) (s 2) h) r (λs h r=>eT k (λs h=>zq (zf.l14 C (zdd 16 (.str []) 0) (N 377) Q (s 0) (s 1) (s 11)) [(s 10)] h) r (λs h r=>eS k (λs h=>zq (zf.l12 C (zdd 16 (.str []) 0) (N 377) Q (s 0) (s 1) (s 10)) [(s 11)] h) (eK (eL k [0,1,11] [10] (on3 (zf.l14 C (zdd 16 (.str []) 0) (N 377) Q)) r (λY5 s h r=>e1 r))) (λs h r=>eS k (λs h=>zf.k10 C (zdd 16 (.str []) 0) (N 377) Q (s 0) (s 1) (s 10) (s 11) h) (eK (eL k [0,1,10] [11] (on3 (zf.l12 C (zdd 16 (.str []) 0) (N 377) Q)) r (λY4 s h r=>e1 r))) (λs h r=>eT k (λs h=>zf.k9 C (zdd 16 (.str []) 0) (N 377) Q (s 0) (s 1) (s 10) (s 11) h) r (λs h r=>eT k (λs h=>zf.k8 C (zdd 16 (.str []) 0) (N 377) Q (s 0) (s 1) (s 10) (s 11) h) r (λs h r=>eT k (λs h=>B.pv (V.bin .sub (s 11) (.int .i64 1)) λa=>zq (zf.l7 C (zdd 16 (.str []) 0) (N 377) Q (s 0) (s 1)) [(s 10),a] h) r (λs h r=>eT k (λs h=>zq (zf.l7 C (zdd 16 (.str []) 0) (N 377) Q (s 0) (s 1)) [(s 10),(s 11)] h) r (λs h r=>eS k (λs h=>zf.k1 C (zdd 16 (.str []) 0) (N 377) Q (s 0) (s 1) (s 11) h) (eK (eL k [0,1] [10,11] (on2 (zf.l7 C (zdd 16 (.str []) 0) (N 377) Q)) r (λY1 s h r=>eK (eS k (λs h=>zq (zf.l4 C (zdd 16 (.str []) 0) (N 377) Q Y1 (s 0) (s 1) (s 10)) [(s 11)] h) (eK (eL k [0,1,11] [10] (on3 (zf.l6 C (zdd 16 (.str []) 0) (N 377) Q Y1)) r (λY3 s h r=>e1 r))) (λs h r=>eS k (λs h=>zf.k2 C (zdd 16 (.str []) 0) (N 377) Q Y1 (s 0) (s 1) (s 10) (s 11) h) (eK (eL k [0,1,10] [11] (on3 (zf.l4 C (zdd 16 (.str []) 0) (N 377) Q Y1)) r (λY2 s h r=>e1 r))) (λs h r=>e1 r)))))) (λs h r=>e1 r))))))))))
theorem zce.imp:zce.Imp (AC P) N:=λa b c d h Q r=>eF mixed (fn:=Tryz.f134) (λk=>zce.L k (dn Q) (zbx [a,b,c,d]) h r)
def zct.I:Bx:=⟨[],[],76,[(3,pz [] 20),(5,pz [] 14),(6,pz [] 24)]⟩
theorem zct.L:LkT P zct.I Tryz.f135 λC Q s h=>zct.cps C N (s 0) (s 1) (s 2) (s 3) h Q:=λ{C} k Q s h r=>eT k (λs h=>zq (zbe.l4 C (zdd 8 (.int .i64 0) 0) (N 534) Q (s 0) (s 2) (s 3)) [(s 8)] h) r (λs h r=>eK (eL k [0,2,3] [8] (on3 (zbe.l4 C (zdd 8 (.int .i64 0) 0) (N 534) Q)) r (λY1 s h r=>eK (eT k (λs h=>B.pv (V.bin .geq (s 9) (s 2)) λa=>B.cond a (Q (.tup []) h) (zbe.k2 C (zdd 8 (.int .i64 0) 0) (N 534) Q Y1 (s 0) (s 2) (s 3) (s 8) (s 9) h)) r (λs h r=>eT k (λs h=>zbe.k2 C (zdd 8 (.int .i64 0) 0) (N 534) Q Y1 (s 0) (s 2) (s 3) (s 8) (s 9) h) r (λs h r=>eT k (λs h=>zbe.k1 C (zdd 8 (.int .i64 0) 0) (N 534) Q Y1 (s 0) (s 2) (s 3) (s 8) (s 9) h) r (λs h r=>e1 r)))))))
theorem zct.imp:zct.Imp (AC P) N:=λa b c d h Q r=>eF mixed (fn:=Tryz.f135) (λk=>zct.L k (dn Q) (zbx [a,b,c,d]) h r)
def zdb.I:Bx:=⟨[],[],7,[]⟩
theorem zdb.L:LkT P zdb.I Tryz.f136 λC Q s h=>zdb.cps C N (s 0) h Q:=λ{C} k Q s h r=>e1 r
theorem zdb.imp:zdb.Imp (AC P) N:=λa h Q r=>eF mixed (fn:=Tryz.f136) (λk=>zdb.L k (dn Q) (zbx [a]) h r)
def zcq.I:Bx:=⟨[],[],33,[(1,pz [] 10),(2,pz [] 10),(3,pz [] 10)]⟩
theorem zcq.L:LkT P zcq.I Tryz.f137 λC Q s h=>zcq.cps C N (s 0) h Q:=λ{C} k Q s h r=>e1 r
theorem zcq.imp:zcq.Imp (AC P) N:=λa h Q r=>eF mixed (fn:=Tryz.f137) (λk=>zcq.L k (dn Q) (zbx [a]) h r)
def zbz.I:Bx:=⟨[],[],15,[]⟩
theorem zbz.L:LkT P zbz.I Tryz.f138 λC Q s h=>zbz.cps C N (s 0) (s 1) (s 2) h Q:=λ{C} k Q s h r=>e1 r
theorem zbz.imp:zbz.Imp (AC P) N:=λa b c h Q r=>eF mixed (fn:=Tryz.f138) (λk=>zbz.L k (dn Q) (zbx [a,b,c]) h r)
def zc9.I:Bx:=⟨[],[],36,[]⟩
theorem zc9.L:LkT P zc9.I Tryz.f139 λC Q s h=>zc9.cps C N (s 0) (s 1) (s 2) (s 3) (s 4) h Q:=λ{C} k Q s h r=>e1 r
theorem zc9.imp:zc9.Imp (AC P) N:=λa b c d e h Q r=>eF mixed (fn:=Tryz.f139) (λk=>zc9.L k (dn Q) (zbx [a,b,c,d,e]) h r)
def zdy.I:Bx:=⟨[],[],6,[]⟩
theorem zdy.L:LkT P zdy.I Tryz.f140 λC Q s h=>zdy.cps C N (s 0) h Q:=λ{C} k Q s h r=>e1 r
theorem zdy.imp:zdy.Imp (AC P) N:=λa h Q r=>eF mixed (fn:=Tryz.f140) (λk=>zdy.L k (dn Q) (zbx [a]) h r)
def zcl.I:Bx:=⟨[],[],76,[(3,pz [] 20),(5,pz [] 14),(6,pz [] 24)]⟩
theorem zcl.L:LkT P zcl.I Tryz.f150 λC Q s h=>zcl.cps C N (s 0) (s 1) (s 2) (s 3) h Q:=λ{C} k Q s h r=>eT k (λs h=>zq (zbe.l4 C (zdd 16 (.str []) 0) (N 377) Q (s 0) (s 2) (s 3)) [(s 8)] h) r (λs h r=>eK (eL k [0,2,3] [8] (on3 (zbe.l4 C (zdd 16 (.str []) 0) (N 377) Q)) r (λY1 s h r=>eK (eT k (λs h=>B.pv (V.bin .geq (s 9) (s 2)) λa=>B.cond a (Q (.tup []) h) (zbe.k2 C (zdd 16 (.str []) 0) (N 377) Q Y1 (s 0) (s 2) (s 3) (s 8) (s 9) h)) r (λs h r=>eT k (λs h=>zbe.k2 C (zdd 16 (.str []) 0) (N 377) Q Y1 (s 0) (s 2) (s 3) (s 8) (s 9) h) r (λs h r=>eT k (λs h=>zbe.k1 C (zdd 16 (.str []) 0) (N 377) Q Y1 (s 0) (s 2) (s 3) (s 8) (s 9) h) r (λs h r=>e1 r)))))))
theorem zcl.imp:zcl.Imp (AC P) N:=λa b c d h Q r=>eF mixed (fn:=Tryz.f150) (λk=>zcl.L k (dn Q) (zbx [a,b,c,d]) h r)
def zbw.I:Bx:=⟨[],[],15,[]⟩
theorem zbw.L:LkT P zbw.I Tryz.f151 λC Q s h=>zbw.cps C N (s 0) (s 1) (s 2) h Q:=λ{C} k Q s h r=>e1 r
theorem zbw.imp:zbw.Imp (AC P) N:=λa b c h Q r=>eF mixed (fn:=Tryz.f151) (λk=>zbw.L k (dn Q) (zbx [a,b,c]) h r)
def zc3.I:Bx:=⟨[],[],36,[]⟩
theorem zc3.L:LkT P zc3.I Tryz.f152 λC Q s h=>zc3.cps C N (s 0) (s 1) (s 2) (s 3) (s 4) h Q:=λ{C} k Q s h r=>e1 r
theorem zc3.imp:zc3.Imp (AC P) N:=λa b c d e h Q r=>eF mixed (fn:=Tryz.f152) (λk=>zc3.L k (dn Q) (zbx [a,b,c,d,e]) h r)
def zdq.I:Bx:=⟨[],[],6,[]⟩
theorem zdq.L:LkT P zdq.I Tryz.f153 λC Q s h=>zdq.cps C N (s 0) h Q:=λ{C} k Q s h r=>e1 r
theorem zdq.imp:zdq.Imp (AC P) N:=λa h Q r=>eF mixed (fn:=Tryz.f153) (λk=>zdq.L k (dn Q) (zbx [a]) h r)
def zc8.I:Bx:=⟨[],[],28,[(1,pz [] 9)]⟩
theorem zc8.L:LkT P zc8.I Tryz.f154 λC Q s h=>zc8.cps C N (s 0) (s 1) (s 2) (s 3) h Q:=λ{C} k Q s h r=>e1 r
theorem zc8.imp:zc8.Imp (AC P) N:=λa b c d h Q r=>eF mixed (fn:=Tryz.f154) (λk=>zc8.L k (dn Q) (zbx [a,b,c,d]) h r)
def zc2.I:Bx:=⟨[],[],28,[(1,pz [] 9)]⟩
theorem zc2.L:LkT P zc2.I Tryz.f155 λC Q s h=>zc2.cps C N (s 0) (s 1) (s 2) (s 3) h Q:=λ{C} k Q s h r=>e1 r
theorem zc2.imp:zc2.Imp (AC P) N:=λa b c d h Q r=>eF mixed (fn:=Tryz.f155) (λk=>zc2.L k (dn Q) (zbx [a,b,c,d]) h r)
theorem zfn.L0:F0 P Tryz.f59 zfn.I:=λhC Q s h hR=>eF0 hC 5 3 6 9 11 14 hR
theorem zfn.zlv:zfn.ziv (AC P) N:=λa h Q hR=>eF mixed (fn:=Tryz.f59) (λhC=>zfn.L0 hC (dn Q) (zbx [a]) h hR)
theorem zgf.L0:F0 P Tryz.f60 zgf.I:=λhC Q s h hR=>eF0 hC 5 3 6 9 11 14 hR
theorem zgf.zlv:zgf.ziv (AC P) N:=λa h Q hR=>eF mixed (fn:=Tryz.f60) (λhC=>zgf.L0 hC (dn Q) (zbx [a]) h hR)
theorem zfy.L0:F0 P Tryz.f63 zfy.I:=λhC Q s h hR=>eF0 hC 5 3 6 9 11 14 hR
theorem zfy.zlv:zfy.ziv (AC P) N:=λa h Q hR=>eF mixed (fn:=Tryz.f63) (λhC=>zfy.L0 hC (dn Q) (zbx [a]) h hR)
theorem zev.L0:F0 P Tryz.f64 zev.I:=λhC Q s h hR=>eF0 hC 5 3 6 9 11 14 hR
theorem zev.zlv:zev.ziv (AC P) N:=λa h Q hR=>eF mixed (fn:=Tryz.f64) (λhC=>zev.L0 hC (dn Q) (zbx [a]) h hR)
theorem zge.L0:F0 P Tryz.f65 zge.I:=λhC Q s h hR=>eF0 hC 5 3 6 9 11 14 hR
theorem zge.zlv:zge.ziv (AC P) N:=λa h Q hR=>eF mixed (fn:=Tryz.f65) (λhC=>zge.L0 hC (dn Q) (zbx [a]) h hR)
theorem zfo.L0:F0 P Tryz.f66 zfo.I:=λhC Q s h hR=>eF0 hC 5 3 6 9 11 14 hR
theorem zfo.zlv:zfo.ziv (AC P) N:=λa h Q hR=>eF mixed (fn:=Tryz.f66) (λhC=>zfo.L0 hC (dn Q) (zbx [a]) h hR)
theorem zgc.L0:F0 P Tryz.f67 zgc.I:=λhC Q s h hR=>eF0 hC 5 3 6 9 11 14 hR
theorem zgc.zlv:zgc.ziv (AC P) N:=λa h Q hR=>eF mixed (fn:=Tryz.f67) (λhC=>zgc.L0 hC (dn Q) (zbx [a]) h hR)
theorem zft.L0:F0 P Tryz.f68 zft.I:=λhC Q s h hR=>eF0 hC 5 3 6 9 11 14 hR
theorem zft.zlv:zft.ziv (AC P) N:=λa h Q hR=>eF mixed (fn:=Tryz.f68) (λhC=>zft.L0 hC (dn Q) (zbx [a]) h hR)
theorem zfw.L0:F0 P Tryz.f69 zfw.I:=λhC Q s h hR=>eF0 hC 5 3 6 9 11 14 hR
theorem zfw.zlv:zfw.ziv (AC P) N:=λa h Q hR=>eF mixed (fn:=Tryz.f69) (λhC=>zfw.L0 hC (dn Q) (zbx [a]) h hR)
theorem zfv.L0:F0 P Tryz.f70 zfv.I:=λhC Q s h hR=>eF0 hC 5 3 6 9 11 14 hR
theorem zfv.zlv:zfv.ziv (AC P) N:=λa h Q hR=>eF mixed (fn:=Tryz.f70) (λhC=>zfv.L0 hC (dn Q) (zbx [a]) h hR)
theorem zgg.L0:F0 P Tryz.f71 zgg.I:=λhC Q s h hR=>eF0 hC 5 3 6 9 11 14 hR
theorem zgg.zlv:zgg.ziv (AC P) N:=λa h Q hR=>eF mixed (fn:=Tryz.f71) (λhC=>zgg.L0 hC (dn Q) (zbx [a]) h hR)
theorem zfq.L0:F0 P Tryz.f72 zfq.I:=λhC Q s h hR=>eF0 hC 5 3 6 9 11 14 hR
theorem zfq.zlv:zfq.ziv (AC P) N:=λa h Q hR=>eF mixed (fn:=Tryz.f72) (λhC=>zfq.L0 hC (dn Q) (zbx [a]) h hR)
theorem zfa.L0:F0 P Tryz.f73 zfa.I:=λhC Q s h hR=>eF0 hC 5 3 6 9 11 14 hR
theorem zfa.zlv:zfa.ziv (AC P) N:=λa h Q hR=>eF mixed (fn:=Tryz.f73) (λhC=>zfa.L0 hC (dn Q) (zbx [a]) h hR)
theorem zgd.L0:F0 P Tryz.f74 zgd.I:=λhC Q s h hR=>eF0 hC 5 3 6 9 11 14 hR
theorem zgd.zlv:zgd.ziv (AC P) N:=λa h Q hR=>eF mixed (fn:=Tryz.f74) (λhC=>zgd.L0 hC (dn Q) (zbx [a]) h hR)
theorem zfp.L0:F0 P Tryz.f75 zfp.I:=λhC Q s h hR=>eF0 hC 5 3 6 9 11 14 hR
theorem zfp.zlv:zfp.ziv (AC P) N:=λa h Q hR=>eF mixed (fn:=Tryz.f75) (λhC=>zfp.L0 hC (dn Q) (zbx [a]) h hR)
theorem zfx.L0:F0 P Tryz.f76 zfx.I:=λhC Q s h hR=>eF0 hC 5 3 6 9 11 14 hR
theorem zfx.zlv:zfx.ziv (AC P) N:=λa h Q hR=>eF mixed (fn:=Tryz.f76) (λhC=>zfx.L0 hC (dn Q) (zbx [a]) h hR)
theorem zex.L0:F0 P Tryz.f77 zex.I:=λhC Q s h hR=>eF0 hC 5 3 6 9 11 14 hR
theorem zex.zlv:zex.ziv (AC P) N:=λa h Q hR=>eF mixed (fn:=Tryz.f77) (λhC=>zex.L0 hC (dn Q) (zbx [a]) h hR)
theorem zfu.L0:F0 P Tryz.f78 zfu.I:=λhC Q s h hR=>eF0 hC 5 3 6 9 11 14 hR
theorem zfu.zlv:zfu.ziv (AC P) N:=λa h Q hR=>eF mixed (fn:=Tryz.f78) (λhC=>zfu.L0 hC (dn Q) (zbx [a]) h hR)
theorem zew.L0:F0 P Tryz.f79 zew.I:=λhC Q s h hR=>eF0 hC 5 3 6 9 11 14 hR
theorem zew.zlv:zew.ziv (AC P) N:=λa h Q hR=>eF mixed (fn:=Tryz.f79) (λhC=>zew.L0 hC (dn Q) (zbx [a]) h hR)
theorem zfs.L0:F0 P Tryz.f80 zfs.I:=λhC Q s h hR=>eF0 hC 5 3 6 9 11 14 hR
theorem zfs.zlv:zfs.ziv (AC P) N:=λa h Q hR=>eF mixed (fn:=Tryz.f80) (λhC=>zfs.L0 hC (dn Q) (zbx [a]) h hR)
theorem zfr.L0:F0 P Tryz.f81 zfr.I:=λhC Q s h hR=>eF0 hC 5 3 6 9 11 14 hR
theorem zfr.zlv:zfr.ziv (AC P) N:=λa h Q hR=>eF mixed (fn:=Tryz.f81) (λhC=>zfr.L0 hC (dn Q) (zbx [a]) h hR)
end Go.Ab.S24z
namespace Go.Ab
open List
section
variable{h h0:zb}{es:Nat}{x:za}{L R:List (List za)}{l:List Ob}
end
abbrev ze9(K T:Type):=List (K×T×Nat)
def zck{K T:Type}(ps:ze9 K T):List K:=ps.map (·.1)
theorem zlt{K T:Type}(p:K×T×Nat)(r:ze9 K T):zck (p::r)=p.1::zck r:=rfl
section
variable{K T:Type}[DecidableEq K]
def zii:ze9 K T->K->Option T|[],_=>none|p::r,k=>if p.1=k then some p.2.1 else zii r k
def znp:ze9 K T->K->T->Nat->ze9 K T|[],k,t,c=>[(k,t,c)]|p::r,k,t,c=>if p.1=k then (k,t,p.2.2)::r else p::znp r k t c
def zpv:ze9 K T->K->ze9 K T|[],_=>[]|p::r,k=>if p.1=k then r else p::zpv r k
def clkP(ps:ze9 K T)(k:K)(c:Nat):Nat:=if (zii ps k).isSome then c else c+1
def zpt:ze9 K T->K->Option (Nat×T×Nat)|[],_=>none|p::r,k=>if p.1=k then some (0,p.2.1,p.2.2) else (zpt r k).map fun(i,q)=>(i+1,q)
theorem zsl(k k':K)(t:T)(c:Nat):∀ps:ze9 K T,zii (znp ps k t c) k'=if k'=k then some t else zii ps k'
 | []=>by
  simp only[znp,zii]
  by_cases h:k'=k
  ·rw[if_pos h.symm,if_pos h]
  ·rw[if_neg (Ne.symm h),if_neg h]
 | p::r=>by
  have ih:=zsl k k' t c r
  simp only[znp]
  by_cases hp:p.1=k
  ·rw[if_pos hp]
   simp only[zii]
   by_cases h:k'=k
   ·rw[if_pos h.symm,if_pos h]
   ·rw[if_neg (Ne.symm h),if_neg h,if_neg (by rw[hp];exact Ne.symm h)]
  ·rw[if_neg hp]
   simp only[zii,ih]
   by_cases h:k'=k
   ·subst h;rw[if_neg hp,if_pos rfl,if_pos rfl]
   ·rw[if_neg h,if_neg h]
theorem zts{k:K}:∀{ps:ze9 K T},zii ps k=none↔k∉zck ps
 | []=>by simp[zii,zck]
 | p::r=>by
  have ih:=zts (k:=k) (ps:=r)
  simp only[zii,zck,map_cons,mem_cons,not_or]at ih ⊢
  by_cases hp:p.1=k
  ·simp[hp]
  ·simp[hp,ih,Ne.symm hp]
theorem zqd(k:K):∀ps:ze9 K T,zii ps k=(zpt ps k).map (·.2.1)
 | []=>rfl
 | p::r=>by
  simp only[zii,zpt]
  split
  ·rfl
  ·rw[zqd k r];cases zpt r k<;>rfl
theorem idxP_put{k:K}{t:T}{c i:Nat}{q:T×Nat}:∀{ps:ze9 K T},zpt ps k=some (i,q)->znp ps k t c=ps.set i (k,t,q.2) /\ i<ps.length
 | [],h=>by simp[zpt]at h
 | p::r,h=>by
  simp only[zpt]at h
  by_cases hp:p.1=k
  ·rw[if_pos hp]at h
   simp only[Option.some.injEq,Prod.mk.injEq]at h
   obtain⟨rfl,rfl⟩:=h
   simp[znp,hp]
  ·rw[if_neg hp]at h
   cases hr:zpt r k with
   | none=>simp[hr]at h
   | some x=>
    obtain⟨j,q'⟩:=x
    simp[hr]at h
    obtain⟨rfl,rfl⟩:=h
    have:=idxP_put (t:=t) (c:=c) hr
    simp[znp,hp,this.1,this.2]
theorem idxP_del{k:K}{i:Nat}{q:T×Nat}:∀{ps:ze9 K T},zpt ps k=some (i,q)->zpv ps k=ps.eraseIdx i
 | [],h=>by simp[zpt]at h
 | p::r,h=>by
  simp only[zpt]at h
  by_cases hp:p.1=k
  ·rw[if_pos hp]at h
   simp only[Option.some.injEq,Prod.mk.injEq]at h
   obtain⟨rfl,rfl⟩:=h
   simp[zpv,hp]
  ·rw[if_neg hp]at h
   cases hr:zpt r k with
   | none=>simp[hr]at h
   | some x=>
    obtain⟨j,q'⟩:=x
    simp[hr]at h
    obtain⟨rfl,rfl⟩:=h
    simp[zpv,hp,idxP_del hr]
theorem zmb{k:K}{t:T}{c:Nat}:∀{ps:ze9 K T},zpt ps k=none->znp ps k t c=ps++[(k,t,c)]
 | [],_=>rfl
 | p::r,h=>by
  simp only[zpt]at h
  by_cases hp:p.1=k
  ·rw[if_pos hp]at h;cases h
  ·rw[if_neg hp]at h
   cases hr:zpt r k with
   | none=>simp[znp,hp,zmb hr]
   | some x=>simp[hr]at h
theorem zmc{k:K}:∀{ps:ze9 K T},zpt ps k=none->zpv ps k=ps
 | [],_=>rfl
 | p::r,h=>by
  simp only[zpt]at h
  by_cases hp:p.1=k
  ·rw[if_pos hp]at h;cases h
  ·rw[if_neg hp]at h
   cases hr:zpt r k with
   | none=>simp[zpv,hp,zmc hr]
   | some x=>simp[hr]at h
theorem zna(k:K)(t:T)(c:Nat):∀ps:ze9 K T,zck (znp ps k t c)=if k∈zck ps then zck ps else zck ps++[k]
 | []=>by simp[znp,zck]
 | p::r=>by
  have ih:=zna k t c r
  by_cases hp:p.1=k
  ·rw[znp,if_pos hp,zlt,zlt,if_pos (by simp[hp]),hp]
  ·rw[znp,if_neg hp,zlt,ih,zlt]
   by_cases hm:k∈zck r
   ·rw[if_pos hm,if_pos (by simp[hm])]
   ·rw[if_neg hm,if_neg (by simp[hm,Ne.symm hp])];rfl
theorem zm7{ps:ze9 K T}(h:(zck ps).Nodup)(k:K)(t:T)(c:Nat):(zck (znp ps k t c)).Nodup:=by
 rw[zna];split
 ·exact h
 ·rename_i hk
  rw[nodup_append];exact⟨h,pairwise_singleton _ _,λa ha b hb e=>hk (by rw[mem_singleton.1 hb]at e;rw[<-e];exact ha)⟩
theorem keysP_del(k:K):∀{ps:ze9 K T},zck (zpv ps k)=(zck ps).erase k
 | []=>rfl
 | p::r=>by
  have ih:=keysP_del k (ps:=r)
  simp only[zpv,zck]at ih ⊢
  by_cases hp:p.1=k
  ·simp[hp]
  ·simp[hp,ih,erase_cons]
theorem nodup_del{ps:ze9 K T}(h:(zck ps).Nodup)(k:K):(zck (zpv ps k)).Nodup:=by
 rw[keysP_del];exact h.sublist (erase_sublist)
theorem zjr{k:K}{t:T}:∀{ps:ze9 K T},zii ps k=some t->∃n,(k,t,n)∈ps
 | [],h=>by simp[zii]at h
 | p::r,h=>by
  simp only[zii]at h
  by_cases hp:p.1=k
  ·rw[if_pos hp]at h
   cases h
   exact⟨p.2.2,by rw[<-hp];simp⟩
  ·rw[if_neg hp]at h
   obtain⟨n,hn⟩:=zjr h
   exact⟨n,by simp[hn]⟩
theorem mem_getP{ps:ze9 K T}(hn:(zck ps).Nodup){p:K×T×Nat}(hp:p∈ps):zii ps p.1=some p.2.1:=by
 induction ps with
 | nil=>cases hp
 | cons q r ih=>
  simp only[zck,map_cons,nodup_cons]at hn;simp only[zii];rcases mem_cons.1 hp with rfl|hp
  ·rw[if_pos rfl]
  ·rw[if_neg,ih hn.2 hp]
   intro e;exact hn.1 (by rw[e];exact mem_map_of_mem hp)
end
structure KeyE(kd:KD){K:Type}[DecidableEq K](κ:K->za):Prop where
 same:∀a b,V.sameK kd (κ a) (κ b)=some (decide (a=b))
theorem keyI:KeyE .i (λn:Int=> .int .i64 n):=⟨λa b=>by
 simp only[V.sameK,if_true];congr 1⟩
theorem keyS:KeyE .s (λs:List UInt8=> .str s):=⟨λa b=>by
 simp only[V.sameK];congr 1;rw[Bool.eq_iff_iff,beq_iff_eq,decide_eq_true_eq]⟩
theorem map_eraseIdx{α β:Type}(f:α->β):∀(l:List α)(i:Nat),(l.map f).eraseIdx i=(l.eraseIdx i).map f
 | [],_=>rfl
 | _::_,0=>rfl
 | a::l,i+1=>by simp[map_eraseIdx f l i]
def zjs{K T:Type}(κ:K->za)(v:T->za)(ps:ze9 K T):List (za×za×Nat):=ps.map λp=>(κ p.1,v p.2.1,p.2.2)
section
variable{kd:KD}{K T:Type}[DecidableEq K]{κ:K->za}{v:T->za}
theorem znd(hκ:KeyE kd κ)(k:K):∀(ps:ze9 K T)(i:Nat),V.zud kd (κ k) (zjs κ v ps) i=some ((zpt ps k).map fun(j,q)=>(i+j,v q.1,q.2))
 | [],i=>rfl
 | p::r,i=>by
  simp only[zjs,map_cons,V.zud,hκ.same,zpt]
  by_cases hp:k=p.1
  ·rw[if_pos hp.symm];simp[hp]
  ·rw[if_neg (Ne.symm hp)]
   have ih:=znd hκ k r (i+1)
   simp only[zjs]at ih
   simp only[hp,decide_false,ih]
   cases zpt r k with
   | none=>rfl
   | some x=>obtain⟨j,q⟩:=x;simp only[Option.map_some];congr 3;omega
theorem fset_enc(hκ:KeyE kd κ)(k:K)(t:T)(ps:ze9 K T)(c:Nat):A.fset (some kd) (κ k) (v t) (zjs κ v ps) c=some (zjs κ v (znp ps k t c),clkP ps k c,.undef):=by
 simp only[A.fset,znd hκ,clkP,zqd];cases h:zpt ps k with
 | none=>simp[zmb h,zjs]
 | some x=>
  obtain⟨j,q⟩:=x;have:=idxP_put (t:=t) (c:=c) h;simp only[Option.map_some,Option.isSome_some,if_true,Nat.zero_add,this.1,zjs,map_set]
theorem fdel_enc(hκ:KeyE kd κ)(k:K)(ps:ze9 K T)(c:Nat):A.fdel (some kd) (κ k) (zjs κ v ps) c=some (zjs κ v (zpv ps k),c,.tup []):=by
 simp only[A.fdel,znd hκ];cases h:zpt ps k with
 | none=>simp[zmc h]
 | some x=>
  obtain⟨j,q⟩:=x;have:=idxP_del h;simp only[Option.map_some,Nat.zero_add,this,zjs];rw[map_eraseIdx]
end
def zfm(es:List (za×za×Nat))(c:Nat):Blk:=zhh (.map es c)
theorem zcy.zp6{h0 h:zb}{l:List Ob}(ho:zcy h0 h l){id:Nat}(hid:h id=none){b:Blk}(hb:b.own=true):zcy h0 (upd h id b) (l++[.blk id b]):=
 ho.join ⟨zgz _ hid,λo hm=>by rw[mem_singleton.1 hm];exact zbs ..,λo hm j hj=>by rw[mem_singleton.1 hm]at hj;cases hj;exact⟨hid,λb hb'=>by rw[zbs]at hb';cases hb';exact hb⟩,pairwise_singleton _ _⟩
theorem zcy.zmj{h0 h:zb}{l:List Ob}{K T:Type}(ho:zcy h0 h l)(κ:K->za)(v:T->za){Q:zQ}(hq:∀id h',h id=none->zcy h0 h' (l++[.blk id (zfm (zjs κ v []) 0)])->h.le h'->Q (.mp id) h'):B.zmj h Q:=λid hid=>hq id _ hid (ho.zp6 hid rfl) (zgz _ hid)
section
variable{h0 h:zb}{l:List Ob}{kd:KD}{K T:Type}[DecidableEq K]{κ:K->za}{v:T->za}
theorem zcy.setBlk(ho:zcy h0 h l)(k:Nat){id:Nat}{b b':Blk}(hk:l[k]?=some (.blk id b))(hb:b'.own=true):zcy h0 (upd h id b') (l.set k (.blk id b')):=
 ho.zh9 k hk (zbs ..) (λj c hj hc=>by cases hj;rw[zbs]at hc;cases hc;exact hb) (λj c e1 e2=>by rw[zx];exact e1;intro e;subst e;exact e2 rfl) (.inl rfl)
theorem zjw{id:Nat}{es:List (za×za×Nat)}{c:Nat}(hb:h id=some (zfm es c)):A.zom h (.mp id)=some (es,c):=by simp[A.zom,hb,zfm,zhh]
theorem objT_blk{id:Nat}{es es':List (za×za×Nat)}{c c':Nat}{u:za}{f:List (za×za×Nat)->Nat->Option (List (za×za×Nat)×Nat×za)}{Q:zQ}(hb:h id=some (zfm es c))(hf:f es c=some (es',c',u))
  (hq:Q u (upd h id (zfm es' c'))):A.zr2 h (.mp id) f Q:=by
 unfold zfm zhh at *;simp only[A.zr2,hb,hf];exact hq
theorem lkp_blk{id:Nat}{c:Nat}{ps:ze9 K T}(hκ:KeyE kd κ)(hb:h id=some (zfm (zjs κ v ps) c))(z:T)(k:K)(ok:Bool):
  A.lkp h (some kd) (some (v z)) ok (.mp id) (κ k)=some (bif ok then .tup [v ((zii ps k).getD z),.bool (zii ps k).isSome] else v ((zii ps k).getD z)):=by
 simp only[A.lkp,A.entries,zjw hb,znd hκ,zqd];cases zpt ps k with
 | none=>rfl
 | some x=>rfl
theorem zcy.mset(ho:zcy h0 h l)(i:Nat){id c:Nat}{ps:ze9 K T}(hi:l[i]?=some (.blk id (zfm (zjs κ v ps) c)))(hκ:KeyE kd κ)(k:K)(t:T){Q:zb->Prop}
  (hq:∀h',zcy h0 h' (l.set i (.blk id (zfm (zjs κ v (znp ps k t c)) (clkP ps k c))))->But (.mp id) h h'->(∀j,j≠id->h' j=h j)->Q h'):B.mset h kd (.mp id) (κ k) (v t) Q:=
 objT_blk (ho.at i hi) (fset_enc hκ k t ps c) (hq _ (ho.setBlk i hi rfl) (λj b e1 e2=>by rw[zx];exact e1;intro e;subst e;exact e2 rfl) λj hj=>zx _ _ hj)
end
def zg5{K T:Type}(ps:ze9 K T)(c:Nat):Prop:=(∀p∈ps,p.2.2<c) /\ (ps.map (·.2.2)).Nodup
section
variable{K T:Type}{ps D:ze9 K T}{c:Nat}
theorem zg5.nil(c:Nat):zg5 ([]:ze9 K T) c:=⟨λ_ h=>(by cases h),List.Pairwise.nil⟩
theorem zg5.put[DecidableEq K](hb:zg5 ps c)(k:K)(t:T):zg5 (znp ps k t c) (clkP ps k c):=by
 unfold clkP;rw[zqd];cases h:zpt ps k with
 | none=>
  rw[zmb h];simp only[Option.map_none,Option.isSome_none,Bool.false_eq_true,if_false];refine⟨λp hp=>?_,?_⟩
  ·rcases mem_append.1 hp with hp|hp
   ·have:=hb.1 p hp;omega
   ·rw[mem_singleton.1 hp];exact Nat.lt_succ_self _
  ·rw[map_append,nodup_append]
   refine⟨hb.2,pairwise_singleton _ _,λa ha b hb2=>?_⟩;obtain⟨p,hp,rfl⟩:=mem_map.1 ha;rw[map_singleton,mem_singleton]at hb2;have:=hb.1 p hp;subst hb2;exact Nat.ne_of_lt this
 | some x=>
  obtain⟨j,q⟩:=x;have he:=idxP_put (t:=t) (c:=c) h;simp only[Option.map_some,Option.isSome_some,if_true,he.1];have hq:(ps.map (·.2.2))[j]?=some q.2:=by
   have:∀(ps:ze9 K T)(j:Nat)(q:T×Nat),zpt ps k=some (j,q)->(ps.map (·.2.2))[j]?=some q.2:=by
    intro ps
    induction ps with
    | nil=>intro j q h;cases h
    | cons p r ih=>
     intro j q h;simp only[zpt]at h;split at h
     ·cases h;rfl
     ·cases e:zpt r k with
      | none=>rw[e]at h;cases h
      | some y=>
       obtain⟨j',q'⟩:=y;rw[e]at h;simp only[Option.map_some,Option.some.injEq,Prod.mk.injEq]at h;obtain⟨rfl,rfl⟩:=h;simpa using ih _ _ e
   exact this _ _ _ h
  have hm:(ps.set j (k,t,q.2)).map (·.2.2)=ps.map (·.2.2):=by
   rw[map_set];apply ext_getElem?;intro i;rw[getElem?_set];split
   ·rename_i e;subst e
    split
    ·exact hq.symm
    ·rename_i e2;simp at e2;omega
   ·rfl
  refine⟨λp hp=>?_,by rw[hm];exact hb.2⟩;have:p.2.2∈(ps.set j (k,t,q.2)).map (·.2.2):=mem_map.2 ⟨p,hp,rfl⟩;rw[hm]at this;obtain⟨p',hp',e⟩:=mem_map.1 this;rw[<-e];exact hb.1 p' hp'
theorem zg5.del[DecidableEq K](hb:zg5 ps c)(k:K):zg5 (zpv ps k) c:=by
 cases h:zpt ps k with
 | none=>rw[zmc h];exact hb
 | some x=>
  obtain⟨j,q⟩:=x;rw[idxP_del h];have hs:=eraseIdx_sublist ps j;exact⟨λp hp=>hb.1 p (hs.subset hp),(hs.map _).nodup hb.2⟩
theorem zg5.inj(hb:zg5 ps c){p q:K×T×Nat}(hp:p∈ps)(hq:q∈ps)(e:p.2.2=q.2.2):p=q:=by
 obtain⟨i,hi,rfl⟩:=mem_iff_getElem.1 hp;obtain⟨j,hj,rfl⟩:=mem_iff_getElem.1 hq;have:i=j:=by
  refine(getElem_inj (h₀:=by simpa using hi) (h₁:=by simpa using hj) hb.2).1 ?_;simpa using e
 subst this;rfl
theorem zg5.all(hb:zg5 ps c)(h1:∀p∈D,p∈ps)(h2:(D.map (·.2.2)).Nodup)(h3:∀p∈ps,p.2.2∈D.map (·.2.2)):D.Perm ps:=by
 have nd:∀{l:ze9 K T},(l.map (·.2.2)).Nodup->l.Nodup:=λh=>List.Pairwise.of_map (S:=(· ≠ ·)) (λp:K×T×Nat=>p.2.2) (λa b h e=>h (by rw[e])) h;refine(perm_ext_iff_of_nodup (nd h2) (nd hb.2)).2 λp=>⟨h1 p,λhp=>?_⟩;obtain⟨q,hq,e⟩:=mem_map.1 (h3 p hp)
 rwa [hb.inj (h1 q hq) hp e]at hq
end
def zf0(m since:Nat)(seen:List Nat)(last:Nat):Blk:=zhh (.mapIter (some m) since seen last)
section
variable{h0 h:zb}{l:List Ob}{K T:Type}{κ:K->za}{v:T->za}{ps:ze9 K T}{m c:Nat}{Q:zQ}
theorem zcy.nextMapB(ho:zcy h0 h l)(j:Nat){it since last:Nat}{seen:List Nat}(hbm:h m=some (zfm (zjs κ v ps) c))(hj:l[j]?=some (.blk it (zf0 m since seen last)))(hb:zg5 ps c)(hs:c <= since)(hsl:since <= last)
  (hdone:(∀p∈ps,p.2.2∈seen)->Q (.tup [.bool false]) h)
  (hstep:∀p∈ps,p.2.2∉seen->∀h',zcy h0 h' (l.set j (.blk it (zf0 m since (seen++[p.2.2]) c)))->(∀k,k≠it->h' k=h k)->A.zgp h' (.ptr it 0 0)=some (.tup [κ p.1,v p.2.1])->Q (.tup [.bool true,κ p.1,v p.2.1]) h'):
  B.zfc h (.ptr it 0 0) Q:=by
 have hbi:h it=some (zf0 m since seen last):=ho.at j hj;have hne:m≠it:=λe=>by
  subst e;rw[hbm]at hbi;have:=Option.some.inj hbi;unfold zfm zf0 zhh at this;cases this
 show A.zfc h (.ptr it 0 0) Q;have hall:((zjs κ v ps).all λe=>Nat.blt e.2.2 since)=true:=by
  rw[all_eq_true];intro e he;obtain⟨p,hp,rfl⟩:=mem_map.1 he;have:=hb.1 p hp;rw[Nat.blt_eq];show p.2.2<since;omega
 have hle:Nat.ble since last=true:=by rw[Nat.ble_eq];exact hsl
 have hst:A.steps h (.ptr it 0 0)=some (it,match (zjs κ v ps).filter (λe=> !seen.contains e.2.2) with
   | []=>[(zf0 m since seen last,.tup [.bool false])]
   | l=>l.map λe=>({ zf0 m since seen last with obj:=some (.mapIter (some m) since (seen++[e.2.2]) c) },.tup [.bool true,e.1,e.2.1])):=by
  simp only[A.steps,hbi];unfold zf0 zhh;simp only[zjw hbm,hall,hle,Bool.and_self,cond_true];rfl
 simp only[A.zfc,hst];intro p hp
 have hf:∀e,e∈(zjs κ v ps).filter (λe=> !seen.contains e.2.2)↔∃q∈ps,q.2.2∉seen /\ e=(κ q.1,v q.2.1,q.2.2):=λe=>by
  rw[mem_filter];constructor
  ·rintro⟨he,hc⟩
   obtain⟨q,hq,rfl⟩:=mem_map.1 he;refine⟨q,hq,?_,rfl⟩;simpa using hc
  ·rintro⟨q,hq,hn,rfl⟩
   exact⟨mem_map.2 ⟨q,hq,rfl⟩,by simpa using hn⟩
 cases hfl:(zjs κ v ps).filter (λe=> !seen.contains e.2.2) with
 | nil=>
  rw[hfl]at hp;rw[mem_singleton.1 hp];have:upd h it (zf0 m since seen last)=h:=upd_self hbi;rw[this];refine hdone λq hq=>?_;by_cases hn:q.2.2∈seen
  ·exact hn
  ·have:=(hf _).2 ⟨q,hq,hn,rfl⟩
   rw[hfl]at this;cases this
 | cons e0 es0=>
  rw[hfl]at hp;obtain⟨e,he,rfl⟩:=mem_map.1 hp;rw[<-hfl]at he;obtain⟨q,hq,hn,rfl⟩:=(hf _).1 he;have hblk:({ zf0 m since seen last with obj:=some (.mapIter (some m) since (seen++[q.2.2]) c) }:Blk)=zf0 m since (seen++[q.2.2]) c:=rfl;show Q _ (upd h it { zf0 m since seen last with obj:=some (.mapIter (some m) since (seen++[q.2.2]) c) });rw[hblk];refine hstep q hq hn _ (ho.setBlk j hj rfl) (λk hk=>zx _ _ hk) ?_;have hbm':upd h it (zf0 m since (seen++[q.2.2]) c) m=some (zfm (zjs κ v ps) c):=by rw[zx _ _ hne];exact hbm
  have hfind:(zjs κ v ps).find? (λe=>Nat.beq e.2.2 q.2.2)=some (κ q.1,v q.2.1,q.2.2):=by
   have key:∀(ps:ze9 K T),(ps.map (·.2.2)).Nodup->q∈ps->(zjs κ v ps).find? (λe=>Nat.beq e.2.2 q.2.2)=some (κ q.1,v q.2.1,q.2.2):=by
    intro ps
    induction ps with
    | nil=>intro _ h;cases h
    | cons a r ih=>
     intro hnd hm;simp only[map_cons,nodup_cons]at hnd;simp only[zjs,map_cons,find?_cons];rcases mem_cons.1 hm with rfl|hm
     ·simp[Nat.beq_refl]
     ·have hne:a.2.2≠q.2.2:=λe=>hnd.1 (by rw[e];exact mem_map.2 ⟨q,hm,rfl⟩)
      have:Nat.beq a.2.2 q.2.2=false:=by
       cases e:Nat.beq a.2.2 q.2.2 with
       | false=>rfl
       | true=>exact absurd (Nat.eq_of_beq_eq_true e) hne
      rw[this];exact ih hnd.2 hm
   exact key ps hb.2 hq
  simp only[A.zgp,upd_get];unfold zf0 zhh;have hbm'':=hbm';unfold zf0 zhh at hbm'';simp only[zjw hbm'',getLast?_append,getLast?_singleton,Option.some_or,Nat.beq_refl,cond_true,hfind]
theorem zcy.rangeLoop{J:ze9 K T->List Ob->Prop}{Lp:za->zG}{REST:za->za->zb->(zL)->Prop}(ho:zcy h0 h l)(hbm:h0 m=some (zfm (zjs κ v ps) c))(hb:zg5 ps c)(hJ:J [] l)
  (heq:∀it hh Y,B.zfc hh it (λv h2=>REST it v h2 Y)->Lp it [] hh Y)
  (hdone:∀it hh D l b Y,J D l->D.Perm ps->zcy h0 hh (l++[.blk it b])->REST (.ptr it 0 0) (.tup [.bool false]) hh Y)
  (hstep:∀it hh D l b Y,∀p∈ps,J D l->(∀q∈D,q∈ps)->p∉D->zcy h0 hh (l++[.blk it b])->A.zgp hh (.ptr it 0 0)=some (.tup [κ p.1,v p.2.1]) ->
   (∀h' l',J (D++[p]) l'->zcy h0 h' (l'++[.blk it b])->Y [] h')->REST (.ptr it 0 0) (.tup [.bool true,κ p.1,v p.2.1]) hh Y):
  B.rangeMap h (.mp m) λv h=>zq (Lp v) [] h:=by
 show A.rangeMap h (.mp m) _;simp only[A.rangeMap,zjw (ho.le _ _ hbm)];intro it hit;have ho:zcy h0 (upd h it (zhh (.mapIter (some m) c [] c))) (l++[.blk it (zf0 m c (([]:ze9 K T).map (·.2.2)) c)]):=ho.zp6 (b:=zf0 m c [] c) hit rfl;refine zq.intro (λt vs hh=>vs=[] /\ ∃(D:ze9 K T)(l':List Ob),D.length+t=ps.length /\ J D l' /\ (∀q∈D,q∈ps) /\ (D.map (·.2.2)).Nodup /\ zcy h0 hh (l'++[.blk it (zf0 m c (D.map (·.2.2)) c)])) ps.length ?_ ⟨rfl,[],l,by simp,hJ,by simp,List.Pairwise.nil,ho⟩;rintro Y t vs hh ⟨rfl,D,l',ht,hJ',hD,hnd,o⟩ hY;refine heq _ _ _ ?_;refine o.nextMapB l'.length (seen:=D.map (·.2.2)) (since:=c) (last:=c) (o.le _ _ hbm) (by simp) hb (Nat.le_refl _) (Nat.le_refl _) (λhall=>?_) λp hp hns h' o' hk he=>?_
 ·exact hdone it hh D l' _ Y hJ' (hb.all hD hnd hall) o
 ·have o'':zcy h0 h' (l'++[.blk it (zf0 m c ((D++[p]).map (·.2.2)) c)]):=by
   have:=o';rw[set_append_right _ _ (Nat.le_refl _),Nat.sub_self]at this;simpa using this
  have hpD:p∉D:=λhm=>hns (mem_map.2 ⟨p,hm,rfl⟩);have nd2:((D++[p]).map (·.2.2)).Nodup:=by
   rw[map_append,nodup_append];exact⟨hnd,by simp,λx hx y hy e=>hns (by rw[map_cons,map_nil,mem_singleton]at hy;rw[<-hy,<-e];exact hx)⟩
  have sub:∀q∈D++[p],q∈ps:=λq hq=>by
   rcases mem_append.1 hq with h|h
   ·exact hD q h
   ·rw[mem_singleton.1 h];exact hp
  have hl:(D++[p]).length <= ps.length:=List.Nodup.length_le_of_subset (List.Pairwise.of_map (S:=(· ≠ ·)) (λp:K×T×Nat=>p.2.2) (λa b h e=>h (by rw[e])) nd2) sub;rw[length_append]at hl;have hl:D.length+1 <= ps.length:=hl;exact hstep it h' D l' _ Y p hp hJ' hD hpD o'' he λh2 l2 hJ2 o2=>hY (t-1) _ _ (by omega) ⟨rfl,D++[p],l2,by rw[length_append,length_singleton];omega,hJ2,sub,nd2,o2⟩
end
section
variable{h0 h:zb}{l:List Ob}{K T:Type}{κ:K->za}{v:T->za}{ps:ze9 K T}{m c:Nat}{Q:zQ}
theorem zcy.zuv{J:ze9 K T->List Ob->List za->Prop}{vs0:List za}{Lp:za->zG}{REST:za->List za->za->zb->(zL)->Prop}(ho:zcy h0 h l)(hbm:h0 m=some (zfm (zjs κ v ps) c))(hb:zg5 ps c)(hJ:J [] l vs0)
  (heq:∀it vs hh Y D l,J D l vs->B.zfc hh it (λv h2=>REST it vs v h2 Y)->Lp it vs hh Y)
  (hdone:∀it hh D l b Y vs,J D l vs->D.Perm ps->zcy h0 hh (l++[.blk it b])->REST (.ptr it 0 0) vs (.tup [.bool false]) hh Y)
  (hstep:∀it hh D l b Y vs,∀p∈ps,J D l vs->(∀q∈D,q∈ps)->p∉D->D.length<ps.length->zcy h0 hh (l++[.blk it b])->A.zgp hh (.ptr it 0 0)=some (.tup [κ p.1,v p.2.1]) ->
   (∀h' l' vs',J (D++[p]) l' vs'->zcy h0 h' (l'++[.blk it b])->Y vs' h')->REST (.ptr it 0 0) vs (.tup [.bool true,κ p.1,v p.2.1]) hh Y):
  B.rangeMap h (.mp m) λv h=>zq (Lp v) vs0 h:=by
 show A.rangeMap h (.mp m) _;simp only[A.rangeMap,zjw (ho.le _ _ hbm)];intro it hit;have ho:zcy h0 (upd h it (zhh (.mapIter (some m) c [] c))) (l++[.blk it (zf0 m c (([]:ze9 K T).map (·.2.2)) c)]):=ho.zp6 (b:=zf0 m c [] c) hit rfl;refine zq.intro (λt vs hh=>∃(D:ze9 K T)(l':List Ob),D.length+t=ps.length /\ J D l' vs /\ (∀q∈D,q∈ps) /\ (D.map (·.2.2)).Nodup /\ zcy h0 hh (l'++[.blk it (zf0 m c (D.map (·.2.2)) c)])) ps.length ?_ ⟨[],l,by simp,hJ,by simp,List.Pairwise.nil,ho⟩;rintro Y t vs hh ⟨D,l',ht,hJ',hD,hnd,o⟩ hY;refine heq _ _ _ _ _ _ hJ' ?_;refine o.nextMapB l'.length (seen:=D.map (·.2.2)) (since:=c) (last:=c) (o.le _ _ hbm) (by simp) hb (Nat.le_refl _) (Nat.le_refl _) (λhall=>?_) λp hp hns h' o' hk he=>?_
 ·exact hdone it hh D l' _ Y vs hJ' (hb.all hD hnd hall) o
 ·have o'':zcy h0 h' (l'++[.blk it (zf0 m c ((D++[p]).map (·.2.2)) c)]):=by
   have:=o';rw[set_append_right _ _ (Nat.le_refl _),Nat.sub_self]at this;simpa using this
  have hpD:p∉D:=λhm=>hns (mem_map.2 ⟨p,hm,rfl⟩);have nd2:((D++[p]).map (·.2.2)).Nodup:=by
   rw[map_append,nodup_append];exact⟨hnd,by simp,λx hx y hy e=>hns (by rw[map_cons,map_nil,mem_singleton]at hy;rw[<-hy,<-e];exact hx)⟩
  have sub:∀q∈D++[p],q∈ps:=λq hq=>by
   rcases mem_append.1 hq with h|h
   ·exact hD q h
   ·rw[mem_singleton.1 h];exact hp
  have hl:(D++[p]).length <= ps.length:=List.Nodup.length_le_of_subset (List.Pairwise.of_map (S:=(· ≠ ·)) (λp:K×T×Nat=>p.2.2) (λa b h e=>h (by rw[e])) nd2) sub;rw[length_append]at hl;have hl:D.length+1 <= ps.length:=hl;exact hstep it h' D l' _ Y vs p hp hJ' hD hpD hl o'' he λh2 l2 vs2 hJ2 o2=>hY (t-1) _ _ (by omega) ⟨D++[p],l2,by rw[length_append,length_singleton];omega,hJ2,sub,nd2,o2⟩
end
variable{C:z6}{N:zN}
abbrev Nam:=List UInt8
abbrev nV:Nam->za:=λs=> .str s
abbrev wV:Int->za:=λn=> .int .i64 n
def zsa(h:zb)(m:Nat)(ps:ze9 Nam Int):Prop:=∃c,h m=some (zfm (zjs nV wV ps) c) /\ zg5 ps c /\ (∀p∈ps,p.2.1=1) /\ (zck ps).Nodup
theorem zsa.mono{h H:zb}{m:Nat}{ps:ze9 Nam Int}(hs:zsa h m ps)(hle:h.le H):zsa H m ps:=by
 obtain⟨c,h1,h2⟩:=hs;exact⟨c,hle _ _ h1,h2⟩
theorem ones_get{ps:ze9 Nam Int}(h1:∀p∈ps,p.2.1=1)(k:Nam):decide (0<(zii ps k).getD 0)=decide (k∈zck ps):=by
 cases e:zii ps k with
 | none=>have:=zts.1 e;simp[this]
 | some v=>
  obtain⟨n,hn⟩:=zjr e;have:=h1 _ hn;have hk:k∈zck ps:=mem_map.2 ⟨_,hn,rfl⟩;simp at this;simp[hk,this]
def zcb.Spec(C:z6)(N:zN):Prop:=∀(h:zb)(m:Nat)(ps:ze9 Nam Int)(k:Nam)(Q:zQ),zsa h m ps->Q (.bool (decide (k∈zck ps))) h->C (N 508) [.mp m,.str k] h Q
theorem zcb.spec(i:zcb.Imp C N):zcb.Spec C N:=by
 intro h m ps k Q hs hq;obtain⟨c,h1,h2,h3,h4⟩:=hs;apply i;have e:A.lkp h (some .s) (some (.int .i64 0)) false (.mp m) (.str k)=some (.int .i64 ((zii ps k).getD 0)):=lkp_blk (v:=wV) keyS h1 0 k false;simp -dsimp only[zcb.cps,e,B.ze,V.zpn];rw[ones_get h3];exact zbf hq
def zlq(a b:ze9 Nam Int):Bool:= !a.isEmpty&&(!b.isEmpty&&(decide ([42]∈zck a)||(decide ([42]∈zck b)||a.any λp=>decide (p.1∈zck b))))
def zdv.Spec(C:z6)(N:zN):Prop:=∀(h:zb)(m n:Nat)(a b:ze9 Nam Int)(Q:zQ),zsa h m a->zsa h n b->Q (.bool (zlq a b)) h->C (N 528) [.mp m,.mp n] h Q
theorem zuz{h:zb}{m c:Nat}{ps:ze9 Nam Int}(hb:h m=some (zfm (zjs nV wV ps) c)):A.zm9 h (.mp m)=some (.int .i64 ps.length):=by
 simp[A.zm9,A.entries,zjw hb,zjs]
theorem zdv.spec(i:zdv.Imp C N)(hC:zj8 C)(s1:zcb.Spec C N):zdv.Spec C N:=by
 intro h m n a b Q ha hb hq;have ha':=ha;have hb':=hb;obtain⟨c,h1,h2,h3,h4⟩:=ha;obtain⟨d,g1,g2,g3,g4⟩:=hb;apply i;simp +contextual -dsimp[zuz h1,zuz g1];refine B.zbc (λhc=>?_) (λhc=>?_)<;>simp +contextual -dsimp at hc ⊢
 ·have e:zlq a b=false:=by
   unfold zlq;rcases hc with rfl|rfl<;>simp
  rw[e]at hq;exact zbf hq
 ·obtain⟨hna,hnb⟩:=hc
  have ea:a.isEmpty=false:=by cases a with
   | nil=>exact absurd rfl hna
   | cons _ _=>rfl
  have eb:b.isEmpty=false:=by cases b with
   | nil=>exact absurd rfl hnb
   | cons _ _=>rfl
  refine s1 h m a [42] _ ha' ?_;simp +contextual -dsimp;refine B.gdb_call (λ_ _ hq=>s1 h n b [42] _ hb' hq) ?_;simp +contextual -dsimp;refine B.zbc (λhc=>?_) (λhc=>?_)<;>simp +contextual -dsimp at hc ⊢
  ·have e:zlq a b=true:=by
    unfold zlq;rw[ea,eb];rcases hc with hc|hc<;>simp[hc]
   rw[e]at hq;exact zbf hq
  ·obtain⟨ha2,hb2⟩:=hc
   have hme:zlq a b=a.any λp=>decide (p.1∈zck b):=by
    unfold zlq;rw[ea,eb];simp[ha2,hb2]
   rw[hme]at hq;refine zcy.rangeLoop (κ:=nV) (v:=wV) (ps:=a) (c:=c) (J:=λD l=>l=[] /\ ∀p∈D,p.1∉zck b)
    (REST:=λit v h Y=>B.pv (V.ext 0 v) λv23=>B.cond v23
     (B.pv (A.zgp h it) λv24=>B.pv (V.ext 0 v24) λv25=>B.call C (N 508) [.mp n,v25] h λv28 h=>B.cond v28 (dn Q (.bool true) h) (Y [] h)) (dn Q (.bool false) h)) (zcy.start h) h1 h2 ⟨rfl,by simp⟩ ?_ ?_ ?_
   ·intro it hh Y hn
    exact hn
   ·rintro it hh D l bb Y ⟨rfl,hD⟩ hp ho
    simp -dsimp only[V.zir,getElem?_cons_zero,B.ze,B.cond_false];have e:(a.any λp=>decide (p.1∈zck b))=false:=by
     rw[any_eq_false];intro p hpm;have:=hD p (hp.mem_iff.2 hpm);simpa using this
    rw[e]at hq;exact dn_le ho.le hq
   ·rintro it hh D l bb Y p hpm ⟨rfl,hD⟩ hsub hpD ho he hY
    simp -dsimp only[V.zir,getElem?_cons_zero,B.ze,B.cond_true,he];refine s1 hh n b p.1 _ (hb'.mono ho.le) ?_;refine B.zbc (λhc=>?_) (λhc=>?_)
    ·have e:(a.any λp=>decide (p.1∈zck b))=true:=any_eq_true.2 ⟨p,hpm,hc⟩
     rw[e]at hq;exact dn_le ho.le hq
    ·refine hY hh [] ⟨rfl,λq hq'=>?_⟩ ho
     rcases mem_append.1 hq' with h|h
     ·exact hD q h
     ·rw[mem_singleton.1 h];exact of_decide_eq_false hc
variable{C:z6}{N:zN}
structure Wk where
 p:Nat
 hm:Nat
 wm:Nat
 hc:Nat
 wc:Nat
 held:ze9 Nam Int
 zf5:ze9 Nam Int
 zh9:Int
structure Lk where
 l:Nat
 m:Nat
 c:Nat
 last:Int
 W:ze9 Int Wk
abbrev pV(w:Wk):za:= .ptr w.p 0 0
def Wk.obs(w:Wk):List Ob:=[.blk w.p (zdr [.mp w.hm,.mp w.wm,.int .i64 w.zh9]),.blk w.hm (zfm (zjs nV wV w.held) w.hc),.blk w.wm (zfm (zjs nV wV w.zf5) w.wc)]
def Lk.obs(s:Lk):List Ob:= .blk s.l (zdr [.mp s.m,.int .i64 s.last]):: .blk s.m (zfm (zjs wV pV s.W) s.c)::s.W.flatMap λe=>e.2.1.obs
def zrb(ps:ze9 Nam Int)(c:Nat):Prop:=zg5 ps c /\ (∀p∈ps,p.2.1=1) /\ (zck ps).Nodup
structure Wk.Ok(w:Wk):Prop where
 held:zrb w.held w.hc
 zf5:zrb w.zf5 w.wc
structure Lk.Ok(s:Lk):Prop where
 zvf:zg5 s.W s.c
 nodup:(zck s.W).Nodup
 zh4:∀e∈s.W,e.2.1.Ok
 far:(s.W.map (·.2.1.p)).Nodup
def Wk.At(h:zb)(w:Wk):Prop:=h w.p=some (zdr [.mp w.hm,.mp w.wm,.int .i64 w.zh9]) /\ zsa h w.hm w.held /\ zsa h w.wm w.zf5
def Lk.At(h:zb)(s:Lk):Prop:=h s.l=some (zdr [.mp s.m,.int .i64 s.last]) /\ h s.m=some (zfm (zjs wV pV s.W) s.c) /\ ∀e∈s.W,e.2.1.At h
theorem Wk.At.mono{h H:zb}{w:Wk}(ha:w.At h)(hle:h.le H):w.At H:=⟨hle _ _ ha.1,ha.2.1.mono hle,ha.2.2.mono hle⟩
theorem Lk.At.mono{h H:zb}{s:Lk}(ha:s.At h)(hle:h.le H):s.At H:=⟨hle _ _ ha.1,hle _ _ ha.2.1,λe he=>(ha.2.2 e he).mono hle⟩
theorem Lk.at_of{h0 h:zb}{s:Lk}(ho:zcy h0 h s.obs)(hs:s.Ok):s.At h:=by
 have hm:∀o∈s.obs,o.at h:=ho.is;refine⟨hm _ (mem_cons_self ..),hm _ (mem_cons_of_mem _ (mem_cons_self ..)),λe he=>?_⟩;have hw:∀o∈e.2.1.obs,o.at h:=λo h1=>hm o (mem_cons_of_mem _ (mem_cons_of_mem _ (mem_flatMap.2 ⟨e,he,h1⟩)));exact⟨hw _ (mem_cons_self ..),⟨_,hw _ (mem_cons_of_mem _ (mem_cons_self ..)),(hs.zh4 e he).held⟩,⟨_,hw _ (mem_cons_of_mem _ (mem_cons_of_mem _ (mem_cons_self ..))),(hs.zh4 e he).zf5⟩⟩
theorem eqPtr_own{h:zb}{i j:Nat}{a b:List za}(hi:h i=some (zdr a))(hj:h j=some (zdr b)):A.zif h 3 .neq (.ptr i 0 0) (.ptr j 0 0)=some (.bool (decide (i≠j))):=by
 have oi:A.ownG h i 0=true:=by simp[A.ownG,hi,zdr]
 have oj:A.ownG h j 0=true:=by simp[A.ownG,hj,zdr]
 unfold A.zif;cases e:Nat.beq i j with
 | true=>have:=Nat.eq_of_beq_eq_true e;subst this;simp[V.eqv,show Nat.blt 0 3=true from rfl]
 | false=>have:=Nat.ne_of_beq_eq_false e;simp[V.eqv,oi,oj,this,e,show Nat.blt 0 3=true from rfl]
def zmm(o:Wk)(ps:ze9 Nam Int)(t:Int):Bool:=zlq o.held ps||(decide (0<o.zh9)&&(decide (o.zh9<t)&&zlq o.zf5 ps))
def zc7.Spec(C:z6)(N:zN):Prop:=∀(h:zb)(o:Wk)(p b i j q:Nat)(cs:List za)(ps:ze9 Nam Int)(t:Int)(Q:zQ),o.At h->h p=some (zdr cs)->zsa h b ps->h i=some (zdr [.ptr p 0 0])->h j=some (zdr [.mp b])->h q=some (zdr [.int .i64 t])->Q (.bool (decide (o.p≠p)&&zmm o ps t)) h->C (N 523) [.ptr o.p 0 0,.ptr i 0 0,.ptr j 0 0,.ptr q 0 0] h Q
theorem zeq{h:zb}{i k:Nat}{cs:List za}{v:za}(hi:h i=some (zdr cs))(hk:cs[k]?=some v):A.ldv h (.ptr i 0 k)=some v:=by
 have hl:k<cs.length:=(List.getElem?_eq_some_iff.1 hk).1;simp only[A.ldv,hi,zdr,List.lookup,beq_self_eq_true,if_pos hl,hk]
theorem zc7.spec(i:zc7.Imp C N)(s1:zdv.Spec C N):zc7.Spec C N:=by
 intro h o p b i1 i2 i3 cs ps t Q ho hp hb h1 h2 h3 hq;obtain⟨o1,o2,o3⟩:=ho;apply i;have e1:=zeq (k:=0) h1 rfl;have e2:=zeq (k:=0) h2 rfl;have e3:=zeq (k:=0) h3 rfl;have f1:=zeq (k:=0) o1 rfl;have f2:=zeq (k:=1) o1 rfl;have f3:=zeq (k:=2) o1 rfl;have ee:=eqPtr_own o1 hp;simp +contextual -dsimp[e1,e2,e3,f1,f2,f3,ee,V.fieldAddr];by_cases e:o.p=p
 ·simp +contextual -dsimp[e]at hq ⊢
  exact zbf hq
 ·have eb:decide (o.p=p)=false:=decide_eq_false e
  have eq:(decide (o.p≠p)&&zmm o ps t)=zmm o ps t:=by simp[e]
  rw[eq]at hq;simp +contextual -dsimp[eb]at hq ⊢;refine s1 _ _ _ _ _ _ o2 hb ?_;cases em:zlq o.held ps with
  | true=>
   rw[show zmm o ps t=true by simp[zmm,em]]at hq;simp +contextual -dsimp[eb];exact zbf hq
  | false=>
   simp +contextual -dsimp[eb,f3,e3];cases ec:decide (0<o.zh9)&&decide (o.zh9<t) with
   | false=>
    rw[show zmm o ps t=false by simp only[zmm,em,<-Bool.and_assoc,ec,Bool.false_and,Bool.or_self]]at hq;simp +contextual -dsimp[eb];exact zbf hq
   | true=>
    rw[show zmm o ps t=zlq o.zf5 ps by simp only[zmm,em,<-Bool.and_assoc,ec,Bool.true_and,Bool.false_or]]at hq;simp +contextual -dsimp[eb,f2,e2];refine s1 _ _ _ _ _ _ o3 hb ?_;simp +contextual -dsimp[eb];exact zbf hq
@[simp] def zc4.k1(C:z6)(E:zbj)(C0:z6)(fL:Nat)(Q:zQ)(Y1:zL)(Y2:zL)(v0 v1 v2 v3 v8 v9:za)(h:zb):Prop:=B.pv (V.bin .gtr v9 v1) λv20=>B.gd h v20 true (λK=>K v0 h) λv23 h=>B.gd h v20 true (λK=>K v9 h) λv24 h=>B.gd h v20 true (λK=>B.pv (V.zcp E.es v23 v24) λv=>K v h) λv25 h=>B.gd h v20 true (λK=>E.ld h v25 λv=>K v h) λv26 h=>B.gd h v20 true (λK=>K v0 h) λv27 h=>B.gd h v20 true (λK=>K v9 h) λv28 h=>B.gd h v20 true (λK=>B.pv (V.bin .sub v28 (.int .i64 1)) λv=>K v h) λv29 h=>B.gd h v20 true (λK=>B.pv (V.zcp E.es v27 v29) λv=>K v h) λv30 h=>B.gd h v20 true (λK=>E.ld h v30 λv=>K v h) λv31 h=>B.gd h v20 true (λK=>B.call C0 fL [v26,v31] h K) λv33 h=>B.pick v20 v33 (.bool false) λv34=>B.cond v34 (B.pv (V.bin .sub v9 (.int .i64 1)) λv41=>B.pv (V.bin .sub v9 (.int .i64 1)) λv44=>B.pv (V.zcp E.es v0 v44) λv45=>E.ld h v45 λv46=>B.pv (V.zcp E.es v0 v9) λv49=>E.ld h v49 λv50=>B.pv (V.zcp E.es v0 v9) λv51=>E.st h v51 v46 λh=>B.pv (V.zcp E.es v0 v41) λv52=>E.st h v52 v50 λh=>B.pv (V.bin .sub v9 (.int .i64 1)) λv36=>Y2 [v36] h) (B.pv (V.bin .add v8 (.int .i64 1)) λv16=>Y1 [v16] h)
@[simp] def zc4.l2(C:z6)(E:zbj)(C0:z6)(fL:Nat)(Q:zQ)(Y1:zL)(v0 v1 v2 v3 v8:za):zG|[v9],h,Y2=>zc4.k1 C E C0 fL Q Y1 Y2 v0 v1 v2 v3 v8 v9 h|_,_,_=>False
@[simp] def zc4.l3(C:z6)(E:zbj)(C0:z6)(fL:Nat)(Q:zQ)(v0 v1 v2 v3:za):zG|[v8],h,Y1=>B.pv (V.bin .lss v8 v2) λv14=>B.cond v14 (zq (zc4.l2 C E C0 fL Q Y1 v0 v1 v2 v3 v8) [v8] h) (Q (.tup []) h)|_,_,_=>False
@[simp] def zc4.cps(C:z6)(E:zbj)(C0:z6)(fL:Nat)(v0 v1 v2 v3:za)(h:zb)(Q:zQ):Prop:=B.pv (V.bin .add v1 (.int .i64 1)) λv11=>zq (zc4.l3 C E C0 fL Q v0 v1 v2 v3) [v11] h
@[simp] def zbh.k1(C:z6)(E:zbj)(C0:z6)(fL:Nat)(f1 f2 f3 f4 f5 f6 f7 f8 f9:Nat)(Q:zQ)(Y1:zL)(v0 v1 v2 v3 v4 v10 v11 v12 v13:za)(h:zb):Prop:=B.pv (V.bin .gtr v1 (.int .i64 0)) λv82=>B.gd h v82 true (λK=>K v0 h) λv85 h=>B.gd h v82 true (λK=>K v1 h) λv86 h=>B.gd h v82 true (λK=>B.pv (V.bin .sub v86 (.int .i64 1)) λv=>K v h) λv87 h=>B.gd h v82 true (λK=>B.pv (V.zcp E.es v85 v87) λv=>K v h) λv88 h=>B.gd h v82 true (λK=>E.ld h v88 λv=>K v h) λv89 h=>B.gd h v82 true (λK=>K v0 h) λv90 h=>B.gd h v82 true (λK=>K v13 h) λv91 h=>B.gd h v82 true (λK=>B.pv (V.zcp E.es v90 v91) λv=>K v h) λv92 h=>B.gd h v82 true (λK=>E.ld h v92 λv=>K v h) λv93 h=>B.gd h v82 true (λK=>B.call C0 fL [v89,v93] h K) λv95 h=>B.gd h v82 true (λK=>B.pv (V.un .not v95) λv=>K v h) λv96 h=>B.pick v82 v96 (.bool false) λv97=>B.cond v97 (B.call C f1 [v0,v1,v2,v13,v4] h λv103 h=>Y1 [v103,v2,v3,v10,v11] h) (B.call C f2 [v0,v1,v2,v13,v4] h λv111 h=>B.pv (V.ext 0 v111) λv112=>B.pv (V.ext 1 v111) λv113=>B.pv (V.bin .sub v112 v1) λv117=>B.pv (V.bin .sub v2 v112) λv120=>B.pv (V.bin .quo v12 (.int .i64 8)) λv122=>B.pv (V.bin .lss v117 v120) λv125=>B.cond v125 (B.pv (V.bin .geq v117 v122) λv128=>B.call C f3 [v0,v1,v112,v3,v4] h λv134 h=>B.pv (V.bin .add v112 (.int .i64 1)) λv136=>Y1 [v136,v2,v3,v128,v113] h) (B.pv (V.bin .geq v120 v122) λv139=>B.pv (V.bin .add v112 (.int .i64 1)) λv142=>B.call C f3 [v0,v142,v2,v3,v4] h λv146 h=>Y1 [v1,v112,v3,v139,v113] h))
@[simp] def zbh.k2(C:z6)(E:zbj)(C0:z6)(fL:Nat)(f1 f2 f3 f4 f5 f6 f7 f8 f9:Nat)(Q:zQ)(Y1:zL)(v0 v1 v2 v3 v4 v10 v11 v12 v13 v14:za)(h:zb):Prop:=B.gd h v10 true (λK=>K v11 h) λv70 h=>B.pick v10 v70 (.bool false) λv71=>B.gd h v71 true (λK=>K v14 h) λv73 h=>B.gd h v71 true (λK=>B.pv (V.bin .eql v73 (.int .i64 1)) λv=>K v h) λv74 h=>B.pick v71 v74 (.bool false) λv75=>B.cond v75 (B.call C f4 [v0,v1,v2,v4] h λv80 h=>B.cond v80 (Q (.tup []) h) (zbh.k1 C E C0 fL f1 f2 f3 f4 f5 f6 f7 f8 f9 Q Y1 v0 v1 v2 v3 v4 v10 v11 v12 v13 h)) (zbh.k1 C E C0 fL f1 f2 f3 f4 f5 f6 f7 f8 f9 Q Y1 v0 v1 v2 v3 v4 v10 v11 v12 v13 h)
@[simp] def zbh.k3(C:z6)(E:zbj)(C0:z6)(fL:Nat)(f1 f2 f3 f4 f5 f6 f7 f8 f9:Nat)(Q:zQ)(Y1:zL)(v0 v1 v2 v3 v4 v10 v11 v12 v13 v14:za)(h:zb):Prop:=B.pv (V.bin .eql v14 (.int .i64 2)) λv56=>B.cond v56 (B.call C f5 [v0,v1,v2,v4] h λv61 h=>B.pv (V.bin .sub v2 (.int .i64 1)) λv63=>B.pv (V.bin .sub v13 v1) λv66=>B.pv (V.bin .sub v63 v66) λv67=>zbh.k2 C E C0 fL f1 f2 f3 f4 f5 f6 f7 f8 f9 Q Y1 v0 v1 v2 v3 v4 v10 v11 v12 v67 (.int .i64 1) h) (zbh.k2 C E C0 fL f1 f2 f3 f4 f5 f6 f7 f8 f9 Q Y1 v0 v1 v2 v3 v4 v10 v11 v12 v13 v14 h)
@[simp] def zbh.k4(C:z6)(E:zbj)(C0:z6)(fL:Nat)(f1 f2 f3 f4 f5 f6 f7 f8 f9:Nat)(Q:zQ)(Y1:zL)(v0 v1 v2 v3 v4 v10 v11 v12:za)(h:zb):Prop:=B.call C f6 [v0,v1,v2,v4] h λv52 h=>B.pv (V.ext 0 v52) λv53=>B.pv (V.ext 1 v52) λv54=>zbh.k3 C E C0 fL f1 f2 f3 f4 f5 f6 f7 f8 f9 Q Y1 v0 v1 v2 v3 v4 v10 v11 v12 v53 v54 h
@[simp] def zbh.k5(C:z6)(E:zbj)(C0:z6)(fL:Nat)(f1 f2 f3 f4 f5 f6 f7 f8 f9:Nat)(Q:zQ)(Y1:zL)(v0 v1 v2 v3 v4 v10 v11 v12:za)(h:zb):Prop:=B.pv (V.un .not v10) λv39=>B.cond v39 (B.call C f7 [v0,v1,v2,v4] h λv44 h=>B.pv (V.bin .sub v3 (.int .i64 1)) λv46=>zbh.k4 C E C0 fL f1 f2 f3 f4 f5 f6 f7 f8 f9 Q Y1 v0 v1 v2 v46 v4 v10 v11 v12 h) (zbh.k4 C E C0 fL f1 f2 f3 f4 f5 f6 f7 f8 f9 Q Y1 v0 v1 v2 v3 v4 v10 v11 v12 h)
@[simp] def zbh.k6(C:z6)(E:zbj)(C0:z6)(fL:Nat)(f1 f2 f3 f4 f5 f6 f7 f8 f9:Nat)(Q:zQ)(Y1:zL)(v0 v1 v2 v3 v4 v10 v11 v12:za)(h:zb):Prop:=B.pv (V.bin .eql v3 (.int .i64 0)) λv32=>B.cond v32 (B.call C f8 [v0,v1,v2,v4] h λv37 h=>Q (.tup []) h) (zbh.k5 C E C0 fL f1 f2 f3 f4 f5 f6 f7 f8 f9 Q Y1 v0 v1 v2 v3 v4 v10 v11 v12 h)
@[simp] def zbh.k7(C:z6)(E:zbj)(C0:z6)(fL:Nat)(f1 f2 f3 f4 f5 f6 f7 f8 f9:Nat)(Q:zQ)(Y1:zL)(v0 v1 v2 v3 v4 v10 v11 v12:za)(h:zb):Prop:=B.pv (V.bin .leq v12 (.int .i64 12)) λv25=>B.cond v25 (B.call C f9 [v0,v1,v2,v4] h λv30 h=>Q (.tup []) h) (zbh.k6 C E C0 fL f1 f2 f3 f4 f5 f6 f7 f8 f9 Q Y1 v0 v1 v2 v3 v4 v10 v11 v12 h)
@[simp] def zbh.l8(C:z6)(E:zbj)(C0:z6)(fL:Nat)(f1 f2 f3 f4 f5 f6 f7 f8 f9:Nat)(Q:zQ)(v0 v4:za):zG|[v1,v2,v3,v10,v11],h,Y1=>B.pv (V.bin .sub v2 v1) λv23=>zbh.k7 C E C0 fL f1 f2 f3 f4 f5 f6 f7 f8 f9 Q Y1 v0 v1 v2 v3 v4 v10 v11 v23 h|_,_,_=>False
@[simp] def zbh.cps(C:z6)(E:zbj)(C0:z6)(fL:Nat)(f1 f2 f3 f4 f5 f6 f7 f8 f9:Nat)(v0 v1 v2 v3 v4:za)(h:zb)(Q:zQ):Prop:=zq (zbh.l8 C E C0 fL f1 f2 f3 f4 f5 f6 f7 f8 f9 Q v0 v4) [v1,v2,v3,(.bool true),(.bool true)] h
@[simp] def zdi.k1(C:z6)(E:zbj)(C0:z6)(fL:Nat)(f1:Nat)(Q:zQ)(Y1:zL)(v0 v3 v8 v9 v12:za)(h:zb):Prop:=B.pv (V.bin .geq v12 (.int .i64 0)) λv33=>B.cond v33 (B.pv (V.bin .add v8 v12) λv41=>B.pv (V.bin .add v8 v12) λv45=>B.pv (V.zcp E.es v0 v45) λv46=>E.ld h v46 λv47=>B.pv (V.zcp E.es v0 v8) λv50=>E.ld h v50 λv51=>B.pv (V.zcp E.es v0 v8) λv52=>E.st h v52 v47 λh=>B.pv (V.zcp E.es v0 v41) λv53=>E.st h v53 v51 λh=>B.call C f1 [v0,v9,v12,v8,v3] h λv59 h=>B.pv (V.bin .sub v12 (.int .i64 1)) λv35=>Y1 [v35] h) (Q (.tup []) h)
@[simp] def zdi.l2(C:z6)(E:zbj)(C0:z6)(fL:Nat)(f1:Nat)(Q:zQ)(v0 v3 v8 v9:za):zG|[v12],h,Y1=>zdi.k1 C E C0 fL f1 Q Y1 v0 v3 v8 v9 v12 h|_,_,_=>False
@[simp] def zdi.k3(C:z6)(E:zbj)(C0:z6)(fL:Nat)(f1:Nat)(Q:zQ)(Y2:zL)(v0 v3 v8 v9 v10 v11:za)(h:zb):Prop:=B.pv (V.bin .geq v11 (.int .i64 0)) λv21=>B.cond v21 (B.call C f1 [v0,v11,v10,v8,v3] h λv29 h=>B.pv (V.bin .sub v11 (.int .i64 1)) λv23=>Y2 [v23] h) (B.pv (V.bin .sub v10 (.int .i64 1)) λv31=>zq (zdi.l2 C E C0 fL f1 Q v0 v3 v8 v9) [v31] h)
@[simp] def zdi.l4(C:z6)(E:zbj)(C0:z6)(fL:Nat)(f1:Nat)(Q:zQ)(v0 v3 v8 v9 v10:za):zG|[v11],h,Y2=>zdi.k3 C E C0 fL f1 Q Y2 v0 v3 v8 v9 v10 v11 h|_,_,_=>False
@[simp] def zdi.k5(C:z6)(E:zbj)(C0:z6)(fL:Nat)(f1:Nat)(Q:zQ)(v0 v3 v8 v9 v10:za)(h:zb):Prop:=B.pv (V.bin .sub v10 (.int .i64 1)) λv18=>B.pv (V.bin .quo v18 (.int .i64 2)) λv19=>zq (zdi.l4 C E C0 fL f1 Q v0 v3 v8 v9 v10) [v19] h
@[simp] def zdi.cps(C:z6)(E:zbj)(C0:z6)(fL:Nat)(f1:Nat)(v0 v1 v2 v3:za)(h:zb)(Q:zQ):Prop:=B.pv (V.bin .sub v2 v1) λv16=>zdi.k5 C E C0 fL f1 Q v0 v3 v1 (.int .i64 0) v16 h
@[simp] def z9.k1(C:z6)(E:zbj)(C0:z6)(fL:Nat)(f1 f2:Nat)(Q:zQ)(Y1:zL)(v0 v1 v8 v9 v10 v11 v12:za)(h:zb):Prop:=B.pv (V.bin .add v1 v12) λv54=>B.pv (V.bin .add v1 v12) λv58=>B.pv (V.zcp E.es v0 v58) λv59=>E.ld h v59 λv60=>B.pv (V.zcp E.es v0 v11) λv63=>E.ld h v63 λv64=>B.pv (V.zcp E.es v0 v11) λv65=>E.st h v65 v60 λh=>B.pv (V.zcp E.es v0 v54) λv66=>E.st h v66 v64 λh=>B.pv (V.bin .add v11 (.int .i64 1)) λv37=>Y1 [v37] h
@[simp] def z9.k2(C:z6)(E:zbj)(C0:z6)(fL:Nat)(f1 f2:Nat)(Q:zQ)(Y1:zL)(v0 v1 v8 v9 v10 v11 v12:za)(h:zb):Prop:=B.pv (V.bin .geq v12 v8) λv45=>B.cond v45 (B.pv (V.bin .sub v12 v8) λv48=>z9.k1 C E C0 fL f1 f2 Q Y1 v0 v1 v8 v9 v10 v11 v48 h) (z9.k1 C E C0 fL f1 f2 Q Y1 v0 v1 v8 v9 v10 v11 v12 h)
@[simp] def z9.k3(C:z6)(E:zbj)(C0:z6)(fL:Nat)(f1 f2:Nat)(Q:zQ)(Y1:zL)(v0 v1 v8 v9 v10 v11:za)(h:zb):Prop:=B.call C0 f1 [v9] h λv38 h=>B.pv (V.bin .sub v10 (.int .u64 1)) λv40=>B.pv (V.bin .and v38 v40) λv41=>B.pv (V.toInt .i64 v41) λv42=>z9.k2 C E C0 fL f1 f2 Q Y1 v0 v1 v8 v9 v10 v11 v42 h
@[simp] def z9.k4(C:z6)(E:zbj)(C0:z6)(fL:Nat)(f1 f2:Nat)(Q:zQ)(Y1:zL)(v0 v1 v8 v9 v10 v11:za)(h:zb):Prop:=B.pv (V.bin .quo v8 (.int .i64 4)) λv31=>B.pv (V.bin .mul v31 (.int .i64 2)) λv32=>B.pv (V.bin .add v1 v32) λv33=>B.pv (V.bin .add v33 (.int .i64 1)) λv34=>B.pv (V.bin .leq v11 v34) λv35=>B.cond v35 (z9.k3 C E C0 fL f1 f2 Q Y1 v0 v1 v8 v9 v10 v11 h) (Q (.tup []) h)
@[simp] def z9.l5(C:z6)(E:zbj)(C0:z6)(fL:Nat)(f1 f2:Nat)(Q:zQ)(v0 v1 v8 v9 v10:za):zG|[v11],h,Y1=>z9.k4 C E C0 fL f1 f2 Q Y1 v0 v1 v8 v9 v10 v11 h|_,_,_=>False
@[simp] def z9.k6(C:z6)(E:zbj)(C0:z6)(fL:Nat)(f1 f2:Nat)(Q:zQ)(v0 v1 v8 v9 v10:za)(h:zb):Prop:=B.pv (V.bin .quo v8 (.int .i64 4)) λv24=>B.pv (V.bin .mul v24 (.int .i64 2)) λv25=>B.pv (V.bin .add v1 v25) λv26=>B.pv (V.bin .sub v26 (.int .i64 1)) λv27=>zq (z9.l5 C E C0 fL f1 f2 Q v0 v1 v8 v9 v10) [v27] h
@[simp] def z9.k7(C:z6)(E:zbj)(C0:z6)(fL:Nat)(f1 f2:Nat)(Q:zQ)(v0 v1 v8:za)(h:zb):Prop:=B.pv (V.toInt .u64 v8) λv19=>B.zha h (some [.int .u64 0]) λi9 h=>B.st h (.ptr i9 0 0) v19 λh=>B.call C0 f2 [v8] h λv21 h=>z9.k6 C E C0 fL f1 f2 Q v0 v1 v8 (.ptr i9 0 0) v21 h
@[simp] def z9.k8(C:z6)(E:zbj)(C0:z6)(fL:Nat)(f1 f2:Nat)(Q:zQ)(v0 v1 v2:za)(h:zb):Prop:=B.pv (V.bin .sub v2 v1) λv15=>B.pv (V.bin .geq v15 (.int .i64 8)) λv17=>B.cond v17 (z9.k7 C E C0 fL f1 f2 Q v0 v1 v15 h) (Q (.tup []) h)
@[simp] def z9.cps(C:z6)(E:zbj)(C0:z6)(fL:Nat)(f1 f2:Nat)(v0 v1 v2 v3:za)(h:zb)(Q:zQ):Prop:=z9.k8 C E C0 fL f1 f2 Q v0 v1 v2 h
@[simp] def zbi.k1(C:z6)(E:zbj)(C0:z6)(fL:Nat)(f1 f2:Nat)(Q:zQ)(v11 v13:za)(h:zb):Prop:=B.ld h v11 λv55=>B.pv (V.bin .eql v55 (.int .i64 0)) λv58=>B.cond v58 (Q (.tup [v13,(.int .i64 1)]) h) (B.pv (V.bin .eql v55 (.int .i64 12)) λv61=>B.cond v61 (Q (.tup [v13,(.int .i64 2)]) h) (Q (.tup [v13,(.int .i64 0)]) h))
@[simp] def zbi.k2(C:z6)(E:zbj)(C0:z6)(fL:Nat)(f1 f2:Nat)(Q:zQ)(v0 v3 v10 v11 v12 v13 v14:za)(h:zb):Prop:=B.pv (V.bin .geq v10 (.int .i64 50)) λv36=>B.cond v36 (B.call C f2 [v0,v12,v11,v3] h λv40 h=>B.call C f2 [v0,v13,v11,v3] h λv44 h=>B.call C f2 [v0,v14,v11,v3] h λv48 h=>B.call C f1 [v0,v40,v44,v48,v11,v3] h λv54 h=>zbi.k1 C E C0 fL f1 f2 Q v11 v54 h) (B.call C f1 [v0,v12,v13,v14,v11,v3] h λv54 h=>zbi.k1 C E C0 fL f1 f2 Q v11 v54 h)
@[simp] def zbi.k3(C:z6)(E:zbj)(C0:z6)(fL:Nat)(f1 f2:Nat)(Q:zQ)(v0 v3 v10 v11 v12 v13 v14:za)(h:zb):Prop:=B.pv (V.bin .geq v10 (.int .i64 8)) λv34=>B.cond v34 (zbi.k2 C E C0 fL f1 f2 Q v0 v3 v10 v11 v12 v13 v14 h) (zbi.k1 C E C0 fL f1 f2 Q v11 v13 h)
@[simp] def zbi.k4(C:z6)(E:zbj)(C0:z6)(fL:Nat)(f1 f2:Nat)(Q:zQ)(v0 v1 v3 v10 v11 v12 v13:za)(h:zb):Prop:=B.pv (V.bin .quo v10 (.int .i64 4)) λv30=>B.pv (V.bin .mul v30 (.int .i64 3)) λv31=>B.pv (V.bin .add v1 v31) λv32=>zbi.k3 C E C0 fL f1 f2 Q v0 v3 v10 v11 v12 v13 v32 h
@[simp] def zbi.k5(C:z6)(E:zbj)(C0:z6)(fL:Nat)(f1 f2:Nat)(Q:zQ)(v0 v1 v3 v10 v11 v12:za)(h:zb):Prop:=B.pv (V.bin .quo v10 (.int .i64 4)) λv25=>B.pv (V.bin .mul v25 (.int .i64 2)) λv26=>B.pv (V.bin .add v1 v26) λv27=>zbi.k4 C E C0 fL f1 f2 Q v0 v1 v3 v10 v11 v12 v27 h
@[simp] def zbi.k6(C:z6)(E:zbj)(C0:z6)(fL:Nat)(f1 f2:Nat)(Q:zQ)(v0 v1 v3 v10 v11:za)(h:zb):Prop:=B.pv (V.bin .quo v10 (.int .i64 4)) λv20=>B.pv (V.bin .mul v20 (.int .i64 1)) λv21=>B.pv (V.bin .add v1 v21) λv22=>zbi.k5 C E C0 fL f1 f2 Q v0 v1 v3 v10 v11 v22 h
@[simp] def zbi.cps(C:z6)(E:zbj)(C0:z6)(fL:Nat)(f1 f2:Nat)(v0 v1 v2 v3:za)(h:zb)(Q:zQ):Prop:=B.pv (V.bin .sub v2 v1) λv17=>B.zha h (some [.int .i64 0]) λi11 h=>zbi.k6 C E C0 fL f1 f2 Q v0 v1 v3 v17 (.ptr i11 0 0) h
@[simp] def zea.k1(C:z6)(E:zbj)(C0:z6)(fL:Nat)(Q:zQ)(Y1:zL)(v0 v8 v9:za)(h:zb):Prop:=B.pv (V.bin .lss v8 v9) λv15=>B.cond v15 (B.pv (V.zcp E.es v0 v9) λv22=>E.ld h v22 λv23=>B.pv (V.zcp E.es v0 v8) λv26=>E.ld h v26 λv27=>B.pv (V.zcp E.es v0 v8) λv28=>E.st h v28 v23 λh=>B.pv (V.zcp E.es v0 v9) λv29=>E.st h v29 v27 λh=>B.pv (V.bin .add v8 (.int .i64 1)) λv31=>B.pv (V.bin .sub v9 (.int .i64 1)) λv33=>Y1 [v31,v33] h) (Q (.tup []) h)
@[simp] def zea.l2(C:z6)(E:zbj)(C0:z6)(fL:Nat)(Q:zQ)(v0:za):zG|[v8,v9],h,Y1=>zea.k1 C E C0 fL Q Y1 v0 v8 v9 h|_,_,_=>False
@[simp] def zea.cps(C:z6)(E:zbj)(C0:z6)(fL:Nat)(v0 v1 v2 v3:za)(h:zb)(Q:zQ):Prop:=B.pv (V.bin .sub v2 (.int .i64 1)) λv12=>zq (zea.l2 C E C0 fL Q v0) [v1,v12] h
@[simp] def zh.k1(C:z6)(E:zbj)(C0:z6)(fL:Nat)(Q:zQ)(Y1:zL)(Y2:zL)(v0 v1 v2 v3 v9 v10 v12:za)(h:zb):Prop:=B.pv (V.bin .lss v12 v2) λv109=>B.cond v109 (B.pv (V.zcp E.es v0 v12) λv115=>E.ld h v115 λv116=>B.pv (V.bin .sub v12 (.int .i64 1)) λv119=>B.pv (V.zcp E.es v0 v119) λv120=>E.ld h v120 λv121=>B.call C0 fL [v116,v121] h λv123 h=>B.pv (V.un .not v123) λv124=>B.cond v124 (B.pv (V.bin .add v10 (.int .i64 1)) λv18=>Y1 [v9,v18] h) (B.pv (V.bin .sub v12 (.int .i64 1)) λv129=>B.pv (V.bin .sub v12 (.int .i64 1)) λv132=>B.pv (V.zcp E.es v0 v132) λv133=>E.ld h v133 λv134=>B.pv (V.zcp E.es v0 v12) λv137=>E.ld h v137 λv138=>B.pv (V.zcp E.es v0 v12) λv139=>E.st h v139 v134 λh=>B.pv (V.zcp E.es v0 v129) λv140=>E.st h v140 v138 λh=>B.pv (V.bin .add v12 (.int .i64 1)) λv111=>Y2 [v111] h)) (B.pv (V.bin .add v10 (.int .i64 1)) λv18=>Y1 [v9,v18] h)
@[simp] def zh.l2(C:z6)(E:zbj)(C0:z6)(fL:Nat)(Q:zQ)(Y1:zL)(v0 v1 v2 v3 v9 v10:za):zG|[v12],h,Y2=>zh.k1 C E C0 fL Q Y1 Y2 v0 v1 v2 v3 v9 v10 v12 h|_,_,_=>False
@[simp] def zh.k3(C:z6)(E:zbj)(C0:z6)(fL:Nat)(Q:zQ)(Y1:zL)(v0 v1 v2 v3 v9 v10:za)(h:zb):Prop:=B.pv (V.bin .sub v2 v9) λv103=>B.pv (V.bin .geq v103 (.int .i64 2)) λv104=>B.cond v104 (B.pv (V.bin .add v9 (.int .i64 1)) λv106=>zq (zh.l2 C E C0 fL Q Y1 v0 v1 v2 v3 v9 v10) [v106] h) (B.pv (V.bin .add v10 (.int .i64 1)) λv18=>Y1 [v9,v18] h)
@[simp] def zh.k4(C:z6)(E:zbj)(C0:z6)(fL:Nat)(Q:zQ)(Y1:zL)(Y3:zL)(v0 v1 v2 v3 v9 v10 v11:za)(h:zb):Prop:=B.pv (V.bin .geq v11 (.int .i64 1)) λv69=>B.cond v69 (B.pv (V.zcp E.es v0 v11) λv75=>E.ld h v75 λv76=>B.pv (V.bin .sub v11 (.int .i64 1)) λv79=>B.pv (V.zcp E.es v0 v79) λv80=>E.ld h v80 λv81=>B.call C0 fL [v76,v81] h λv83 h=>B.pv (V.un .not v83) λv84=>B.cond v84 (zh.k3 C E C0 fL Q Y1 v0 v1 v2 v3 v9 v10 h) (B.pv (V.bin .sub v11 (.int .i64 1)) λv89=>B.pv (V.bin .sub v11 (.int .i64 1)) λv92=>B.pv (V.zcp E.es v0 v92) λv93=>E.ld h v93 λv94=>B.pv (V.zcp E.es v0 v11) λv97=>E.ld h v97 λv98=>B.pv (V.zcp E.es v0 v11) λv99=>E.st h v99 v94 λh=>B.pv (V.zcp E.es v0 v89) λv100=>E.st h v100 v98 λh=>B.pv (V.bin .sub v11 (.int .i64 1)) λv71=>Y3 [v71] h)) (zh.k3 C E C0 fL Q Y1 v0 v1 v2 v3 v9 v10 h)
@[simp] def zh.l5(C:z6)(E:zbj)(C0:z6)(fL:Nat)(Q:zQ)(Y1:zL)(v0 v1 v2 v3 v9 v10:za):zG|[v11],h,Y3=>zh.k4 C E C0 fL Q Y1 Y3 v0 v1 v2 v3 v9 v10 v11 h|_,_,_=>False
@[simp] def zh.k6(C:z6)(E:zbj)(C0:z6)(fL:Nat)(Q:zQ)(Y1:zL)(v0 v1 v2 v3 v9 v10:za)(h:zb):Prop:=B.pv (V.bin .sub v9 v1) λv64=>B.pv (V.bin .geq v64 (.int .i64 2)) λv65=>B.cond v65 (B.pv (V.bin .sub v9 (.int .i64 1)) λv67=>zq (zh.l5 C E C0 fL Q Y1 v0 v1 v2 v3 v9 v10) [v67] h) (zh.k3 C E C0 fL Q Y1 v0 v1 v2 v3 v9 v10 h)
@[simp] def zh.k7(C:z6)(E:zbj)(C0:z6)(fL:Nat)(Q:zQ)(Y1:zL)(v0 v1 v2 v3 v9 v10:za)(h:zb):Prop:=B.pv (V.bin .sub v9 (.int .i64 1)) λv50=>B.pv (V.bin .sub v9 (.int .i64 1)) λv53=>B.pv (V.zcp E.es v0 v53) λv54=>E.ld h v54 λv55=>B.pv (V.zcp E.es v0 v9) λv58=>E.ld h v58 λv59=>B.pv (V.zcp E.es v0 v9) λv60=>E.st h v60 v55 λh=>B.pv (V.zcp E.es v0 v50) λv61=>E.st h v61 v59 λh=>zh.k6 C E C0 fL Q Y1 v0 v1 v2 v3 v9 v10 h
@[simp] def zh.k8(C:z6)(E:zbj)(C0:z6)(fL:Nat)(Q:zQ)(Y1:zL)(v0 v1 v2 v3 v9 v10:za)(h:zb):Prop:=B.pv (V.bin .sub v2 v1) λv44=>B.pv (V.bin .lss v44 (.int .i64 50)) λv45=>B.cond v45 (Q (.bool false) h) (zh.k7 C E C0 fL Q Y1 v0 v1 v2 v3 v9 v10 h)
@[simp] def zh.k9(C:z6)(E:zbj)(C0:z6)(fL:Nat)(Q:zQ)(Y1:zL)(Y4:zL)(v0 v1 v2 v3 v9 v10:za)(h:zb):Prop:=B.pv (V.bin .lss v9 v2) λv21=>B.gd h v21 true (λK=>K v0 h) λv24 h=>B.gd h v21 true (λK=>K v9 h) λv25 h=>B.gd h v21 true (λK=>B.pv (V.zcp E.es v24 v25) λv=>K v h) λv26 h=>B.gd h v21 true (λK=>E.ld h v26 λv=>K v h) λv27 h=>B.gd h v21 true (λK=>K v0 h) λv28 h=>B.gd h v21 true (λK=>K v9 h) λv29 h=>B.gd h v21 true (λK=>B.pv (V.bin .sub v29 (.int .i64 1)) λv=>K v h) λv30 h=>B.gd h v21 true (λK=>B.pv (V.zcp E.es v28 v30) λv=>K v h) λv31 h=>B.gd h v21 true (λK=>E.ld h v31 λv=>K v h) λv32 h=>B.gd h v21 true (λK=>B.call C0 fL [v27,v32] h K) λv34 h=>B.gd h v21 true (λK=>B.pv (V.un .not v34) λv=>K v h) λv35 h=>B.pick v21 v35 (.bool false) λv36=>B.cond v36 (B.pv (V.bin .add v9 (.int .i64 1)) λv38=>Y4 [v38] h) (B.pv (V.bin .eql v9 v2) λv41=>B.cond v41 (Q (.bool true) h) (zh.k8 C E C0 fL Q Y1 v0 v1 v2 v3 v9 v10 h))
@[simp] def zh.l10(C:z6)(E:zbj)(C0:z6)(fL:Nat)(Q:zQ)(Y1:zL)(v0 v1 v2 v3 v10:za):zG|[v9],h,Y4=>zh.k9 C E C0 fL Q Y1 Y4 v0 v1 v2 v3 v9 v10 h|_,_,_=>False
@[simp] def zh.k11(C:z6)(E:zbj)(C0:z6)(fL:Nat)(Q:zQ)(Y1:zL)(v0 v1 v2 v3 v9 v10:za)(h:zb):Prop:=B.pv (V.bin .lss v10 (.int .i64 5)) λv16=>B.cond v16 (zq (zh.l10 C E C0 fL Q Y1 v0 v1 v2 v3 v10) [v9] h) (Q (.bool false) h)
@[simp] def zh.l12(C:z6)(E:zbj)(C0:z6)(fL:Nat)(Q:zQ)(v0 v1 v2 v3:za):zG|[v9,v10],h,Y1=>zh.k11 C E C0 fL Q Y1 v0 v1 v2 v3 v9 v10 h|_,_,_=>False
@[simp] def zh.cps(C:z6)(E:zbj)(C0:z6)(fL:Nat)(v0 v1 v2 v3:za)(h:zb)(Q:zQ):Prop:=B.pv (V.bin .add v1 (.int .i64 1)) λv14=>zq (zh.l12 C E C0 fL Q v0 v1 v2 v3) [v14,(.int .i64 0)] h
@[simp] def zz.k1(C:z6)(E:zbj)(C0:z6)(fL:Nat)(Q:zQ)(Y1:zL)(v0 v1 v4 v11 v12:za)(h:zb):Prop:=B.pv (V.bin .gtr v11 v12) λv70=>B.cond v70 (Q v11 h) (B.pv (V.zcp E.es v0 v12) λv77=>E.ld h v77 λv78=>B.pv (V.zcp E.es v0 v11) λv81=>E.ld h v81 λv82=>B.pv (V.zcp E.es v0 v11) λv83=>E.st h v83 v78 λh=>B.pv (V.zcp E.es v0 v12) λv84=>E.st h v84 v82 λh=>B.pv (V.bin .add v11 (.int .i64 1)) λv86=>B.pv (V.bin .sub v12 (.int .i64 1)) λv88=>Y1 [v86,v88] h)
@[simp] def zz.k2(C:z6)(E:zbj)(C0:z6)(fL:Nat)(Q:zQ)(Y1:zL)(Y2:zL)(v0 v1 v4 v11 v12:za)(h:zb):Prop:=B.pv (V.bin .leq v11 v12) λv52=>B.gd h v52 true (λK=>K v0 h) λv55 h=>B.gd h v52 true (λK=>K v1 h) λv56 h=>B.gd h v52 true (λK=>B.pv (V.zcp E.es v55 v56) λv=>K v h) λv57 h=>B.gd h v52 true (λK=>E.ld h v57 λv=>K v h) λv58 h=>B.gd h v52 true (λK=>K v0 h) λv59 h=>B.gd h v52 true (λK=>K v12 h) λv60 h=>B.gd h v52 true (λK=>B.pv (V.zcp E.es v59 v60) λv=>K v h) λv61 h=>B.gd h v52 true (λK=>E.ld h v61 λv=>K v h) λv62 h=>B.gd h v52 true (λK=>B.call C0 fL [v58,v62] h K) λv64 h=>B.pick v52 v64 (.bool false) λv65=>B.cond v65 (B.pv (V.bin .sub v12 (.int .i64 1)) λv67=>Y2 [v67] h) (zz.k1 C E C0 fL Q Y1 v0 v1 v4 v11 v12 h)
@[simp] def zz.l3(C:z6)(E:zbj)(C0:z6)(fL:Nat)(Q:zQ)(Y1:zL)(v0 v1 v4 v11:za):zG|[v12],h,Y2=>zz.k2 C E C0 fL Q Y1 Y2 v0 v1 v4 v11 v12 h|_,_,_=>False
@[simp] def zz.k4(C:z6)(E:zbj)(C0:z6)(fL:Nat)(Q:zQ)(Y1:zL)(Y3:zL)(v0 v1 v4 v11 v12:za)(h:zb):Prop:=B.pv (V.bin .leq v11 v12) λv33=>B.gd h v33 true (λK=>K v0 h) λv36 h=>B.gd h v33 true (λK=>K v1 h) λv37 h=>B.gd h v33 true (λK=>B.pv (V.zcp E.es v36 v37) λv=>K v h) λv38 h=>B.gd h v33 true (λK=>E.ld h v38 λv=>K v h) λv39 h=>B.gd h v33 true (λK=>K v0 h) λv40 h=>B.gd h v33 true (λK=>K v11 h) λv41 h=>B.gd h v33 true (λK=>B.pv (V.zcp E.es v40 v41) λv=>K v h) λv42 h=>B.gd h v33 true (λK=>E.ld h v42 λv=>K v h) λv43 h=>B.gd h v33 true (λK=>B.call C0 fL [v39,v43] h K) λv45 h=>B.gd h v33 true (λK=>B.pv (V.un .not v45) λv=>K v h) λv46 h=>B.pick v33 v46 (.bool false) λv47=>B.cond v47 (B.pv (V.bin .add v11 (.int .i64 1)) λv49=>Y3 [v49] h) (zq (zz.l3 C E C0 fL Q Y1 v0 v1 v4 v11) [v12] h)
@[simp] def zz.l5(C:z6)(E:zbj)(C0:z6)(fL:Nat)(Q:zQ)(Y1:zL)(v0 v1 v4 v12:za):zG|[v11],h,Y3=>zz.k4 C E C0 fL Q Y1 Y3 v0 v1 v4 v11 v12 h|_,_,_=>False
@[simp] def zz.l6(C:z6)(E:zbj)(C0:z6)(fL:Nat)(Q:zQ)(v0 v1 v4:za):zG|[v11,v12],h,Y1=>zq (zz.l5 C E C0 fL Q Y1 v0 v1 v4 v12) [v11] h|_,_,_=>False
@[simp] def zz.k7(C:z6)(E:zbj)(C0:z6)(fL:Nat)(Q:zQ)(v0 v1 v2 v4:za)(h:zb):Prop:=B.pv (V.bin .add v1 (.int .i64 1)) λv28=>B.pv (V.bin .sub v2 (.int .i64 1)) λv30=>zq (zz.l6 C E C0 fL Q v0 v1 v4) [v28,v30] h
@[simp] def zz.k8(C:z6)(E:zbj)(C0:z6)(fL:Nat)(Q:zQ)(v0 v1 v2 v3 v4:za)(h:zb):Prop:=B.pv (V.zcp E.es v0 v3) λv19=>E.ld h v19 λv20=>B.pv (V.zcp E.es v0 v1) λv23=>E.ld h v23 λv24=>B.pv (V.zcp E.es v0 v1) λv25=>E.st h v25 v20 λh=>B.pv (V.zcp E.es v0 v3) λv26=>E.st h v26 v24 λh=>zz.k7 C E C0 fL Q v0 v1 v2 v4 h
@[simp] def zz.cps(C:z6)(E:zbj)(C0:z6)(fL:Nat)(v0 v1 v2 v3 v4:za)(h:zb)(Q:zQ):Prop:=zz.k8 C E C0 fL Q v0 v1 v2 v3 v4 h
@[simp] def zm.k1(C:z6)(E:zbj)(C0:z6)(fL:Nat)(Q:zQ)(v0 v1 v13:za)(h:zb):Prop:=B.pv (V.zcp E.es v0 v1) λv169=>E.ld h v169 λv170=>B.pv (V.zcp E.es v0 v13) λv173=>E.ld h v173 λv174=>B.pv (V.zcp E.es v0 v13) λv175=>E.st h v175 v170 λh=>B.pv (V.zcp E.es v0 v1) λv176=>E.st h v176 v174 λh=>Q (.tup [v13,(.bool false)]) h
@[simp] def zm.k2(C:z6)(E:zbj)(C0:z6)(fL:Nat)(Q:zQ)(Y1:zL)(v0 v1 v4 v12 v13:za)(h:zb):Prop:=B.pv (V.bin .gtr v12 v13) λv144=>B.cond v144 (zm.k1 C E C0 fL Q v0 v1 v13 h) (B.pv (V.zcp E.es v0 v13) λv151=>E.ld h v151 λv152=>B.pv (V.zcp E.es v0 v12) λv155=>E.ld h v155 λv156=>B.pv (V.zcp E.es v0 v12) λv157=>E.st h v157 v152 λh=>B.pv (V.zcp E.es v0 v13) λv158=>E.st h v158 v156 λh=>B.pv (V.bin .add v12 (.int .i64 1)) λv160=>B.pv (V.bin .sub v13 (.int .i64 1)) λv162=>Y1 [v160,v162] h)
@[simp] def zm.k3(C:z6)(E:zbj)(C0:z6)(fL:Nat)(Q:zQ)(Y1:zL)(Y2:zL)(v0 v1 v4 v12 v13:za)(h:zb):Prop:=B.pv (V.bin .leq v12 v13) λv125=>B.gd h v125 true (λK=>K v0 h) λv128 h=>B.gd h v125 true (λK=>K v13 h) λv129 h=>B.gd h v125 true (λK=>B.pv (V.zcp E.es v128 v129) λv=>K v h) λv130 h=>B.gd h v125 true (λK=>E.ld h v130 λv=>K v h) λv131 h=>B.gd h v125 true (λK=>K v0 h) λv132 h=>B.gd h v125 true (λK=>K v1 h) λv133 h=>B.gd h v125 true (λK=>B.pv (V.zcp E.es v132 v133) λv=>K v h) λv134 h=>B.gd h v125 true (λK=>E.ld h v134 λv=>K v h) λv135 h=>B.gd h v125 true (λK=>B.call C0 fL [v131,v135] h K) λv137 h=>B.gd h v125 true (λK=>B.pv (V.un .not v137) λv=>K v h) λv138 h=>B.pick v125 v138 (.bool false) λv139=>B.cond v139 (B.pv (V.bin .sub v13 (.int .i64 1)) λv141=>Y2 [v141] h) (zm.k2 C E C0 fL Q Y1 v0 v1 v4 v12 v13 h)
@[simp] def zm.l4(C:z6)(E:zbj)(C0:z6)(fL:Nat)(Q:zQ)(Y1:zL)(v0 v1 v4 v12:za):zG|[v13],h,Y2=>zm.k3 C E C0 fL Q Y1 Y2 v0 v1 v4 v12 v13 h|_,_,_=>False
@[simp] def zm.k5(C:z6)(E:zbj)(C0:z6)(fL:Nat)(Q:zQ)(Y1:zL)(Y3:zL)(v0 v1 v4 v12 v13:za)(h:zb):Prop:=B.pv (V.bin .leq v12 v13) λv107=>B.gd h v107 true (λK=>K v0 h) λv110 h=>B.gd h v107 true (λK=>K v12 h) λv111 h=>B.gd h v107 true (λK=>B.pv (V.zcp E.es v110 v111) λv=>K v h) λv112 h=>B.gd h v107 true (λK=>E.ld h v112 λv=>K v h) λv113 h=>B.gd h v107 true (λK=>K v0 h) λv114 h=>B.gd h v107 true (λK=>K v1 h) λv115 h=>B.gd h v107 true (λK=>B.pv (V.zcp E.es v114 v115) λv=>K v h) λv116 h=>B.gd h v107 true (λK=>E.ld h v116 λv=>K v h) λv117 h=>B.gd h v107 true (λK=>B.call C0 fL [v113,v117] h K) λv119 h=>B.pick v107 v119 (.bool false) λv120=>B.cond v120 (B.pv (V.bin .add v12 (.int .i64 1)) λv122=>Y3 [v122] h) (zq (zm.l4 C E C0 fL Q Y1 v0 v1 v4 v12) [v13] h)
@[simp] def zm.l6(C:z6)(E:zbj)(C0:z6)(fL:Nat)(Q:zQ)(Y1:zL)(v0 v1 v4 v13:za):zG|[v12],h,Y3=>zm.k5 C E C0 fL Q Y1 Y3 v0 v1 v4 v12 v13 h|_,_,_=>False
@[simp] def zm.l7(C:z6)(E:zbj)(C0:z6)(fL:Nat)(Q:zQ)(v0 v1 v4:za):zG|[v12,v13],h,Y1=>zq (zm.l6 C E C0 fL Q Y1 v0 v1 v4 v13) [v12] h|_,_,_=>False
@[simp] def zm.k8(C:z6)(E:zbj)(C0:z6)(fL:Nat)(Q:zQ)(v0 v1 v4 v12 v13:za)(h:zb):Prop:=B.pv (V.bin .add v12 (.int .i64 1)) λv102=>B.pv (V.bin .sub v13 (.int .i64 1)) λv104=>zq (zm.l7 C E C0 fL Q v0 v1 v4) [v102,v104] h
@[simp] def zm.k9(C:z6)(E:zbj)(C0:z6)(fL:Nat)(Q:zQ)(v0 v1 v4 v12 v13:za)(h:zb):Prop:=B.pv (V.zcp E.es v0 v13) λv93=>E.ld h v93 λv94=>B.pv (V.zcp E.es v0 v12) λv97=>E.ld h v97 λv98=>B.pv (V.zcp E.es v0 v12) λv99=>E.st h v99 v94 λh=>B.pv (V.zcp E.es v0 v13) λv100=>E.st h v100 v98 λh=>zm.k8 C E C0 fL Q v0 v1 v4 v12 v13 h
@[simp] def zm.k10(C:z6)(E:zbj)(C0:z6)(fL:Nat)(Q:zQ)(v0 v1 v4 v12 v13:za)(h:zb):Prop:=B.pv (V.bin .gtr v12 v13) λv71=>B.cond v71 (B.pv (V.zcp E.es v0 v1) λv78=>E.ld h v78 λv79=>B.pv (V.zcp E.es v0 v13) λv82=>E.ld h v82 λv83=>B.pv (V.zcp E.es v0 v13) λv84=>E.st h v84 v79 λh=>B.pv (V.zcp E.es v0 v1) λv85=>E.st h v85 v83 λh=>Q (.tup [v13,(.bool true)]) h) (zm.k9 C E C0 fL Q v0 v1 v4 v12 v13 h)
@[simp] def zm.k11(C:z6)(E:zbj)(C0:z6)(fL:Nat)(Q:zQ)(Y4:zL)(v0 v1 v4 v12 v13:za)(h:zb):Prop:=B.pv (V.bin .leq v12 v13) λv52=>B.gd h v52 true (λK=>K v0 h) λv55 h=>B.gd h v52 true (λK=>K v13 h) λv56 h=>B.gd h v52 true (λK=>B.pv (V.zcp E.es v55 v56) λv=>K v h) λv57 h=>B.gd h v52 true (λK=>E.ld h v57 λv=>K v h) λv58 h=>B.gd h v52 true (λK=>K v0 h) λv59 h=>B.gd h v52 true (λK=>K v1 h) λv60 h=>B.gd h v52 true (λK=>B.pv (V.zcp E.es v59 v60) λv=>K v h) λv61 h=>B.gd h v52 true (λK=>E.ld h v61 λv=>K v h) λv62 h=>B.gd h v52 true (λK=>B.call C0 fL [v58,v62] h K) λv64 h=>B.gd h v52 true (λK=>B.pv (V.un .not v64) λv=>K v h) λv65 h=>B.pick v52 v65 (.bool false) λv66=>B.cond v66 (B.pv (V.bin .sub v13 (.int .i64 1)) λv68=>Y4 [v68] h) (zm.k10 C E C0 fL Q v0 v1 v4 v12 v13 h)
@[simp] def zm.l12(C:z6)(E:zbj)(C0:z6)(fL:Nat)(Q:zQ)(v0 v1 v4 v12:za):zG|[v13],h,Y4=>zm.k11 C E C0 fL Q Y4 v0 v1 v4 v12 v13 h|_,_,_=>False
@[simp] def zm.k13(C:z6)(E:zbj)(C0:z6)(fL:Nat)(Q:zQ)(Y5:zL)(v0 v1 v4 v12 v13:za)(h:zb):Prop:=B.pv (V.bin .leq v12 v13) λv34=>B.gd h v34 true (λK=>K v0 h) λv37 h=>B.gd h v34 true (λK=>K v12 h) λv38 h=>B.gd h v34 true (λK=>B.pv (V.zcp E.es v37 v38) λv=>K v h) λv39 h=>B.gd h v34 true (λK=>E.ld h v39 λv=>K v h) λv40 h=>B.gd h v34 true (λK=>K v0 h) λv41 h=>B.gd h v34 true (λK=>K v1 h) λv42 h=>B.gd h v34 true (λK=>B.pv (V.zcp E.es v41 v42) λv=>K v h) λv43 h=>B.gd h v34 true (λK=>E.ld h v43 λv=>K v h) λv44 h=>B.gd h v34 true (λK=>B.call C0 fL [v40,v44] h K) λv46 h=>B.pick v34 v46 (.bool false) λv47=>B.cond v47 (B.pv (V.bin .add v12 (.int .i64 1)) λv49=>Y5 [v49] h) (zq (zm.l12 C E C0 fL Q v0 v1 v4 v12) [v13] h)
@[simp] def zm.l14(C:z6)(E:zbj)(C0:z6)(fL:Nat)(Q:zQ)(v0 v1 v4 v13:za):zG|[v12],h,Y5=>zm.k13 C E C0 fL Q Y5 v0 v1 v4 v12 v13 h|_,_,_=>False
@[simp] def zm.k15(C:z6)(E:zbj)(C0:z6)(fL:Nat)(Q:zQ)(v0 v1 v2 v4:za)(h:zb):Prop:=B.pv (V.bin .add v1 (.int .i64 1)) λv29=>B.pv (V.bin .sub v2 (.int .i64 1)) λv31=>zq (zm.l14 C E C0 fL Q v0 v1 v4 v31) [v29] h
@[simp] def zm.k16(C:z6)(E:zbj)(C0:z6)(fL:Nat)(Q:zQ)(v0 v1 v2 v3 v4:za)(h:zb):Prop:=B.pv (V.zcp E.es v0 v3) λv20=>E.ld h v20 λv21=>B.pv (V.zcp E.es v0 v1) λv24=>E.ld h v24 λv25=>B.pv (V.zcp E.es v0 v1) λv26=>E.st h v26 v21 λh=>B.pv (V.zcp E.es v0 v3) λv27=>E.st h v27 v25 λh=>zm.k15 C E C0 fL Q v0 v1 v2 v4 h
@[simp] def zm.cps(C:z6)(E:zbj)(C0:z6)(fL:Nat)(v0 v1 v2 v3 v4:za)(h:zb)(Q:zQ):Prop:=zm.k16 C E C0 fL Q v0 v1 v2 v3 v4 h
@[simp] def zdh.k1(C:z6)(E:zbj)(C0:z6)(fL:Nat)(Q:zQ)(Y1:zL)(v0 v2 v3 v4 v10 v11:za)(h:zb):Prop:=B.pv (V.bin .add v3 v10) λv47=>B.pv (V.zcp E.es v0 v47) λv48=>E.ld h v48 λv49=>B.pv (V.bin .add v3 v11) λv53=>B.pv (V.zcp E.es v0 v53) λv54=>E.ld h v54 λv55=>B.call C0 fL [v49,v55] h λv57 h=>B.pv (V.un .not v57) λv58=>B.cond v58 (Q (.tup []) h) (B.pv (V.bin .add v3 v10) λv62=>B.pv (V.bin .add v3 v11) λv66=>B.pv (V.bin .add v3 v11) λv70=>B.pv (V.zcp E.es v0 v70) λv71=>E.ld h v71 λv72=>B.pv (V.bin .add v3 v10) λv76=>B.pv (V.zcp E.es v0 v76) λv77=>E.ld h v77 λv78=>B.pv (V.zcp E.es v0 v62) λv79=>E.st h v79 v72 λh=>B.pv (V.zcp E.es v0 v66) λv80=>E.st h v80 v78 λh=>Y1 [v11] h)
@[simp] def zdh.k2(C:z6)(E:zbj)(C0:z6)(fL:Nat)(Q:zQ)(Y1:zL)(v0 v2 v3 v4 v10 v11:za)(h:zb):Prop:=B.pv (V.bin .add v11 (.int .i64 1)) λv20=>B.pv (V.bin .lss v20 v2) λv22=>B.gd h v22 true (λK=>K v0 h) λv25 h=>B.gd h v22 true (λK=>K v3 h) λv26 h=>B.gd h v22 true (λK=>K v11 h) λv27 h=>B.gd h v22 true (λK=>B.pv (V.bin .add v26 v27) λv=>K v h) λv28 h=>B.gd h v22 true (λK=>B.pv (V.zcp E.es v25 v28) λv=>K v h) λv29 h=>B.gd h v22 true (λK=>E.ld h v29 λv=>K v h) λv30 h=>B.gd h v22 true (λK=>K v0 h) λv31 h=>B.gd h v22 true (λK=>K v3 h) λv32 h=>B.gd h v22 true (λK=>K v11 h) λv33 h=>B.gd h v22 true (λK=>B.pv (V.bin .add v32 v33) λv=>K v h) λv34 h=>B.gd h v22 true (λK=>B.pv (V.bin .add v34 (.int .i64 1)) λv=>K v h) λv35 h=>B.gd h v22 true (λK=>B.pv (V.zcp E.es v31 v35) λv=>K v h) λv36 h=>B.gd h v22 true (λK=>E.ld h v36 λv=>K v h) λv37 h=>B.gd h v22 true (λK=>B.call C0 fL [v30,v37] h K) λv39 h=>B.pick v22 v39 (.bool false) λv40=>B.cond v40 (B.pv (V.bin .add v11 (.int .i64 1)) λv42=>zdh.k1 C E C0 fL Q Y1 v0 v2 v3 v4 v10 v42 h) (zdh.k1 C E C0 fL Q Y1 v0 v2 v3 v4 v10 v11 h)
@[simp] def zdh.k3(C:z6)(E:zbj)(C0:z6)(fL:Nat)(Q:zQ)(Y1:zL)(v0 v2 v3 v4 v10:za)(h:zb):Prop:=B.pv (V.bin .mul (.int .i64 2) v10) λv14=>B.pv (V.bin .add v14 (.int .i64 1)) λv15=>B.pv (V.bin .geq v15 v2) λv18=>B.cond v18 (Q (.tup []) h) (zdh.k2 C E C0 fL Q Y1 v0 v2 v3 v4 v10 v15 h)
@[simp] def zdh.l4(C:z6)(E:zbj)(C0:z6)(fL:Nat)(Q:zQ)(v0 v2 v3 v4:za):zG|[v10],h,Y1=>zdh.k3 C E C0 fL Q Y1 v0 v2 v3 v4 v10 h|_,_,_=>False
@[simp] def zdh.cps(C:z6)(E:zbj)(C0:z6)(fL:Nat)(v0 v1 v2 v3 v4:za)(h:zb)(Q:zQ):Prop:=zq (zdh.l4 C E C0 fL Q v0 v2 v3 v4) [v1] h
@[simp] def zep.k1(C:z6)(E:zbj)(C0:z6)(fL:Nat)(f1:Nat)(Q:zQ)(v0 v1 v2 v3:za)(h:zb):Prop:=B.pv (V.bin .sub v1 (.int .i64 1)) λv11=>B.pv (V.bin .add v1 (.int .i64 1)) λv14=>B.call C f1 [v0,v11,v1,v14,v2,v3] h λv17 h=>Q v17 h
@[simp] def zep.cps(C:z6)(E:zbj)(C0:z6)(fL:Nat)(f1:Nat)(v0 v1 v2 v3:za)(h:zb)(Q:zQ):Prop:=zep.k1 C E C0 fL f1 Q v0 v1 v2 v3 h
@[simp] def zgu.k1(C:z6)(E:zbj)(C0:z6)(fL:Nat)(f1:Nat)(Q:zQ)(v0 v1 v2 v3 v4 v5:za)(h:zb):Prop:=B.call C f1 [v0,v1,v2,v4,v5] h λv19 h=>B.pv (V.ext 0 v19) λv20=>B.pv (V.ext 1 v19) λv21=>B.call C f1 [v0,v21,v3,v4,v5] h λv28 h=>B.pv (V.ext 0 v28) λv29=>B.pv (V.ext 1 v28) λv30=>B.call C f1 [v0,v20,v29,v4,v5] h λv37 h=>B.pv (V.ext 0 v37) λv38=>B.pv (V.ext 1 v37) λv39=>Q v39 h
@[simp] def zgu.cps(C:z6)(E:zbj)(C0:z6)(fL:Nat)(f1:Nat)(v0 v1 v2 v3 v4 v5:za)(h:zb)(Q:zQ):Prop:=zgu.k1 C E C0 fL f1 Q v0 v1 v2 v3 v4 v5 h
@[simp] def zgt.k1(C:z6)(E:zbj)(C0:z6)(fL:Nat)(Q:zQ)(v0 v1 v2 v3 v4:za)(h:zb):Prop:=B.pv (V.zcp E.es v0 v2) λv15=>E.ld h v15 λv16=>B.pv (V.zcp E.es v0 v1) λv19=>E.ld h v19 λv20=>B.call C0 fL [v16,v20] h λv22 h=>B.cond v22 (B.nilCheck v3 λv24=>B.ld h v24 λv25=>B.pv (V.bin .add v25 (.int .i64 1)) λv26=>B.nilCheck v3 λv27=>B.st h v27 v26 λh=>Q (.tup [v2,v1]) h) (Q (.tup [v1,v2]) h)
@[simp] def zgt.cps(C:z6)(E:zbj)(C0:z6)(fL:Nat)(v0 v1 v2 v3 v4:za)(h:zb)(Q:zQ):Prop:=zgt.k1 C E C0 fL Q v0 v1 v2 v3 v4 h
structure zpp{T:Type}(less:T->T->Bool):Prop where
 asym:∀{a b},less a b=true->less b a=false
 zrh:∀{a b c},less a b=false->less b c=false->less a c=false
section
variable{T:Type}{less:T->T->Bool}
theorem zpp.irr(W:zpp less)(a:T):less a a=false:=by
 cases h:less a a with
 | false=>rfl
 | true=>have:=W.asym h;rw[h]at this;cases this
theorem zpp.trans(W:zpp less){a b c:T}(h1:less a b=true)(h2:less b c=true):less a c=true:=by
 cases h:less a c with
 | true=>rfl
 | false=>have:=W.zrh h (W.asym h2);rw[h1]at this;cases this
def lt'(less:T->T->Bool)(x y:T×Nat):Prop:=less x.1 y.1=true \/ (less y.1 x.1=false /\ x.2<y.2)
theorem lt'_trans(W:zpp less){x y z:T×Nat}(h1:lt' less x y)(h2:lt' less y z):lt' less x z:=by
 unfold lt' at *;rcases h1 with h1|⟨h1,n1⟩<;>rcases h2 with h2|⟨h2,n2⟩
 ·exact .inl (W.trans h1 h2)
 ·left
  cases h:less x.1 z.1 with
  | true=>rfl
  | false=>have:=W.zrh h h2;rw[h1]at this;cases this
 ·left
  cases h:less x.1 z.1 with
  | true=>rfl
  | false=>have:=W.zrh h1 h;rw[h2]at this;cases this
 ·exact .inr ⟨W.zrh h2 h1,by omega⟩
theorem lt'_gt{x y:T×Nat}(hn:y.2<x.2):lt' less x y↔less x.1 y.1=true:=⟨λh=>h.elim id λ⟨_,h⟩=>by omega,.inl⟩
theorem lt'_le(W:zpp less){x y:T×Nat}(hn:x.2<y.2):lt' less x y↔less y.1 x.1=false:=⟨λh=>h.elim (λh=>W.asym h) λ⟨h,_⟩=>h,λh=> .inr ⟨h,hn⟩⟩
end
variable{C:z6}{N:zN}
theorem zh3{a:Nat}(h:a<4611686018427387904):V.bin .add (.int .i64 (a:Int)) (.int .i64 1)=some (.int .i64 ((a+1:Nat):Int)):=by
 rw[V.zh8,wrap_i64 (by omega) (by omega)];simp
theorem sub1{a:Nat}(h:1 <= a)(ha:a<4611686018427387904):V.bin .sub (.int .i64 (a:Int)) (.int .i64 1)=some (.int .i64 ((a-1:Nat):Int)):=by
 rw[V.zld,wrap_i64 (by omega) (by omega)];congr 2;omega
theorem zr3{a b:Nat}:V.bin .lss (.int .i64 (a:Int)) (.int .i64 (b:Int))=some (.bool (decide (a<b))):=by rw[V.zfi];congr 3;exact propext (by omega)
theorem leqN{a b:Nat}:V.bin .leq (.int .i64 (a:Int)) (.int .i64 (b:Int))=some (.bool (decide (a <= b))):=by rw[V.bin_leq];congr 3;exact propext (by omega)
theorem gtrN{a b:Nat}:V.bin .gtr (.int .i64 (a:Int)) (.int .i64 (b:Int))=some (.bool (decide (b<a))):=by rw[V.zpn];congr 3;exact propext (by omega)
structure zem(E:zbj){X:Type}(cs:X->List za)(v:X->za):Prop where
 pos:0<E.es
 small:E.bytes <= 1000
 zlen:E.z.length=E.es
 len:∀t,(cs t).length=E.es
 new:∀t,zeu [(0,E.kp,v t)] (zhu 1 E.z)=some (cs t)
 ld:∀{h:zb}{x:za}{L R:List (List za)}{i:Nat}{t:X}{K:za->Prop},SlX h E.es x L R->L[i]?=some (cs t)->K (v t)->E.ld h (elp E.es x i 0) K
 kpt:∀{h:zb}{x:za}{L R:List (List za)}{i:Nat}{t:X},SlX h E.es x L R->L[i]?=some (cs t)->Kp h (elp E.es x i 0) E.kp
 st:∀{h0 h:zb}{x:za}{L R:List (List za)}{i:Nat}{c:List za}{t:X}{K:zb->Prop},zcy h0 h [.sl E.es x L R]->L[i]?=some c ->
  (∀h',zcy h0 h' [.sl E.es x (L.set i (cs t)) R]->K h')->E.st h (elp E.es x i 0) (v t) K
theorem zem.comp{E:zbj}{X Y:Type}{cs:X->List za}{v:X->za}(S:zem E cs v)(f:Y->X):zem E (λy=>cs (f y)) (λy=>v (f y)):=⟨S.pos,S.small,S.zlen,λt=>S.len _,λt=>S.new _,λh1 h2 h3=>S.ld h1 h2 h3,λh1 h2=>S.kpt h1 h2,λh1 h2 h3=>S.st h1 h2 h3⟩
theorem seqS{X:Type}{bytes f:Nat}{z:za}{v:X->za}(hb:bytes <= 1000)(hc:∀t,(v t).zdx=true):zem (zdd bytes z f) (λt=>[v t]) v where
 pos:=Nat.one_pos
 small:=hb
 zlen:=rfl
 len _:=rfl
 new t:=by simp[zdd,hc,zhu]
 ld hs hcc hk:=by
  simp only[zdd,B.zeo]at hs ⊢;rw[hs.cell hcc];exact hk
 kpt hs hcc:=⟨_,hs.cell hcc⟩
 st {h0 h x L R i c t K} ho hcc hk:=by
  have hs:SlX h 1 x L R:=ho.zhs 0 rfl;have hcl:c.length=1:=hs.len c (mem_append_left _ (mem_of_getElem? hcc));obtain⟨u,rfl⟩:=length_eq_one_iff.1 hcl;exact ho.st 0 rfl hcc (by show 0<1;omega) (hc _) λh' h1 _=>hk h' h1
def Rw(E:zbj){X:Type}(cs:X->List za)(h0 h:zb)(x:za)(G:List X)(R:List (List za)):Prop:=zcy h0 h [.sl E.es x (G.map cs) R]
section
variable{E:zbj}{X:Type}{cs:X->List za}{v:X->za}{h0 h:zb}{x:za}{G:List X}{R:List (List za)}
theorem Rw.idx(ho:Rw E cs h0 h x G R){i:Nat}(hi:i<G.length):V.zcp E.es x (.int .i64 (i:Int))=some (elp E.es x i 0):=(zcy.zhs ho 0 rfl).zmd (by simpa using hi)
theorem Rw.lenE(ho:Rw E cs h0 h x G R):V.zcj x=some (.int .i64 G.length):=by have:=(zcy.zhs ho 0 rfl).zcj;simpa using this
theorem Rw.le(ho:Rw E cs h0 h x G R):h0.le h:=zcy.le ho
theorem Rw.ld(ho:Rw E cs h0 h x G R)(S:zem E cs v){i:Nat}{t:X}(hg:G[i]?=some t){K:za->Prop}(hk:K (v t)):E.ld h (elp E.es x i 0) K:=
 S.ld (zcy.zhs ho 0 rfl) (by rw[getElem?_map,hg];rfl) hk
theorem Rw.st(ho:Rw E cs h0 h x G R)(S:zem E cs v){i:Nat}{t:X}(hi:i<G.length){K:zb->Prop}(hk:∀h',Rw E cs h0 h' x (G.set i t) R->K h'):E.st h (elp E.es x i 0) (v t) K:=
 S.st ho (c:=cs G[i]) (by rw[getElem?_map,getElem?_eq_getElem hi];rfl) λh' h1=>hk h' (by unfold Rw;rwa [map_set])
theorem set_mid{P Q:List X}{a b:X}{i:Nat}(hi:i=P.length):(P++a::Q).set i b=P++b::Q:=by subst hi;simp
theorem get_mid{P Q:List X}{a:X}{i:Nat}(hi:i=P.length):(P++a::Q)[i]?=some a:=by subst hi;simp
theorem set_mid2{P Q T:List X}{a b c:X}{j:Nat}(hj:j=P.length+1+Q.length):(P++a::(Q++b::T)).set j c=P++a::(Q++c::T):=by
 have:=set_mid (P:=P++a::Q) (Q:=T) (a:=b) (b:=c) (i:=j) (by simp;omega);simpa using this
theorem get_mid2{P Q T:List X}{a b:X}{j:Nat}(hj:j=P.length+1+Q.length):(P++a::(Q++b::T))[j]?=some b:=by
 have:=get_mid (P:=P++a::Q) (Q:=T) (a:=b) (i:=j) (by simp;omega);simpa using this
theorem Rw.swapDn{P Q T:List X}{a b:X}{i j:Nat}(ho:Rw E cs h0 h x (P++a::(Q++b::T)) R)(S:zem E cs v)(hi:i=P.length)(hj:j=P.length+1+Q.length){K:zb->Prop}
  (hk:∀h',Rw E cs h0 h' x (P++b::(Q++a::T)) R->K h'):E.st h (elp E.es x j 0) (v a) λh=>E.st h (elp E.es x i 0) (v b) K:=by
 refine ho.st S (by simp;omega) λh1 o1=>?_;rw[set_mid2 hj]at o1;refine o1.st S (by simp;omega) λh2 o2=>hk h2 ?_
 rwa [set_mid hi]at o2
end
section
variable{E:zbj}{T:Type}{cs:T->List za}{v:T->za}{c:T->T->Int}{h0 h:zb}{x f:za}{R:List (List za)}{Q:zQ}
def zfh(c:T->T->Int)(a b:T):Bool:=decide (c a b<0)
theorem nil_or_snoc{X:Type}(L:List X):L=[] \/ ∃L0 y,L=L0++[y]:=by
 rcases eq_nil_or_concat L with h|⟨A,b,h⟩
 ·exact .inl h
 ·exact .inr ⟨A,b,by rw[h,concat_eq_append]⟩
end
variable{C:z6}{N:zN}
section
variable{E:zbj}{X:Type}{cs:X->List za}{v:X->za}{h0 h:zb}{x f:za}{R:List (List za)}{Q:zQ}
end
variable{C:z6}{N:zN}
section
variable{E:zbj}{T:Type}{cs:T->List za}{v:T->za}{c:T->T->Int}{h0 h:zb}{x f:za}{R:List (List za)}{Q:zQ}
end
variable{C:z6}{N:zN}
section
variable{E:zbj}{T:Type}{cs:T->List za}{v:T->za}{c:T->T->Int}{h0 h:zb}{x f:za}{R:List (List za)}{Q:zQ}
end
variable{C:z6}{N:zN}
section
variable{E:zbj}{T:Type}{cs:T->List za}{v:T->za}{c:T->T->Int}{h0 h:zb}{x f:za}{R:List (List za)}{Q:zQ}
end
variable{C:z6}{N:zN}
section
variable{E:zbj}{T:Type}{cs:T->List za}{v:T->za}{c:T->T->Int}{h0 h:zb}{x f:za}{R:List (List za)}{Q:zQ}
end
variable{C:z6}{N:zN}
section
variable{E:zbj}{T:Type}{cs:T->List za}{v:T->za}{c:T->T->Int}{h0 h:zb}{x f:za}{R:List (List za)}{Q:zQ}
end
variable{C:z6}{N:zN}
section
variable{E:zbj}{T:Type}{cs:T->List za}{v:T->za}{c:T->T->Int}{h0 h:zb}{x f:za}{R:List (List za)}{Q:zQ}
end
section
variable{T:Type}{c:T->T->Int}
end
variable{C:z6}{N:zN}
section
variable{E:zbj}{T:Type}{cs:T->List za}{v:T->za}
end
variable{C:z6}
structure zds{X:Type}(a b:Nat)(G G':List X):Prop where
 perm:G'.Perm G
 out:∀i,i<a \/ b <= i->G'[i]?=G[i]?
theorem zds.refl{X:Type}(a b:Nat)(G:List X):zds a b G G:=⟨.refl _,λ_ _=>rfl⟩
theorem zds.trans{X:Type}{a b:Nat}{G G' G'':List X}(x:zds a b G G')(y:zds a b G' G''):zds a b G G'':=⟨y.perm.trans x.perm,λi hi=>(y.out i hi).trans (x.out i hi)⟩
theorem zds.mono{X:Type}{a b a' b':Nat}{G G':List X}(x:zds a b G G')(ha:a' <= a)(hb:b <= b'):zds a' b' G G':=⟨x.perm,λi hi=>x.out i (by omega)⟩
theorem zds.len{X:Type}{a b:Nat}{G G':List X}(x:zds a b G G'):G'.length=G.length:=x.perm.length_eq
theorem zds.same{X:Type}{a b:Nat}{G G':List X}(w:zds a b G G'){k:Nat}(hk:k<a \/ b <= k)(h1:k<G'.length)(h2:k<G.length):G'[k]=G[k]:=by
 have:=w.out k hk;rw[getElem?_eq_getElem h1,getElem?_eq_getElem h2]at this;exact Option.some.inj this
def swp{X:Type}(G:List X)(i j:Nat)(hi:i<G.length)(hj:j<G.length):List X:=(G.set i G[j]).set j G[i]
theorem swp_perm{X:Type}{G:List X}{i j:Nat}(hi:i<G.length)(hj:j<G.length):(swp G i j hi hj).Perm G:=by
 unfold swp;exact set_set_perm hi hj
theorem swp_get{X:Type}{G:List X}{i j:Nat}(hi:i<G.length)(hj:j<G.length)(k:Nat):(swp G i j hi hj)[k]?=if k=j then some G[i] else if k=i then some G[j] else G[k]? :=by
 unfold swp;rw[getElem?_set];by_cases e:j=k
 ·subst e;simp[hj]
 ·rw[if_neg e,if_neg (Ne.symm e),getElem?_set]
  by_cases e2:i=k
  ·subst e2;simp[hi]
  ·rw[if_neg e2,if_neg (Ne.symm e2)]
theorem zf1{X:Type}{G:List X}{i j a b:Nat}(hi:i<G.length)(hj:j<G.length)(h1:a <= i)(h2:i<b)(h3:a <= j)(h4:j<b):zds a b G (swp G i j hi hj):=⟨swp_perm hi hj,λk hk=>by
 rw[swp_get,if_neg (by omega),if_neg (by omega)]⟩
section
variable{E:zbj}{X:Type}{cs:X->List za}{v:X->za}{h0 h:zb}{x f:za}{G:List X}{R:List (List za)}{c:X->X->Int}
theorem Rw.swap(ho:Rw E cs h0 h x G R)(S:zem E cs v){i j:Nat}(hi:i<G.length)(hj:j<G.length){K:zb->Prop}(hk:∀h',Rw E cs h0 h' x (swp G i j hi hj) R->K h'):
  E.st h (elp E.es x i 0) (v G[j]) λh=>E.st h (elp E.es x j 0) (v G[i]) K:=by
 refine ho.st S (t:=G[j]) hi λh1 o1=>?_;exact o1.st S (t:=G[i]) (by simpa using hj) λh2 o2=>hk h2 o2
theorem quo4{a:Nat}(h:a<4611686018427387904):V.bin .quo (.int .i64 (a:Int)) (.int .i64 4)=some (.int .i64 ((a / 4:Nat):Int)):=by
 rw[V.bin_quo _ _ _ (by omega),show (a:Int).tdiv 4=((a / 4:Nat):Int) from rfl,wrap_i64 (by omega) (by omega)]
theorem mulN{a b:Nat}(h:a*b<4611686018427387904):V.bin .mul (.int .i64 (a:Int)) (.int .i64 (b:Int))=some (.int .i64 ((a*b:Nat):Int)):=by
 rw[V.bin_mul,show (a:Int)*(b:Int)=((a*b:Nat):Int) by simp,wrap_i64 (by omega) (by omega)]
theorem zr9{a b:Nat}(h:a+b<4611686018427387904):V.bin .add (.int .i64 (a:Int)) (.int .i64 (b:Int))=some (.int .i64 ((a+b:Nat):Int)):=by
 rw[V.zh8,show (a:Int)+(b:Int)=((a+b:Nat):Int) by simp,wrap_i64 (by omega) (by omega)]
theorem zlg{a b:Nat}(h:b <= a)(h2:a<4611686018427387904):V.bin .sub (.int .i64 (a:Int)) (.int .i64 (b:Int))=some (.int .i64 ((a-b:Nat):Int)):=by
 rw[V.zld,show (a:Int)-(b:Int)=((a-b:Nat):Int) by omega,wrap_i64 (by omega) (by omega)]
theorem geqN{a b:Nat}:V.bin .geq (.int .i64 (a:Int)) (.int .i64 (b:Int))=some (.bool (decide (b <= a))):=by rw[V.zpo];congr 3;exact propext (by omega)
end
variable{C:z6}
structure zug{X:Type}(c:X->X->Int)(a b:Nat)(G:List X)(i j:Nat):Prop where
 hb:b <= G.length
 hi:a<i
 hj:j<b
 hij:i <= j+1
 lo:∀k (h:k<G.length) (ha:a<G.length),a<k->k<i->c G[k] G[a]<0
 hi2:∀k (h:k<G.length) (ha:a<G.length),j<k->k<b->¬ c G[k] G[a]<0
structure zk7{X:Type}(c:X->X->Int)(a b m:Nat)(G:List X):Prop where
 ge:a <= m
 lt:m<b
 hb:b <= G.length
 lo:∀k (h:k<G.length) (hm:m<G.length),a <= k->k<m->c G[k] G[m]<0
 hi:∀k (h:k<G.length) (hm:m<G.length),m<k->k<b->¬ c G[k] G[m]<0
section
variable{E:zbj}{X:Type}{cs:X->List za}{v:X->za}{h0 h:zb}{x f:za}{G:List X}{R:List (List za)}{c:X->X->Int}{Q:zQ}{Y1:zL}{a b i j:Nat}
theorem zh0{X:Type}{G:List X}{i j:Nat}(hi:i<G.length)(hj:j<G.length){k:Nat}(hk:k<(swp G i j hi hj).length)(hk':k<G.length):(swp G i j hi hj)[k]=if k=j then G[i] else if k=i then G[j] else G[k]:=by
 have:=swp_get hi hj k;rw[getElem?_eq_getElem hk]at this;split at this
 ·rename_i e;rw[if_pos e];exact Option.some.inj this
 ·rename_i e;rw[if_neg e]
  split at this
  ·rename_i e2;rw[if_pos e2];exact Option.some.inj this
  ·rename_i e2;rw[if_neg e2,getElem?_eq_getElem hk']at *;exact Option.some.inj this
theorem zk9{X:Type}{G:List X}{i j:Nat}(hi:i<G.length)(hj:j<G.length):(swp G i j hi hj).length=G.length:=by simp[swp]
theorem zug.done(p:zug c a b G i j)(hab:a<b)(hc:j<i)(hj:j<G.length)(ha:a<G.length):zk7 c a b j (swp G j a hj ha):=by
 have h1:=p.hi;have h2:=p.hij;have h3:=p.hj;have h4:=p.hb;have hl:=zk9 hj ha;have pj:∀(hm:j<(swp G j a hj ha).length),(swp G j a hj ha)[j]=G[a]:=λhm=>by
  rw[zh0 hj ha hm hj];by_cases e:j=a
  ·subst e;simp
  ·rw[if_neg e,if_pos rfl]
 refine⟨by omega,h3,by omega,λk hk hm k1 k2=>?_,λk hk hm k1 k2=>?_⟩
 ·rw[pj,zh0 hj ha hk (by omega)]
  by_cases e:k=a
  ·rw[if_pos e];exact p.lo j hj ha (by omega) (by omega)
  ·rw[if_neg e,if_neg (by omega)];exact p.lo k (by omega) ha (by omega) (by omega)
 ·rw[pj,zh0 hj ha hk (by omega),if_neg (by omega),if_neg (by omega)]
  exact p.hi2 k (by omega) ha k1 k2
theorem zug.swap(p:zug c a b G i j)(hc:i <= j)(hi:i<G.length)(hj:j<G.length)(ha:a<G.length)(h1:¬ c G[i] G[a]<0)(h2:c G[j] G[a]<0):zug c a b (swp G i j hi hj) (i+1) (j-1):=by
 have k1:=p.hi;have k2:=p.hij;have k3:=p.hj;have k4:=p.hb;have hne:i≠j:=λe=>by subst e;exact h1 h2
 have hl:=zk9 hi hj;have pa:∀(hm:a<(swp G i j hi hj).length),(swp G i j hi hj)[a]=G[a]:=λhm=>by rw[zh0 hi hj hm ha,if_neg (by omega),if_neg (by omega)]
 refine⟨by omega,by omega,by omega,by omega,λk hk hm q1 q2=>?_,λk hk hm q1 q2=>?_⟩
 ·rw[pa,zh0 hi hj hk (by omega),if_neg (by omega)]
  by_cases e:k=i
  ·rw[if_pos e];exact h2
  ·rw[if_neg e];exact p.lo k (by omega) ha q1 (by omega)
 ·rw[pa,zh0 hi hj hk (by omega)]
  by_cases e:k=j
  ·rw[if_pos e];exact h1
  ·rw[if_neg e,if_neg (by omega)];exact p.hi2 k (by omega) ha (by omega) q2
end
variable{C:z6}
section
variable{E:zbj}{X:Type}{cs:X->List za}{v:X->za}{h0 h:zb}{x f:za}{G:List X}{R:List (List za)}{c:X->X->Int}{Q:zQ}{a b i j:Nat}
abbrev PartQ(E:zbj){X:Type}(cs:X->List za)(h0:zb)(x:za)(c:X->X->Int)(a b:Nat)(R:List (List za))(G:List X)(Q:zQ):Prop:=∀h' m G' t,zk7 c a b m G'->zds a b G G'->Rw E cs h0 h' x G' R->Q (.tup [.int .i64 (m:Int),.bool t]) h'
end
variable{C:z6}
structure EInv{X:Type}(c:X->X->Int)(a b:Nat)(G:List X)(i j:Nat):Prop where
 hb:b <= G.length
 hi:a<i
 hj:j<b
 hij:i <= j+1
 lo:∀k (h:k<G.length) (ha:a<G.length),a<k->k<i->¬ c G[a] G[k]<0
 hi2:∀k (h:k<G.length) (ha:a<G.length),j<k->k<b->c G[a] G[k]<0
theorem EInv.swap{X:Type}{c:X->X->Int}{a b i j:Nat}{G:List X}(p:EInv c a b G i j)(hc:i <= j)(hi:i<G.length)(hj:j<G.length)(ha:a<G.length)(h1:c G[a] G[i]<0)(h2:¬ c G[a] G[j]<0):EInv c a b (swp G i j hi hj) (i+1) (j-1):=by
 have k1:=p.hi;have k2:=p.hij;have k3:=p.hj;have k4:=p.hb;have hne:i≠j:=λe=>by subst e;exact h2 h1
 have hl:=zk9 hi hj;have pa:∀(hm:a<(swp G i j hi hj).length),(swp G i j hi hj)[a]=G[a]:=λhm=>by rw[zh0 hi hj hm ha,if_neg (by omega),if_neg (by omega)]
 refine⟨by omega,by omega,by omega,by omega,λk hk hm q1 q2=>?_,λk hk hm q1 q2=>?_⟩
 ·rw[pa,zh0 hi hj hk (by omega),if_neg (by omega)]
  by_cases e:k=i
  ·rw[if_pos e];exact h2
  ·rw[if_neg e];exact p.lo k (by omega) ha q1 (by omega)
 ·rw[pa,zh0 hi hj hk (by omega)]
  by_cases e:k=j
  ·rw[if_pos e];exact h1
  ·rw[if_neg e,if_neg (by omega)];exact p.hi2 k (by omega) ha (by omega) q2
section
variable{E:zbj}{X:Type}{cs:X->List za}{v:X->za}{h0 h:zb}{x f:za}{G:List X}{R:List (List za)}{c:X->X->Int}{Q:zQ}{Y1:zL}{a b i j:Nat}
end
structure SInv{X:Type}(c:X->X->Int)(a n lo r:Nat)(G:List X):Prop where
 len:a+n <= G.length
 heap:∀k,0<k->(hk:k<n)->lo <= (k-1) / 2->(k-1) / 2≠r->(h1:a+(k-1) / 2<G.length)->(h2:a+k<G.length)->¬ c G[a+(k-1) / 2] G[a+k]<0
 grand:lo <= (r-1) / 2->0<r->∀k,0<k->(hk:k<n)->(k-1) / 2=r->(h1:a+(r-1) / 2<G.length)->(h2:a+k<G.length)->¬ c G[a+(r-1) / 2] G[a+k]<0
def Heap{X:Type}(c:X->X->Int)(a n lo:Nat)(G:List X):Prop:=∀k,0<k->(hk:k<n)->lo <= (k-1) / 2->(h1:a+(k-1) / 2<G.length)->(h2:a+k<G.length)->¬ c G[a+(k-1) / 2] G[a+k]<0
section
variable{X:Type}{c:X->X->Int}{a n lo r ch:Nat}{G:List X}
theorem SInv.done(p:SInv c a n lo r G)(hr:∀k,0<k->k<n->(k-1) / 2=r->(h1:a+r<G.length)->(h2:a+k<G.length)->¬ c G[a+r] G[a+k]<0):Heap c a n lo G:=λk h0 hk hl h1 h2=>by
 by_cases e:(k-1) / 2=r
 ·have:=hr k h0 hk e (by rw[<-e];exact h1) h2
  simp only[e];exact this
 ·exact p.heap k h0 hk hl e h1 h2
theorem SInv.step(W:zpp (zfh c))(p:SInv c a n lo r G)(hlo:lo <= r)(hch:ch<n)(hp:(ch-1) / 2=r)(h0:0<ch)(hr:a+r<G.length)(hc:a+ch<G.length)(hlt:c G[a+r] G[a+ch]<0)
  (hmax:∀k,0<k->k<n->(k-1) / 2=r->(h2:a+k<G.length)->¬ c G[a+ch] G[a+k]<0):SInv c a n lo ch (swp G (a+r) (a+ch) hr hc):=by
 have hl:=zk9 hr hc;have hrc:r<ch:=by omega
 have asym:¬ c G[a+ch] G[a+r]<0:=by
  have:=W.asym (a:=G[a+r]) (b:=G[a+ch]) (by unfold zfh;exact decide_eq_true hlt);unfold zfh at this;exact of_decide_eq_false this
 refine⟨by rw[hl];exact p.len,λk k0 hk hlk hne h1 h2=>?_,λ_ _ k k0 hk hkp h1 h2=>?_⟩
 ·have g1:a+(k-1) / 2<G.length:=by omega
  have g2:a+k<G.length:=by omega
  rw[zh0 hr hc h1 g1,zh0 hr hc h2 g2,if_neg (by omega:¬ a+(k-1) / 2=a+ch)];by_cases e1:(k-1) / 2=r
  ·rw[if_pos (by omega)]
   by_cases e2:k=ch
   ·rw[if_pos (by omega)];exact asym
   ·rw[if_neg (by omega),if_neg (by omega)];exact hmax k k0 hk e1 g2
  ·rw[if_neg (by omega)]
   by_cases e2:k=r
   ·rw[if_neg (by omega),if_pos (by omega)]
    subst e2;exact p.grand hlk k0 ch h0 hch hp g1 hc
   ·rw[if_neg (by omega),if_neg (by omega)];exact p.heap k k0 hk hlk e1 g1 g2
 ·have g1:a+(ch-1) / 2<G.length:=by omega
  have g2:a+k<G.length:=by omega
  rw[zh0 hr hc h1 g1,zh0 hr hc h2 g2,if_neg (by omega),if_pos (by omega),if_neg (by omega),if_neg (by omega)];have:=p.heap k k0 hk (by omega) (by omega) (by omega) g2;simp only[hkp]at this;exact this
end
variable{C:z6}
section
variable{E:zbj}{X:Type}{cs:X->List za}{v:X->za}{h0 h:zb}{x f:za}{G:List X}{R:List (List za)}{c:X->X->Int}{Q:zQ}{Y1:zL}{a n lo r ch:Nat}
end
section
variable{X:Type}{c:X->X->Int}{a b n lo:Nat}{G G':List X}
theorem Heap.sinv{X:Type}{c:X->X->Int}{a n lo:Nat}{G:List X}(p:Heap c a n (lo+1) G)(hl:a+n <= G.length):SInv c a n lo lo G:=⟨hl,λk k0 hk h1 hne h2 h3=>p k k0 hk (by omega) h2 h3,λh1 h0=>by omega⟩
theorem Heap.none_{X:Type}{c:X->X->Int}{a n lo:Nat}{G:List X}(h:n <= 2*lo+1):Heap c a n lo G:=λk k0 hk h1 _ _=>by omega
theorem Heap.root(W:zpp (zfh c))(p:Heap c a n 0 G)(hl:a+n <= G.length):∀(k:Nat)(hk:k<n),¬ c (G[a]'(by omega)) (G[a+k]'(by omega))<0:=by
 intro k
 induction k using Nat.strongRecOn with
 | ind k ih=>
  intro hk;by_cases e:k=0
  ·subst e
   have:=W.irr (G[a]'(by omega));unfold zfh at this;simpa using this
  ·have h1:=ih ((k-1) / 2) (by omega) (by omega)
   have h2:=p k (by omega) hk (by omega) (by omega) (by omega);have:=W.zrh (a:=G[a]'(by omega)) (b:=G[a+(k-1) / 2]'(by omega)) (c:=G[a+k]'(by omega)) (by unfold zfh;exact decide_eq_false h1) (by unfold zfh;exact decide_eq_false h2);unfold zfh at this;exact of_decide_eq_false this
theorem zds.take(w:zds a b G G'):G'.take a=G.take a:=ext_getElem? λi=>by
 rw[getElem?_take,getElem?_take]
 split
 ·rename_i h;exact w.out i (.inl h)
 ·rfl
theorem zds.drop(w:zds a b G G'):G'.drop b=G.drop b:=ext_getElem? λi=>by
 rw[getElem?_drop,getElem?_drop];exact w.out (b+i) (.inr (by omega))
theorem split3(hab:a <= b)(G:List X):G=G.take a++((G.take b).drop a++G.drop b):=by
 have h1:G.take a=(G.take b).take a:=by rw[take_take,Nat.min_eq_left hab]
 rw[h1,<-append_assoc,take_append_drop,take_append_drop]
theorem zds.mid(w:zds a b G G')(hab:a <= b):((G'.take b).drop a).Perm ((G.take b).drop a):=by
 have h:=w.perm;rw[split3 hab G,split3 hab G',w.take,w.drop]at h;exact(perm_append_right_iff _).1 ((perm_append_left_iff _).1 h)
theorem zds.mem(w:zds a b G G'){k:Nat}(h1:a <= k)(h2:k<b)(hk:k<G'.length):∃k',a <= k' /\ k'<b /\ ∃h':k'<G.length,G'[k]=G[k']:=by
 have hm:G'[k]∈(G'.take b).drop a:=by
  rw[mem_iff_getElem?];refine⟨k-a,?_⟩;rw[getElem?_drop,getElem?_take,if_pos (by omega),Nat.add_sub_cancel' h1,getElem?_eq_getElem hk]
 have:=(w.mid (by omega)).mem_iff.1 hm;rw[mem_iff_getElem?]at this;obtain⟨i,hi⟩:=this;rw[getElem?_drop,getElem?_take]at hi;split at hi
 ·rename_i hlt
  obtain⟨hb,e⟩:=List.getElem?_eq_some_iff.1 hi;exact⟨a+i,by omega,hlt,hb,e.symm⟩
 ·cases hi
def Cut{X:Type}(c:X->X->Int)(A B a b:Nat)(G:List X):Prop:=∀p q,A <= p->p<q->q<B->p<a \/ b <= q->∀(h1:p<G.length)(h2:q<G.length),¬ c G[q] G[p]<0
def Srt{X:Type}(c:X->X->Int)(A B:Nat)(G:List X):Prop:=∀p q,A <= p->p<q->q<B->∀(h1:p<G.length)(h2:q<G.length),¬ c G[q] G[p]<0
theorem Cut.within{A B:Nat}(x:Cut c A B a b G)(w:zds a b G G')(ha:A <= a)(hb:b <= B):Cut c A B a b G':=λp q hp hpq hq h h1 h2=>by
 have hl:=w.len
 rcases h with h|h
 ·rw[w.same (.inl h) h1 (by omega)]
  by_cases hq2:a <= q /\ q<b
  ·obtain⟨q',h3,h4,h5,e⟩:=w.mem hq2.1 hq2.2 h2
   rw[e];exact x p q' hp (by omega) (by omega) (.inl h) (by omega) h5
  ·rw[w.same (by omega) h2 (by omega)];exact x p q hp hpq hq (.inl h) _ _
 ·rw[w.same (k:=q) (.inr h) h2 (by omega)]
  by_cases hp2:a <= p /\ p<b
  ·obtain⟨p',h3,h4,h5,e⟩:=w.mem hp2.1 hp2.2 h1
   rw[e];exact x p' q (by omega) (by omega) hq (.inr h) h5 (by omega)
  ·rw[w.same (k:=p) (by omega) h1 (by omega)];exact x p q hp hpq hq (.inr h) _ _
theorem Cut.join{A B:Nat}(x:Cut c A B a b G)(s:Srt c a b G):Srt c A B G:=λp q hp hpq hq h1 h2=>by
 by_cases h:p<a \/ b <= q
 ·exact x p q hp hpq hq h h1 h2
 ·exact s p q (by omega) hpq (by omega) h1 h2
theorem Cut.small{A B:Nat}(x:Cut c A B a b G)(s:b <= a+1):Srt c A B G:=x.join λp q _ _ _ _ _=>by omega
theorem within_mid{M:List X}(hab:a <= b)(hb:b <= G.length)(hp:M.Perm ((G.take b).drop a)):zds a b G (G.take a++(M++G.drop b)):=by
 have hl:=hp.length_eq;simp only[length_drop,length_take]at hl;refine⟨?_,λi hi=>?_⟩
 ·have:=(hp.append_right (G.drop b)).append_left (G.take a)
  rw[<-split3 hab G]at this;exact this
 ·rcases hi with hi|hi
  ·rw[getElem?_append_left (by rw[length_take];omega),getElem?_take,if_pos hi]
  ·rw[getElem?_append_right (by rw[length_take];omega),getElem?_append_right (by rw[length_take];omega),getElem?_drop,length_take]
   congr 1;omega
theorem srt_mid{M:List X}(hab:a <= b)(hb:b <= G.length)(hl:M.length=b-a)(hp:M.Pairwise λx y=>¬ c y x<0):Srt c a b (G.take a++(M++G.drop b)):=λp q hp1 hpq hq h1 h2=>by
 have e:∀k (h1:a <= k) (h2:k<b) (hk:k<(G.take a++(M++G.drop b)).length),(G.take a++(M++G.drop b))[k]=M[k-a]'(by omega):=λk h1 h2 hk=>by
  rw[getElem_append_right (by rw[length_take];omega),getElem_append_left (by rw[length_take];omega)]
  congr 1;rw[length_take];omega
 rw[e p hp1 (by omega),e q (by omega) hq]
 exact pairwise_iff_getElem.1 hp _ _ _ _ (by omega)
end
variable{C:z6}
section
variable{E:zbj}{X:Type}{cs:X->List za}{v:X->za}{h0 h:zb}{x f:za}{G:List X}{R:List (List za)}{c:X->X->Int}{Q:zQ}{a b:Nat}
end
variable{C:z6}
def Pre{X:Type}(c:X->X->Int)(a b:Nat)(G:List X):Prop:=0<a->∀i,a <= i->i<b->∀(h1:i<G.length)(h2:a-1<G.length),¬ c G[i] G[a-1]<0
theorem Pre.within{X:Type}{c:X->X->Int}{a b:Nat}{G G':List X}(p:Pre c a b G)(w:zds a b G G'):Pre c a b G':=λh0 i h1 h2 h3 h4=>by
 have hl:=w.len
 obtain⟨k,k1,k2,k3,e⟩:=w.mem h1 h2 h3
 rw[e,w.same (k:=a-1) (.inl (by omega)) h4 (by omega)]
 exact p h0 k k1 k2 _ _
def But1{X:Type}(c:X->X->Int)(A B j:Nat)(G:List X):Prop:=∀p q,A <= p->p<q->q<B->q≠j->∀(h1:p<G.length)(h2:q<G.length),¬ c G[q] G[p]<0
section
variable{X:Type}{c:X->X->Int}{A B j:Nat}{G:List X}
theorem But1.done(W:zpp (zfh c))(x:But1 c A B j G)(hj:j<G.length)(h:j <= A \/ ∀(h1:j-1<G.length),¬ c G[j] G[j-1]<0):Srt c A B G:=λp q h1 h2 h3 h4 h5=>by
 by_cases e:q=j
 ·subst e
  have h:=h.resolve_left (by omega)
  by_cases e2:p=q-1
  ·subst e2;exact h _
  ·have k1:=x p (q-1) h1 (by omega) (by omega) (by omega) h4 (by omega)
   have:=W.zrh (a:=G[q]) (b:=G[q-1]'(by omega)) (c:=G[p]) (by unfold zfh;exact decide_eq_false (h _)) (by unfold zfh;exact decide_eq_false k1)
   unfold zfh at this;exact of_decide_eq_false this
 ·exact x p q h1 h2 h3 e h4 h5
theorem But1.step(W:zpp (zfh c))(x:But1 c A B j G)(hA:A<j)(hj:j<G.length)(hj1:j-1<G.length)(hlt:c G[j] G[j-1]<0):But1 c A B (j-1) (swp G j (j-1) hj hj1):=λp q h1 h2 h3 h4 h5 h6=>by
 have hl:=zk9 hj hj1
 rw[zh0 hj hj1 h6 (by omega),if_neg h4,zh0 hj hj1 h5 (by omega)]
 by_cases e:q=j
 ·rw[if_pos e]
  split
  ·have:=W.asym (a:=G[j]) (b:=G[j-1]) (by unfold zfh;exact decide_eq_true hlt)
   unfold zfh at this;exact of_decide_eq_false this
  ·rw[if_neg (by omega)];exact x p (j-1) h1 (by omega) (by omega) (by omega) (by omega) hj1
 ·rw[if_neg e]
  split
  ·exact x j q (by omega) (by omega) h3 e hj (by omega)
  ·split
   ·exact x (j-1) q (by omega) (by omega) h3 e hj1 (by omega)
   ·exact x p q h1 h2 h3 e (by omega) (by omega)
end
section
variable{E:zbj}{X:Type}{cs:X->List za}{v:X->za}{h0 h:zb}{x f:za}{G:List X}{R:List (List za)}{c:X->X->Int}{Q:zQ}{Y1:zL}{a b i s:Nat}
end
variable{C:z6}{N:zN}
theorem SlX.zqo{T:Type}{h:zb}{es:Nat}{x:za}{f:T->List za}{L:List T}{R:List (List za)}(hs:SlX h es x (L.map f) R)(hes:0<es){lo hi:Nat}{a b:Option za}(ha:a=none /\ lo=0 \/ ∃k,a=some (.int k lo))(hb:b=none /\ hi=L.length \/ ∃k,b=some (.int k hi))(h1:lo <= hi)(h2:hi <= L.length):
  ∃x' R',V.zjp es x a b=some x' /\ SlX h es x' (((L.take hi).drop lo).map f) R' /\ zgv x'=zgv x:=by
 obtain⟨x',e1,e2,e3⟩:=hs.slice hes ha (by simpa using hb) h1 (by simp;omega);refine⟨x',(L.map f++R).drop hi,e1,?_,e3⟩
 rwa [take_append_of_le_length (by simpa using h2),<-map_take,<-map_drop]at e2
variable{C:z6}{N:zN}
def be(n:Int):Nat->List UInt8|0=>[]|k+1=>byt (n.fdiv (2 ^ (8*k)))::be n k
@[simp] theorem be_len(n:Int):∀k,(be n k).length=k
 | 0=>rfl
 | k+1=>by simp[be,be_len n k]
variable{C:z6}{N:zN}
theorem bin_shl{k j:IntKind}{a b:Int}(h0:0 <= b)(h1:b<k.bits):V.bin .shl (.int k a) (.int j b)=some (.int k (k.wrap (a*2 ^ b.toNat))):=by
 simp only[V.bin,V.shift];rw[if_neg (by omega),Nat.min_eq_left (by omega)]
variable{C:z6}{N:zN}
theorem V.bin_xor(k:IntKind)(a b:Int):V.bin .xor (.int k a) (.int k b)=some (.int k (k.wrap (BitVec.ofInt k.bits a ^^^ BitVec.ofInt k.bits b).toNat)):=by simp[V.bin,V.arith]
theorem V.bin_and(k:IntKind)(a b:Int):V.bin .and (.int k a) (.int k b)=some (.int k (k.wrap (BitVec.ofInt k.bits a &&& BitVec.ofInt k.bits b).toNat)):=by simp[V.bin,V.arith]
theorem wrapU{n:Nat}(h:n<18446744073709551616):IntKind.u64.wrap (n:Int)=n:=by rw[wrap_u64];omega
theorem toUN{n:Nat}(h:n<18446744073709551616):V.toInt .u64 (.int .i64 (n:Int))=some (.int .u64 (n:Int)):=by rw[V.toInt_int,wrapU h]
theorem toIN{k:IntKind}{n:Nat}(h:n<4611686018427387904):V.toInt .i64 (.int k (n:Int))=some (.int .i64 (n:Int)):=by rw[V.toInt_int,wrap_i64 (by omega) (by omega)]
theorem and_le{z:Int}{m:Nat}(h:m<4611686018427387904):∃o:Nat,o <= m /\ V.bin .and (.int .u64 z) (.int .u64 (m:Int))=some (.int .u64 (o:Int)):=by
 refine⟨(BitVec.ofInt 64 z &&& BitVec.ofInt 64 (m:Int)).toNat,?_,?_⟩
 ·rw[BitVec.toNat_and]
  refine Nat.le_trans Nat.and_le_right ?_;rw[BitVec.toNat_ofInt];omega
 ·rw[V.bin_and]
  show some (za.int .u64 (IntKind.u64.wrap ((BitVec.ofInt 64 z &&& BitVec.ofInt 64 (m:Int)).toNat:Int)))=_;rw[wrapU (BitVec.isLt _)]
def lenT:List UInt8:=[0,1,2,2,3,3,3,3,4,4,4,4,4,4,4,4,5,5,5,5,5,5,5,5,5,5,5,5,5,5,5,5,6,6,6,6,6,6,6,6,6,6,6,6,6,6,6,6,6,6,6,6,6,6,6,6,6,6,6,6,6,6,6,6,7,7,7,7,7,7,7,7,7,7,7,7,7,7,7,7,7,7,7,7,7,7,7,7,7,7,7,7,7,7,7,7,7,7,7,7,7,7,7,7,7,7,7,7,7,7,7,7,7,7,7,7,7,7,7,7,7,7,7,7,7,7,7,7,8,8,8,8,8,8,8,8,8,8,8,8,8,8,8,8,8,8,8,8,8,8,8,8,8,8,8,8,8,8,8,8,8,8,8,8,8,8,8,8,8,8,8,8,8,8,8,8,8,8,8,8,8,8,8,8,8,8,8,8,8,8,8,8,8,8,8,8,8,8,8,8,8,8,8,8,8,8,8,8,8,8,8,8,8,8,8,8,8,8,8,8,8,8,8,8,8,8,8,8,8,8,8,8,8,8,8,8,8,8,8,8,8,8,8,8,8,8,8,8,8,8,8,8,8,8,8,8]
theorem idxStr_u8{s:List UInt8}{k:Nat}{b:UInt8}(hb:s[k]?=some b):V.zqc (.str s) (.int .u8 (k:Int))=some (.int .u8 b.toNat):=by
 simp[V.zqc,hb]
theorem lenT_all:∀k:Fin 256,∃b:Fin 9,lenT[k.val]?=some (UInt8.ofNat b.val) /\ (0<k.val->2 ^ b.val <= 2*k.val):=by decide +kernel
theorem lenTab{k:Nat}(h:k<256):∃b:Nat,V.zqc (.str lenT) (.int .u8 (k:Int))=some (.int .u8 (b:Int)) /\ b <= 8 /\ (0<k->2 ^ b <= 2*k):=by
 obtain⟨b,e,hb⟩:=lenT_all ⟨k,h⟩;have hb9:=b.isLt;refine⟨b.val,?_,by omega,hb⟩;rw[idxStr_u8 e];congr 2;rw[UInt8.toNat_ofNat',Nat.mod_eq_of_lt (by omega)]
theorem Len64_k1{Q:zQ}{v0 v2:za}{h:zb}:zbn.k1 C N Q v0 v2 h=(B.pv (V.toInt .u8 v0) λv21=>B.pv (V.zqc (.str lenT) v21) λv22=>B.pv (V.toInt .i64 v22) λv23=>B.pv (V.bin .add v2 v23) λv24=>Q v24 h):=rfl
theorem Len64_spec{x:Nat}(hx:x <= 100000000){h:zb}{Q:zQ}(hq:∀r:Nat,r <= 32->(0<x->2 ^ r <= 2*x)->Q (.int .i64 (r:Int)) h):zbn.cps C N (.int .u64 (x:Int)) h Q:=by
 have fin:∀(y s:Nat),y<256->s <= 24->(0<x->0<y)->2 ^ s*y <= x->zbn.k1 C N Q (.int .u64 (y:Int)) (.int .i64 (s:Int)) h:=λy s hy hs h0 hle=>by
  obtain⟨b,e,hb,hp⟩:=lenTab hy;have e1:V.toInt .u8 (.int .u64 (y:Int))=some (.int .u8 (y:Int)):=by rw[V.toInt_int,wrap_u8];congr 2;omega
  rw[Len64_k1];simp -dsimp only[e1,B.ze,e,toIN (show b<4611686018427387904 by omega),zr9 (show s+b<4611686018427387904 by omega)];refine hq (s+b) (by omega) λhx0=>?_;have h1:=hp (h0 hx0);have h2:2 ^ s*2 ^ b <= 2 ^ s*(2*y):=Nat.mul_le_mul_left _ h1;rw[Nat.pow_add];have h3:2 ^ s*(2*y)=2*(2 ^ s*y):=by rw[Nat.mul_left_comm]
  omega
 have sh:∀(y j:Nat),j<64->V.bin .shr (.int .u64 (y:Int)) (.int .u64 (j:Int))=some (.int .u64 ((y / 2 ^ j:Nat):Int)):=λy j hj=>by
  rw[bin_shr (by omega) (by simp[IntKind.bits];omega),Int.toNat_natCast];congr 2;rw[Int.fdiv_eq_ediv_of_nonneg _ (by exact_mod_cast Nat.zero_le (2 ^ j))];simp
 have g3:V.bin .geq (.int .u64 (x:Int)) (.int .u64 4294967296)=some (.bool false):=by rw[V.zpo];simp;omega
 have gk:∀y m:Nat,V.bin .geq (.int .u64 (y:Int)) (.int .u64 (m:Int))=some (.bool (decide (m <= y))):=λy m=>by rw[V.zpo];congr 3;exact propext (by omega)
 have low:∀(y s:Nat),y<65536->s <= 16->(0<x->0<y)->2 ^ s*y <= x->zbn.k2 C N Q (.int .u64 (y:Int)) (.int .i64 (s:Int)) h:=λy s hy hs h0 hle=>by
  have g1:V.bin .geq (.int .u64 (y:Int)) (.int .u64 256)=some (.bool (decide (256 <= y))):=gk y 256;have s1:V.bin .shr (.int .u64 (y:Int)) (.int .u64 8)=some (.int .u64 ((y / 2 ^ 8:Nat):Int)):=sh y 8 (by omega);have a1:V.bin .add (.int .i64 (s:Int)) (.int .i64 8)=some (.int .i64 ((s+8:Nat):Int)):=zr9 (a:=s) (b:=8) (by omega);simp -dsimp only[zbn.k2,g1,B.ze];refine B.zbc (λhd=>?_) (λhd=>?_)
  ·rw[decide_eq_true_eq]at hd
   simp -dsimp only[s1,a1,B.ze];refine fin (y / 2 ^ 8) (s+8) (by omega) (by omega) (λ_=>by omega) ?_;rw[Nat.pow_add,Nat.mul_assoc];refine Nat.le_trans (Nat.mul_le_mul_left _ ?_) hle;omega
  ·rw[decide_eq_false_iff_not]at hd
   exact fin y s (by omega) (by omega) h0 hle
 have g2:V.bin .geq (.int .u64 (x:Int)) (.int .u64 65536)=some (.bool (decide (65536 <= x))):=gk x 65536;have s2:V.bin .shr (.int .u64 (x:Int)) (.int .u64 16)=some (.int .u64 ((x / 2 ^ 16:Nat):Int)):=sh x 16 (by omega);simp -dsimp only[zbn.cps,zbn.k4,zbn.k3,g3,g2,s2,B.ze,B.cond_false];refine B.zbc (λhd=>?_) (λhd=>?_)
 ·rw[decide_eq_true_eq]at hd
  simp -dsimp only[s2,show V.bin .add (.int .i64 0) (.int .i64 16)=some (.int .i64 ((16:Nat):Int)) from rfl,B.ze];exact low (x / 2 ^ 16) 16 (by omega) (by omega) (λ_=>by omega) (by omega)
 ·rw[decide_eq_false_iff_not]at hd
  exact low x 0 (by omega) (by omega) id (by simp)
theorem Len_spec(i:zbn.Imp C N){x:Nat}(hx:x <= 100000000){h:zb}{Q:zQ}(hq:∀r:Nat,r <= 32->(0<x->2 ^ r <= 2*x)->Q (.int .i64 (r:Int)) h):zd9.cps C N (.int .u64 (x:Int)) h Q:=by
 simp -dsimp only[zd9.cps,zd9.k1,B.cond_false];exact i _ _ _ (Len64_spec hx λr h1 h2=>zbf (hq r h1 h2))
def LenI(C:z6)(f:Nat):Prop:=∀(x:Nat)(h:zb)(Q:zQ),x <= 100000000->(∀r:Nat,r <= 32->(0<x->2 ^ r <= 2*x)->Q (.int .i64 (r:Int)) h)->C f [.int .u64 (x:Int)] h Q
theorem zd9.spec(i:zd9.Imp C N)(i2:zbn.Imp C N):LenI C (N 287):=λx h Q hx hq=>i _ _ _ (Len_spec i2 hx λr h1 h2=>zbf (hq r h1 h2))
def PowI(C:z6)(f:Nat):Prop:=∀(n:Nat)(h:zb)(Q:zQ),0<n->n <= 100000000->(∀m:Nat,0<m->m <= 2*n->Q (.int .u64 (m:Int)) h)->C f [.int .i64 (n:Int)] h Q
theorem zdb.spec(i:zdb.Imp C N)(hl:LenI C (N 287)):PowI C (N 299):=λn h Q h0 hn hq=>by
 apply i;simp -dsimp only[zdb.cps,toUN (show n<18446744073709551616 by omega),B.ze];refine hl n h _ hn λr hr hp=>?_;have e:V.bin .shl (.int .u64 1) (.int .i64 (r:Int))=some (.int .u64 ((2 ^ r:Nat):Int)):=by
  rw[bin_shl (by omega) (by simp[IntKind.bits];omega),Int.toNat_natCast];have:(1:Int)*2 ^ r=((2 ^ r:Nat):Int):=by simp
  rw[this,wrapU];have:=hp h0;omega
 simp -dsimp only[e,B.ze];exact zbf (hq (2 ^ r) (Nat.pos_of_ne_zero (by simp)) (hp h0))
def NextI(C:z6)(f:Nat):Prop:=∀(h0 h:zb)(p:za)(n:Int)(Q:zQ),zcy h0 h [.box p [.int .u64 n]]->(∀m m' h',zcy h0 h' [.box p [.int .u64 m']]->Q (.int .u64 m) h')->C f [p] h Q
theorem zcq.spec(i:zcq.Imp C N):NextI C (N 298):=λh0 h p n Q ho hq=>by
 have key:∀{h:zb}{n:Int},zcy h0 h [.box p [.int .u64 n]]->∃id,p= .ptr id 0 0 /\ A.ldv h (.ptr id 0 0)=some (.int .u64 n):=λ{h n} ho=>by
  obtain⟨id,rfl,hb⟩:=ho.zr8 0 rfl
  exact⟨id,rfl,by rw[ldv_at hb];rfl⟩
 apply i
 obtain⟨id,rfl,ld⟩:=key ho
 simp -dsimp only[zcq.cps,zcq.k1,B.zb9,B.zeo,ld,B.ze,bin_shl (k:= .u64) (j:= .u64) (b:=13) (by omega) (by simp[IntKind.bits]),V.bin_xor]
 refine ho.zuf 0 (off:=0) rfl rfl (by simp) λh1 o1 _=>?_
 simp only[set_cons_zero]at o1
 obtain⟨id1,e,ld1⟩:=key o1
 cases e
 simp -dsimp only[B.zb9,B.zeo,ld1,B.ze,bin_shr (k:= .u64) (j:= .u64) (b:=7) (by omega) (by simp[IntKind.bits]),V.bin_xor]
 refine o1.zuf 0 (off:=0) rfl rfl (by simp) λh2 o2 _=>?_
 simp only[set_cons_zero]at o2
 obtain⟨id2,e,ld2⟩:=key o2
 cases e
 simp -dsimp only[B.zb9,B.zeo,ld2,B.ze,bin_shl (k:= .u64) (j:= .u64) (b:=17) (by omega) (by simp[IntKind.bits]),V.bin_xor]
 refine o2.zuf 0 (off:=0) rfl rfl (by simp) λh3 o3 _=>?_
 simp only[set_cons_zero]at o3
 obtain⟨id3,e,ld3⟩:=key o3
 cases e
 simp -dsimp only[B.zb9,B.zeo,ld3,B.ze]
 exact zbf (hq _ _ _ o3)
section
variable{E:zbj}{X:Type}{cs:X->List za}{v:X->za}{h0 h:zb}{x f:za}{G:List X}{R:List (List za)}{Q:zQ}{a b:Nat}
end
variable{C:z6}
section
variable{X:Type}{c:X->X->Int}{a b m A0 Z0:Nat}{G G':List X}
theorem le_of(W:zpp (zfh c)){x y z:X}(h1:¬ c x y<0)(h2:¬ c y z<0):¬ c x z<0:=by
 have:=W.zrh (a:=x) (b:=y) (c:=z) (by unfold zfh;exact decide_eq_false h1) (by unfold zfh;exact decide_eq_false h2);unfold zfh at this;exact of_decide_eq_false this
theorem nlt_of(W:zpp (zfh c)){x y:X}(h:c x y<0):¬ c y x<0:=by
 have:=W.asym (a:=x) (b:=y) (by unfold zfh;exact decide_eq_true h);unfold zfh at this;exact of_decide_eq_false this
theorem le_self(W:zpp (zfh c))(x:X):¬ c x x<0:=by
 have:=W.irr x;unfold zfh at this;exact of_decide_eq_false this
theorem zk7.pair(W:zpp (zfh c))(x:zk7 c a b m G){p q:Nat}(h1:a <= p)(h2:p<q)(h3:q<b)(h4:p <= m)(h5:m <= q)(hp:p<G.length)(hq:q<G.length):¬ c G[q] G[p]<0:=by
 have hm:m<G.length:=by omega
 have e1:p<m->¬ c G[m] G[p]<0:=λk=>nlt_of W (x.lo p hp hm h1 k);have e2:m<q->¬ c G[q] G[m]<0:=λk=>x.hi q hq hm k h3;by_cases k1:p=m
 ·subst k1;exact e2 (by omega)
 ·by_cases k2:q=m
  ·subst k2;exact e1 (by omega)
  ·exact le_of W (e2 (by omega)) (e1 (by omega))
theorem zk7.left(W:zpp (zfh c))(x:zk7 c a b m G)(w:zds a m G G'):zk7 c a b m G':=by
 have hl:=w.len;refine⟨x.ge,x.lt,by have:=x.hb;omega,λk h hm h1 h2=>?_,λk h hm h1 h2=>?_⟩
 ·obtain⟨k',k1,k2,k3,e⟩:=w.mem h1 h2 h
  rw[e,w.same (k:=m) (.inr (by omega)) hm (by omega)];exact x.lo k' k3 _ k1 k2
 ·rw[w.same (k:=m) (.inr (by omega)) hm (by omega),w.same (k:=k) (.inr (by omega)) h (by omega)]
  exact x.hi k _ _ h1 h2
theorem zk7.right(W:zpp (zfh c))(x:zk7 c a b m G)(w:zds (m+1) b G G'):zk7 c a b m G':=by
 have hl:=w.len;refine⟨x.ge,x.lt,by have:=x.hb;omega,λk h hm h1 h2=>?_,λk h hm h1 h2=>?_⟩
 ·rw[w.same (k:=m) (.inl (by omega)) hm (by omega),w.same (k:=k) (.inl (by omega)) h (by omega)]
  exact x.lo k _ _ h1 h2
 ·obtain⟨k',k1,k2,k3,e⟩:=w.mem (k:=k) (by omega) h2 h
  rw[e,w.same (k:=m) (.inl (by omega)) hm (by omega)];exact x.hi k' k3 _ (by omega) k2
theorem Cut.left(W:zpp (zfh c))(x:Cut c A0 Z0 a b G)(p:zk7 c a b m G)(s:Srt c a m G):Cut c A0 Z0 (m+1) b G:=λi j h1 h2 h3 h4 h5 h6=>by
 by_cases k:i<a \/ b <= j
 ·exact x i j h1 h2 h3 k h5 h6
 ·by_cases k2:j<m
  ·exact s i j (by omega) h2 k2 h5 h6
  ·exact p.pair W (by omega) h2 (by omega) (by omega) (by omega) h5 h6
theorem Cut.right(W:zpp (zfh c))(x:Cut c A0 Z0 a b G)(p:zk7 c a b m G)(s:Srt c (m+1) b G):Cut c A0 Z0 a m G:=λi j h1 h2 h3 h4 h5 h6=>by
 by_cases k:i<a \/ b <= j
 ·exact x i j h1 h2 h3 k h5 h6
 ·by_cases k2:m<i
  ·exact s i j (by omega) h2 (by omega) h5 h6
  ·exact p.pair W (by omega) h2 (by omega) (by omega) (by omega) h5 h6
theorem Cut.pre(x:Cut c A0 Z0 a b G)(h:A0<a)(hb:b <= Z0):Pre c a b G:=λh0 i h1 h2 h3 h4=>x (a-1) i (by omega) (by omega) (by omega) (.inl (by omega)) h4 h3
theorem Pre.sub(x:Pre c a b G)(h:m <= b):Pre c a m G:=λh0 i h1 h2 h3 h4=>x h0 i h1 (by omega) h3 h4
theorem Cut.equal(W:zpp (zfh c)){i j:Nat}(x:Cut c A0 Z0 a b G)(p:EInv c a b G i j)(hji:j<i)(ha:0<a)(hp:Pre c a b G)(hlt:a<b)(hd:∀(h1:a-1<G.length)(h2:a<G.length),¬ c G[a-1] G[a]<0):Cut c A0 Z0 i b G:=λs t h1 h2 h3 h4 h5 h6=>by
 have e:=p.hij;have e3:=p.hi;by_cases k:s<a \/ b <= t
 ·exact x s t h1 h2 h3 k h5 h6
 ·have la:a<G.length:=by omega
  have sp:¬ c G[a] G[s]<0:=by
   by_cases k3:s=a
   ·subst k3;exact le_self W _
   ·exact p.lo s h5 la (by omega) (by omega)
  by_cases k2:t<i
  ·have t1:=hp ha t (by omega) (by omega) h6 (by omega)
   exact le_of W (le_of W t1 (hd (by omega) la)) sp
  ·exact le_of W (nlt_of W (p.hi2 t h6 la (by omega) (by omega))) sp
end
abbrev I5(F:za->za->za->za->za->zb->(zQ)->Prop)(C:z6)(n:Nat):Prop:=∀(v0 v1 v2 v3 v4:za)(h:zb)(Q:zQ),F v0 v1 v2 v3 v4 h (dn Q)->C n [v0,v1,v2,v3,v4] h Q
abbrev I4(F:za->za->za->za->zb->(zQ)->Prop)(C:z6)(n:Nat):Prop:=∀(v0 v1 v2 v3:za)(h:zb)(Q:zQ),F v0 v1 v2 v3 h (dn Q)->C n [v0,v1,v2,v3] h Q
section
variable{E:zbj}{X:Type}{cs:X->List za}{v:X->za}{h0 h:zb}{x f:za}{G:List X}{R:List (List za)}{c:X->X->Int}{Q:zQ}{Y:zL}{f1 f2 f3 f4 f5 f6 f7 f8 f9 g1 g2 g3 g4 g5 g6:Nat}
structure PS(E:zbj){X:Type}(cs:X->List za)(h0:zb)(x:za)(R:List (List za))(c:X->X->Int)(A0 Z0:Nat)(G0:List X)(a b:Nat)(G:List X)(h:zb):Prop where
 hA:A0 <= a
 hab:a <= b
 hB:b <= Z0
 W:zds A0 Z0 G0 G
 cut:Cut c A0 Z0 a b G
 pre:Pre c a b G
 o:Rw E cs h0 h x G R
theorem PS.zh9{A0 Z0 a b:Nat}{G0 G':List X}{h':zb}(p:PS E cs h0 x R c A0 Z0 G0 a b G h)(w:zds a b G G')(o:Rw E cs h0 h' x G' R):PS E cs h0 x R c A0 Z0 G0 a b G' h':=⟨p.hA,p.hab,p.hB,p.W.trans (w.mono p.hA p.hB),p.cut.within w p.hA p.hB,p.pre.within w,o⟩
abbrev Go1(E:zbj){X:Type}(cs:X->List za)(h0:zb)(x:za)(R:List (List za))(c:X->X->Int)(A0 Z0:Nat)(G0:List X)(n:Nat)(Y:zL):Prop:=∀a b (lim:Int) w1 w2 G h,b-a<n->PS E cs h0 x R c A0 Z0 G0 a b G h->Y [.int .i64 (a:Int),.int .i64 (b:Int),.int .i64 lim,.bool w1,.bool w2] h
end
end Go.Ab
