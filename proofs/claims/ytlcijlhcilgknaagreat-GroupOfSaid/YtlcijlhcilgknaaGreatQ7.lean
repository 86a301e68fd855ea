/- What is proved: a part of the way to the statement: L12z. No conditions. -/
import Derived.Test.YtlcijlhcilgknaaGreatRows
import Derived.Test.YtlcijlhcilgknaaGreatQ6
import Derived.Lib.Bytealg
import Derived.Test.YtlcijlhcilgknaaGreatQ3
set_option linter.unusedVariables false
set_option linter.unusedSimpArgs false
set_option maxRecDepth 100000
namespace Go.Ab.S12z
open Go.Ab Go.Proofs
noncomputable abbrev P:Program:=Tryz.prog
def lkz:List (Nat×List Nat)->Nat->List Nat
 | [],_=>[]
 | (a,b)::r,k=>bif Nat.beq a k then b else lkz r k
def pz (e:List (Nat×List Nat)):Nat->List (Nat×List Nat)
 | 0=>[]
 | n+1=>pz e n++[(n,lkz e n)]
@[reducible] def LkT (P:Program) (I:Bx) (f:Func) (F:CSem->(zQ)->zb8->za->Prop):Prop:= ∀ {C:CSem} (hC:zlw C) (Q:zQ) (s:zb8) (h:za),F C Q s h->bwp P C I (f.body.getD .skip) (retB P I f.results.toList Q) s h
theorem eT {P:Program} {C:CSem} {I:Bx} (hC:zlw C) {c:Code} {Q:Ex->zb8->za->Prop} {s:zb8} {h:za} (X:zb8->za->Prop) {p:Prop} (hR:p) (hb: ∀ s h,X s h->bwp P C I (cB c) Q s h) (e:bwp P C I (cA c) (Ex.then X Q) s h=p:=by kernel_rfl) (hk:isS c=true:=by kernel_rfl):bwp P C I c Q s h:=eS hC X (e1 hR e) hb hk
@[reducible] def on1 (F:AVal->zG):List AVal->zG
 | [a],u,v,w=>F a u v w
 | _,_,_,_=>False
@[reducible] def on2 (F:AVal->AVal->zG):List AVal->zG
 | [a,b],u,v,w=>F a b u v w
 | _,_,_,_=>False
@[reducible] def on3 (F:AVal->AVal->AVal->zG):List AVal->zG
 | [a,b,c],u,v,w=>F a b c u v w
 | _,_,_,_=>False
@[reducible] def on4 (F:AVal->AVal->AVal->AVal->zG):List AVal->zG
 | [a,b,c,d],u,v,w=>F a b c d u v w
 | _,_,_,_=>False
@[reducible] def on5 (F:AVal->AVal->AVal->AVal->AVal->zG):List AVal->zG
 | [a,b,c,d,e],u,v,w=>F a b c d e u v w
 | _,_,_,_=>False
@[reducible] def on6 (F:AVal->AVal->AVal->AVal->AVal->AVal->zG):List AVal->zG
 | [a,b,c,d,e,f],u,v,w=>F a b c d e f u v w
 | _,_,_,_=>False
@[reducible] def on9 (F:AVal->AVal->AVal->AVal->AVal->AVal->AVal->AVal->AVal->zG):List AVal->zG
 | [a,b,c,d,e,f,g,i,j],u,v,w=>F a b c d e f g i j u v w
 | _,_,_,_=>False
def N (k:Nat):Nat:=[0,0,0,0,0,0,0,0,0,0,0,0,0,0,0,0,0,0,134,0,72,0,0,0,0,0,0,0,0,0,0,0,0,0,168,0,0,0,0,0,0,0,140,0,0,0,0,0,52,0,0,0,0,0,63,0,65,0,0,0,0,0,51,0,133,0,0,0,0,0,0,0,0,0,68,167,0,106,136,0,83,84,85,86,87,88,89,90,91,92,93,94,95,96,97,98,99,100,101,102,103,104,105,0,0,0,35,135,112,34,44,107,137,138,139,141,28,142,143,144,145,146,147,148,149,150,151,152,153,154,157,0,80,18,67,69,169,170,171,0,0,0,0,0,0,0,0,0,0,0,0,0,0,0,0,0,0,0,0,0,0,0,0,0,0,0,0,0,0,0,0,0,0,0,0,0,0,0,0,0,0,0,0,0,0,0,53,0,0,64,66,0,0,0,0,0,0,0,0,0,0,0,0,0,0,0,59,158,0,0,0,0,0,0,0,0,0,0,0,0,0,0,0,0,0,0,0,0,0,0,0,0,0,0,0,0,0,0,0,0,0,0,0,0,0,0,0,0,0,0,0,0,0,0,0,0,0,0,0,0,0,0,0,0,0,0,0,0,0,0,0,0,0,0,0,0,0,0,0,0,0,0,0,0,0,0,0,76,0,0,0,0,0,0,0,0,0,0,161,160,0,0,0,0,122,123,0,0,0,0,0,0,0,0,0,0,0,0,0,71,0,0,0,0,79,0,0,0,0,0,0,0,0,0,0,0,0,0,0,0,0,0,0,0,0,0,0,0,0,0,0,0,0,0,0,0,0,0,0,0,0,0,0,0,37,42,0,108,0,0,0,0,0,109,0,75,155,119,120,121,118,117,116,115,114,113,159,162,163,132,173,8,12,14,0,0,20,0,0,33,43,45,0,0,0,50,9,13,81,15,0,0,0,0,0,0,0,0,0,0,0,0,0,0,0,0,0,0,0,0,0,0,0,0,0,0,0,0,0,0,0,0,61,0,0,110,22,25,26,0,0,0,0,30,0,0,0,0,0,0,0,0,0,0,0,0,0,0,0,0,70,0,0,111,0,156,0,0,0,0,172,175,0,0,0,0,0,0,0,0,0,0,0,0,0,0,0,0,0,0,0,0,0,0,0,0,0,0,0,0,0,0,0,0,0,0,0,0,0,0,0,0,0,0,0,0,0,0,0,0,0,0,0,0,0,0,0,0,0,0,0,0,0,0,0,0,0,0,0,0,0,0,0,11,10,6,7,0,24,23,21,0,31,16,32,40,39,38,36,62,56,58,57,60,55,54,74,73,41,77,78,130,131,129,128,127,126,125,124,166,165,164,174,17,19,3,27,29,4,5,47,48,46,49,82].getD k 0
theorem mixed:P.follows .mixedOrders=true:=by kernel_rfl
def zd6.I:Bx:=⟨[],[],71,[]⟩
theorem zd6.L:LkT P zd6.I Tryz.f3 fun C Q s h=>zd6.cps C N (s 0) (s 1) h Q:=fun {C} hC Q s h hR=>e1 hR
theorem zd6.imp:zd6.Imp (AC P) N:=fun a b h Q hR=>eF mixed (fn:=Tryz.f3) (fun hC=>zd6.L hC (dn Q) (zcd [a,b]) h hR)
def zdk.I:Bx:=⟨[],[],38,[]⟩
theorem zdk.L:LkT P zdk.I Tryz.f6 fun C Q s h=>zdk.cps C N (s 0) (s 1) h Q:=fun {C} hC Q s h hR=>eT hC (fun s h=>zg (zdk.l3 C N Q (s 0) (s 1)) [(.int .i64 0),(.int .i64 0)] h) hR (fun s h hR=>eT hC (fun s h=>zg (zdk.l3 C N Q (s 0) (s 1)) [(s 5),(.int .i64 0)] h) hR (fun s h hR=>eS hC (fun s h=>zdk.k1 C N Q (s 0) (s 5) h) (eT hC (fun s h=>zg (zdk.l3 C N Q (s 0) (s 1)) [(s 5),(s 6)] h) hR (fun s h hR=>eK (eL hC [0,1] [5,6] (on2 (zdk.l3 C N Q)) hR (fun Y1 s h hR=>e1 hR)))) (fun s h hR=>e1 hR)))
theorem zdk.imp:zdk.Imp (AC P) N:=fun a b h Q hR=>eF mixed (fn:=Tryz.f6) (fun hC=>zdk.L hC (dn Q) (zcd [a,b]) h hR)
def zez.I:Bx:=⟨[1],[],49,[]⟩
theorem zez.L:LkT P zez.I Tryz.f7 fun C Q s h=>zez.cps C N h Q:=fun {C} hC Q s h hR=>e1 hR
theorem zez.imp:zez.Imp (AC P) N:=fun h Q hR=>eF mixed (fn:=Tryz.f7) (fun hC=>zez.L hC (dn Q) (zcd []) h hR)
def zcq.I:Bx:=⟨[5],[],39,[]⟩
theorem zcq.L:LkT P zcq.I Tryz.f8 fun C Q s h=>zcq.cps C N (s 0) h Q:=fun {C} hC Q s h hR=>eT hC (fun s h=>zcq.k5 C N Q (s 0) h) hR (fun s h hR=>eT hC (fun s h=>zg (zcq.l4 C N Q (s 0)) [(s 3),(.int .i64 0)] h) hR (fun s h hR=>eS hC (fun s h=>zg (zcq.l2 C N Q (s 0)) [(s 3),(.int .i64 0)] h) (eT hC (fun s h=>zg (zcq.l4 C N Q (s 0)) [(s 3),(s 4)] h) hR (fun s h hR=>eK (eL hC [0] [3,4] (on1 (zcq.l4 C N Q)) hR (fun Y2 s h hR=>e1 hR)))) (fun s h hR=>eS hC (fun s h=>B.pv (V.zbj (s 0)) fun a=>B.pv (V.zgp 4 (s 3) none (some a)) fun b=>Q b h) (eT hC (fun s h=>zg (zcq.l2 C N Q (s 0)) [(s 3),(s 6)] h) hR (fun s h hR=>eK (eL hC [0] [3,6] (on1 (zcq.l2 C N Q)) hR (fun Y1 s h hR=>e1 hR)))) (fun s h hR=>e1 hR))))
theorem zcq.imp:zcq.Imp (AC P) N:=fun a h Q hR=>eF mixed (fn:=Tryz.f8) (fun hC=>zcq.L hC (dn Q) (zcd [a]) h hR)
def zd3.I:Bx:=⟨[],[],25,[]⟩
theorem zd3.L:LkT P zd3.I Tryz.f9 fun C Q s h=>zd3.cps C N (s 0) h Q:=fun {C} hC Q s h hR=>eT hC (fun s h=>zd3.k3 C N Q (s 0) h) hR (fun s h hR=>eT hC (fun s h=>B.appW h 1 16 (s 3) (s 0) fun a h=>zg (zro.l4 C 16 (N 106) (.str []) 1 Q (s 0)) [a,(.int .i64 0)] h) hR (fun s h hR=>eT hC (fun s h=>zg (zro.l4 C 16 (N 106) (.str []) 1 Q (s 0)) [(s 3),(.int .i64 0)] h) hR (fun s h hR=>eS hC (fun s h=>B.pv (V.zbj (s 0)) fun b=>B.pv (V.zgp 1 (s 3) none (some b)) fun c=>Q c h) (eT hC (fun s h=>zg (zro.l4 C 16 (N 106) (.str []) 1 Q (s 0)) [(s 3),(s 4)] h) hR (fun s h hR=>eK (eL hC [0] [3,4] (on1 (zro.l4 C 16 (N 106) (.str []) 1 Q)) hR (fun Y1 s h hR=>e1 hR)))) (fun s h hR=>e1 hR))))
theorem zd3.imp:zd3.Imp (AC P) N:=fun a h Q hR=>eF mixed (fn:=Tryz.f9) (fun hC=>zd3.L hC (dn Q) (zcd [a]) h hR)
def zd5.I:Bx:=⟨[],[],50,[]⟩
theorem zd5.L:LkT P zd5.I Tryz.f10 fun C Q s h=>zd5.cps C N (s 0) h Q:=fun {C} hC Q s h hR=>eT hC (fun s h=>zd5.k5 C N Q (s 0) h) hR (fun s h hR=>eT hC (fun s h=>B.zos h fun c h=>B.rangeMap h (s 3) fun a h=>zg (zd5.l4 C N Q (s 4) c a) [] h) hR (fun s h hR=>eT hC (fun s h=>B.rangeMap h (s 3) fun a h=>zg (zd5.l4 C N Q (s 4) (s 5) a) [] h) hR (fun s h hR=>eS hC (fun s h=>B.rangeMap h (s 5) fun b h=>zg (zd5.l2 C N Q b) [.nils] h) (eT hC (fun s h=>zg (zd5.l4 C N Q (s 4) (s 5) (s 17)) [] h) hR (fun s h hR=>eK (eL hC [4,5,17] [] (on3 (zd5.l4 C N Q)) hR (fun Y2 s h hR=>e1 hR)))) (fun s h hR=>eT hC (fun s h=>B.rangeMap h (s 5) fun b h=>zg (zd5.l2 C N Q b) [(s 7)] h) hR (fun s h hR=>eS hC (fun s h=>B.call C (N 566) [(s 7),(.fn (N 565) [] [])] h fun d h=>Q (s 7) h) (eT hC (fun s h=>zg (zd5.l2 C N Q (s 35)) [(s 7)] h) hR (fun s h hR=>eK (eL hC [35] [7] (on1 (zd5.l2 C N Q)) hR (fun Y1 s h hR=>e1 hR)))) (fun s h hR=>e1 hR))))))
theorem zd5.imp:zd5.Imp (AC P) N:=fun a h Q hR=>eF mixed (fn:=Tryz.f10) (fun hC=>zd5.L hC (dn Q) (zcd [a]) h hR)
def zc9.I:Bx:=⟨[],[],65,[]⟩
theorem zc9.L:LkT P zc9.I Tryz.f11 fun C Q s h=>zc9.cps C N (s 0) (s 1) h Q:=fun {C} hC Q s h hR=>eT hC (fun s h=>zc9.k5 C N Q (s 0) (s 1) h) hR (fun s h hR=>eT hC (fun s h=>B.zos h fun b h=>B.pv (V.zbj (s 1)) fun a=>zg (zc9.l4 C N Q (s 5) (s 6) b (s 1) a) [.nils,(.int .i64 0)] h) hR (fun s h hR=>eT hC (fun s h=>B.pv (V.zbj (s 1)) fun a=>zg (zc9.l4 C N Q (s 5) (s 6) (s 7) (s 1) a) [.nils,(.int .i64 0)] h) hR (fun s h hR=>eT hC (fun s h=>B.pv (V.zbj (s 1)) fun a=>zg (zc9.l4 C N Q (s 5) (s 6) (s 7) (s 1) a) [(s 8),(.int .i64 0)] h) hR (fun s h hR=>eS hC (fun s h=>B.rangeMap h (s 5) fun c h=>zg (zc9.l2 C N Q (s 6) (s 7) c) [(s 8)] h) (eT hC (fun s h=>zg (zc9.l4 C N Q (s 5) (s 6) (s 7) (s 20) (s 21)) [(s 8),(s 22)] h) hR (fun s h hR=>eK (eL hC [5,6,7,20,21] [8,22] (on5 (zc9.l4 C N Q)) hR (fun Y2 s h hR=>e1 hR)))) (fun s h hR=>eS hC (fun s h=>B.call C (N 364) [(s 8)] h fun f h=>B.call C (N 365) [(s 8)] h fun d h=>B.call C (N 567) [d] h fun e h=>Q e h) (eT hC (fun s h=>zg (zc9.l2 C N Q (s 6) (s 7) (s 45)) [(s 8)] h) hR (fun s h hR=>eK (eL hC [6,7,45] [8] (on3 (zc9.l2 C N Q)) hR (fun Y1 s h hR=>e1 hR)))) (fun s h hR=>e1 hR))))))
theorem zc9.imp:zc9.Imp (AC P) N:=fun a b h Q hR=>eF mixed (fn:=Tryz.f11) (fun hC=>zc9.L hC (dn Q) (zcd [a,b]) h hR)
def zc6.I:Bx:=⟨[],[],58,[(7,pz [(30,[25])] 35)]⟩
theorem zc6.L:LkT P zc6.I Tryz.f12 fun C Q s h=>zc6.cps C N (s 0) (s 1) h Q:=fun {C} hC Q s h hR=>eT hC (fun s h=>zc6.k4 C N Q (s 0) (s 1) h) hR (fun s h hR=>eT hC (fun s h=>zc6.k3 C N Q (s 0) (s 1) h) hR (fun s h hR=>eT hC (fun s h=>zg (zc6.l2 C N Q (s 1) (s 5)) [(.int .i64 0)] h) hR (fun s h hR=>eS hC (fun s h=>Q (.bool true) h) (eT hC (fun s h=>zg (zc6.l2 C N Q (s 1) (s 5)) [(s 6)] h) hR (fun s h hR=>eK (eL hC [1,5] [6] (on2 (zc6.l2 C N Q)) hR (fun Y1 s h hR=>e1 hR)))) (fun s h hR=>e1 hR))))
theorem zc6.imp:zc6.Imp (AC P) N:=fun a b h Q hR=>eF mixed (fn:=Tryz.f12) (fun hC=>zc6.L hC (dn Q) (zcd [a,b]) h hR)
def zdt.I:Bx:=⟨[],[],58,[(7,pz [(30,[25])] 35)]⟩
theorem zdt.L:LkT P zdt.I Tryz.f13 fun C Q s h=>zdt.cps C N (s 0) (s 1) h Q:=fun {C} hC Q s h hR=>eT hC (fun s h=>zdt.k4 C N Q (s 0) (s 1) h) hR (fun s h hR=>eT hC (fun s h=>zdt.k3 C N Q (s 0) (s 1) h) hR (fun s h hR=>eT hC (fun s h=>zg (zs8.l4 C (N 106) 1 Q (s 1) (s 5)) [(.int .i64 0)] h) hR (fun s h hR=>eS hC (fun s h=>Q (.bool true) h) (eT hC (fun s h=>zg (zs8.l4 C (N 106) 1 Q (s 1) (s 5)) [(s 6)] h) hR (fun s h hR=>eK (eL hC [1,5] [6] (on2 (zs8.l4 C (N 106) 1 Q)) hR (fun Y1 s h hR=>e1 hR)))) (fun s h hR=>e1 hR))))
theorem zdt.imp:zdt.Imp (AC P) N:=fun a b h Q hR=>eF mixed (fn:=Tryz.f13) (fun hC=>zdt.L hC (dn Q) (zcd [a,b]) h hR)
def zcu.I:Bx:=⟨[],[],32,[]⟩
theorem zcu.L:LkT P zcu.I Tryz.f14 fun C Q s h=>zcu.cps C N (s 0) h Q:=fun {C} hC Q s h hR=>eS hC (fun s h=>zcu.k3 C N Q (s 0) h) (eT hC (fun s h=>zg (zcu.l5 C N Q (s 0)) [(s 2)] h) hR (fun s h hR=>eK (eL hC [0] [2] (on1 (zcu.l5 C N Q)) hR (fun Y2 s h hR=>e1 hR)))) (fun s h hR=>eT hC (fun s h=>zg (zcu.l2 C N Q (s 3)) [(.int .i64 0)] h) hR (fun s h hR=>eT hC (fun s h=>zg (zcu.l2 C N Q (s 3)) [(s 4)] h) hR (fun s h hR=>eK (eL hC [3] [4] (on1 (zcu.l2 C N Q)) hR (fun Y1 s h hR=>e1 hR)))))
theorem zcu.imp:zcu.Imp (AC P) N:=fun a h Q hR=>eF mixed (fn:=Tryz.f14) (fun hC=>zcu.L hC (dn Q) (zcd [a]) h hR)
def zd8.I:Bx:=⟨[],[],20,[]⟩
theorem zd8.L:LkT P zd8.I Tryz.f15 fun C Q s h=>zd8.cps C N (s 0) h Q:=fun {C} hC Q s h hR=>eT hC (fun s h=>zg (zpf.l3 C 1 (N 106) (fun h p v K=>B.st h p v K) 2 Q (s 2)) [(.int .i64 0)] h) hR (fun s h hR=>eT hC (fun s h=>zg (zpf.l3 C 1 (N 106) (fun h p v K=>B.st h p v K) 2 Q (s 2)) [(s 3)] h) hR (fun s h hR=>eK (eL hC [2] [3] (fun kv lv h Y1=>match kv with|[a]=>zpf.l3 C 1 (N 106) (fun h p v K=>B.st h p v K) 2 Q a lv h Y1|_=>False) hR (fun Y1 s h hR=>e1 hR))))
theorem zd8.imp:zd8.Imp (AC P) N:=fun a h Q hR=>eF mixed (fn:=Tryz.f15) (fun hC=>zd8.L hC (dn Q) (zcd [a]) h hR)
def zd1.I:Bx:=⟨[],[],27,[(6,pz [] 10)]⟩
theorem zd1.L:LkT P zd1.I Tryz.f16 fun C Q s h=>zd1.cps C N (s 0) (s 1) h Q:=fun {C} hC Q s h hR=>eT hC (fun s h=>zd1.k3 C N Q (s 0) (s 1) h) hR (fun s h hR=>eT hC (fun s h=>zg (zd1.l2 C N Q (s 0) (s 1)) [(.int .i64 0)] h) hR (fun s h hR=>eS hC (fun s h=>Q (.bool true) h) (eT hC (fun s h=>zg (zd1.l2 C N Q (s 0) (s 1)) [(s 5)] h) hR (fun s h hR=>eK (eL hC [0,1] [5] (on2 (zd1.l2 C N Q)) hR (fun Y1 s h hR=>e1 hR)))) (fun s h hR=>e1 hR)))
theorem zd1.imp:zd1.Imp (AC P) N:=fun a b h Q hR=>eF mixed (fn:=Tryz.f16) (fun hC=>zd1.L hC (dn Q) (zcd [a,b]) h hR)
def zfb.I:Bx:=⟨[],[],36,[]⟩
theorem zfb.L:LkT P zfb.I Tryz.f17 fun C Q s h=>zfb.cps C N (s 0) h Q:=fun {C} hC Q s h hR=>eT hC (fun s h=>B.call C (N 602) [(s 0)] h fun a h=>zg (zfb.l2 C N Q (s 0) a) [.nils,.nils,(.int .i64 0)] h) hR (fun s h hR=>eT hC (fun s h=>B.call C (N 602) [(s 0)] h fun a h=>zg (zfb.l2 C N Q (s 0) a) [(s 3),.nils,(.int .i64 0)] h) hR (fun s h hR=>eT hC (fun s h=>B.call C (N 602) [(s 0)] h fun a h=>zg (zfb.l2 C N Q (s 0) a) [(s 3),(s 4),(.int .i64 0)] h) hR (fun s h hR=>eT hC (fun s h=>zg (zfb.l2 C N Q (s 0) (s 5)) [(s 3),(s 4),(.int .i64 0)] h) hR (fun s h hR=>eS hC (fun s h=>Q (s 3) h) (eT hC (fun s h=>zg (zfb.l2 C N Q (s 0) (s 5)) [(s 3),(s 4),(s 6)] h) hR (fun s h hR=>eK (eL hC [0,5] [3,4,6] (on2 (zfb.l2 C N Q)) hR (fun Y1 s h hR=>e1 hR)))) (fun s h hR=>e1 hR)))))
theorem zfb.imp:zfb.Imp (AC P) N:=fun a h Q hR=>eF mixed (fn:=Tryz.f17) (fun hC=>zfb.L hC (dn Q) (zcd [a]) h hR)
def zdw.I:Bx:=⟨[],[],26,[(6,pz [] 9)]⟩
theorem zdw.L:LkT P zdw.I Tryz.f18 fun C Q s h=>zdw.cps C N (s 0) (s 1) h Q:=fun {C} hC Q s h hR=>eT hC (fun s h=>zdw.k3 C N Q (s 0) (s 1) h) hR (fun s h hR=>eT hC (fun s h=>zg (zti.l4  Q (s 0) (s 1)) [(.int .i64 0)] h) hR (fun s h hR=>eS hC (fun s h=>Q (.bool true) h) (eT hC (fun s h=>zg (zti.l4  Q (s 0) (s 1)) [(s 5)] h) hR (fun s h hR=>eK (eL hC [0,1] [5] (on2 (zti.l4  Q)) hR (fun Y1 s h hR=>e1 hR)))) (fun s h hR=>e1 hR)))
theorem zdw.imp:zdw.Imp (AC P) N:=fun a b h Q hR=>eF mixed (fn:=Tryz.f18) (fun hC=>zdw.L hC (dn Q) (zcd [a,b]) h hR)
def zc0.I:Bx:=⟨[],[],48,[]⟩
theorem zc0.L:LkT P zc0.I Tryz.f19 fun C Q s h=>zc0.cps C N (s 0) (s 1) h Q:=fun {C} hC Q s h hR=>eT hC (fun s h=>B.call C (N 602) [(s 0)] h fun a h=>zg (zc0.l5 C N Q (s 0) (s 1) a) [.nils,(.int .i64 0)] h) hR (fun s h hR=>eT hC (fun s h=>B.call C (N 602) [(s 0)] h fun a h=>zg (zc0.l5 C N Q (s 0) (s 1) a) [(s 5),(.int .i64 0)] h) hR (fun s h hR=>eT hC (fun s h=>zg (zc0.l5 C N Q (s 0) (s 1) (s 6)) [(s 5),(.int .i64 0)] h) hR (fun s h hR=>eS hC (fun s h=>Q (s 5) h) (eT hC (fun s h=>zg (zc0.l5 C N Q (s 0) (s 1) (s 6)) [(s 5),(s 7)] h) hR (fun s h hR=>eK (eL hC [0,1,6] [5,7] (on3 (zc0.l5 C N Q)) hR (fun Y1 s h hR=>eT hC (fun s h=>zc0.k4 C N Q Y1 (s 0) (s 1) (s 5) (s 6) (s 7) h) hR (fun s h hR=>eS hC (fun s h=>B.pv (V.bin .add (s 7) (.int .i64 1)) fun b=>Y1 [(s 5),b] h) (eK (eT hC (fun s h=>zc0.k3 C N Q Y1 (s 0) (s 1) (s 5) (s 6) (s 7) (s 8) h) hR (fun s h hR=>eT hC (fun s h=>zg (zc0.l2 C N Q Y1 (s 0) (s 1) (s 6) (s 7) (s 8)) [(s 5),(.int .i64 0)] h) hR (fun s h hR=>eT hC (fun s h=>zg (zc0.l2 C N Q Y1 (s 0) (s 1) (s 6) (s 7) (s 8)) [(s 5),(s 9)] h) hR (fun s h hR=>eK (eL hC [0,1,6,7,8] [5,9] (on5 (zc0.l2 C N Q Y1)) hR (fun Y2 s h hR=>e1 hR))))))) (fun s h hR=>e1 hR)))))) (fun s h hR=>e1 hR))))
theorem zc0.imp:zc0.Imp (AC P) N:=fun a b h Q hR=>eF mixed (fn:=Tryz.f19) (fun hC=>zc0.L hC (dn Q) (zcd [a,b]) h hR)
def zdo.I:Bx:=⟨[],[],21,[]⟩
theorem zdo.L:LkT P zdo.I Tryz.f20 fun C Q s h=>zdo.cps C N (s 0) h Q:=fun {C} hC Q s h hR=>eT hC (fun s h=>zdo.k3 C N Q (s 0) h) hR (fun s h hR=>eT hC (fun s h=>zg (zdo.l2 C N Q (s 0) (s 3)) [(.int .i64 0)] h) hR (fun s h hR=>eS hC (fun s h=>B.call C (N 62) [(s 3)] h fun a h=>Q a h) (eT hC (fun s h=>zg (zdo.l2 C N Q (s 0) (s 3)) [(s 4)] h) hR (fun s h hR=>eK (eL hC [0,3] [4] (on2 (zdo.l2 C N Q)) hR (fun Y1 s h hR=>e1 hR)))) (fun s h hR=>e1 hR)))
theorem zdo.imp:zdo.Imp (AC P) N:=fun a h Q hR=>eF mixed (fn:=Tryz.f20) (fun hC=>zdo.L hC (dn Q) (zcd [a]) h hR)
def zo.I:Bx:=⟨[2],[8,18,29,41,51,57,59,71,77,79],96,[(19,pz [] 11),(25,pz [] 11)]⟩
theorem zo.L:LkT P zo.I Tryz.f23 fun C Q s h=>zo.cps C N (s 0) (s 1) h Q:=fun {C} hC Q s h hR=>eT hC (fun s h=>zo.k11 C N Q (s 3) (s 98) h) hR (fun s h hR=>eT hC (fun s h=>B.pv (V.fieldAddr 0 (s 3)) fun a=>B.ld h a fun b=>zo.k10 C N Q (s 3) (s 5) b (s 98) h) hR (fun s h hR=>eS hC (fun s h=>zo.k1 C N Q (s 3) h) (eT hC (fun s h=>zo.k10 C N Q (s 3) (s 5) (s 13) (s 98) h) hR (fun s h hR=>eK (eT hC (fun s h=>B.cond (s 14) (zo.k2 C N Q (s 3) (s 5) (s 98) h) (B.pv (V.bin .eql (s 13) (.int .u8 9)) fun c=>B.cond c (zo.k3 C N Q (s 3) (s 5) (s 98) h) (zo.k9 C N Q (s 3) (s 5) (s 13) (s 98) h))) hR (fun s h hR=>eC 14 hR (fun hR=>e1 hR) (fun hR=>eT hC (fun s h=>B.cond (s 26) (zo.k3 C N Q (s 3) (s 5) (s 98) h) (zo.k9 C N Q (s 3) (s 5) (s 13) (s 98) h)) hR (fun s h hR=>eC 26 hR (fun hR=>e1 hR) (fun hR=>eT hC (fun s h=>B.cond (s 37) (zo.k4 C N Q (s 3) (s 5) (s 98) h) (zo.k8 C N Q (s 3) (s 13) (s 98) h)) hR (fun s h hR=>eC 37 hR (fun hR=>e1 hR) (fun hR=>eT hC (fun s h=>B.cond (s 47) (zo.k5 C N Q (s 3) (s 98) h) (zo.k7 C N Q (s 3) (s 13) (s 98) h)) hR (fun s h hR=>eC 47 hR (fun hR=>e1 hR) (fun hR=>eT hC (fun s h=>zo.k6 C N Q (s 3) (s 67) (s 98) h) hR (fun s h hR=>e1 hR)))))))))))) (fun s h hR=>e1 hR)))
theorem zo.imp:zo.Imp (AC P) N:=fun a b h Q hR=>eF mixed (fn:=Tryz.f23) (fun hC=>zo.L hC (dn Q) (zcd [a,b]) h hR)
def zcf.I:Bx:=⟨[2,4,5,7,9,11],[12,14,16,19,27,30,33,36,37,38,43,45,53,56,61,63,71,74,79],82,[(6,[(0,[]),(1,[]),(3,[]),(4,[]),(2,[4]),(6,[]),(5,[]),(7,[]),(8,[]),(9,[])])]⟩
theorem zcf.L:LkT P zcf.I Tryz.f24 fun C Q s h=>zcf.cps C N (s 0) (s 1) h Q:=fun {C} hC Q s h hR=>eT hC (fun s h=>zcf.k7 C N Q (s 1) (s 84) (s 86) h) hR (fun s h hR=>eT hC (fun s h=>B.al (s 84) (B.pv (V.zd2 3 (s 84)) fun a=>B.pv (V.zbj a) fun d=>zg (zcf.l6 C N Q (s 1) a d (s 84) (s 86)) [(.int .i64 0),(s 87)] h)) hR (fun s h hR=>eS hC (fun s h=>B.al (s 84) (B.pv (V.zd2 4 (s 84)) fun b=>B.pv (V.zbj b) fun e=>zg (zcf.l4 C N Q (s 1) b e (s 84) (s 86)) [(.int .i64 0),(s 87)] h)) (eT hC (fun s h=>zg (zcf.l6 C N Q (s 1) (s 20) (s 21) (s 84) (s 86)) [(s 22),(s 87)] h) hR (fun s h hR=>eK (eL hC [1,20,21,84,86] [22,87] (on5 (zcf.l6 C N Q)) hR (fun Y3 s h hR=>e1 hR)))) (fun s h hR=>eS hC (fun s h=>B.al (s 84) (B.pv (V.zd2 5 (s 84)) fun c=>B.pv (V.zbj c) fun f=>zg (zcf.l2 C N Q (s 1) c f (s 86)) [(.int .i64 0),(s 87)] h)) (eT hC (fun s h=>zg (zcf.l4 C N Q (s 1) (s 46) (s 47) (s 84) (s 86)) [(s 48),(s 87)] h) hR (fun s h hR=>eK (eL hC [1,46,47,84,86] [48,87] (on5 (zcf.l4 C N Q)) hR (fun Y2 s h hR=>e1 hR)))) (fun s h hR=>eS hC (fun s h=>B.pv (V.zgf 0 6 (s 87)) fun g=>B.pv (V.setN 0 6 g (s 86)) fun i=>B.pv (oneOf (zm3 (V.zgf 0 6 i) (some []))) fun v=>Q v h) (eT hC (fun s h=>zg (zcf.l2 C N Q (s 1) (s 64) (s 65) (s 86)) [(s 66),(s 87)] h) hR (fun s h hR=>eK (eL hC [1,64,65,86] [66,87] (on4 (zcf.l2 C N Q)) hR (fun Y1 s h hR=>e1 hR)))) (fun s h hR=>e1 hR)))))
theorem zcf.imp:zcf.Imp (AC P) N:=fun a b h Q hR=>eF mixed (fn:=Tryz.f24) (fun hC=>zcf.L hC (dn Q) (zcd [a,b]) h hR)
def zfc.I:Bx:=⟨[],[],10,[]⟩
theorem zfc.L:LkT P zfc.I Tryz.f31 fun C Q s h=>zfc.cps C N h Q:=fun {C} hC Q s h hR=>e1 hR
theorem zfc.imp:zfc.Imp (AC P) N:=fun h Q hR=>eF mixed (fn:=Tryz.f31) (fun hC=>zfc.L hC (dn Q) (zcd []) h hR)
def zb3.I:Bx:=⟨[],[],95,[(5,pz [] 25)]⟩
theorem zb3.L:LkT P zb3.I Tryz.f32 fun C Q s h=>zb3.cps C N (s 0) h Q:=fun {C} hC Q s h hR=>eT hC (fun s h=>zg (zb3.l7 C N Q (s 0)) [(.int .i64 0),(.int .i64 0)] h) hR (fun s h hR=>eT hC (fun s h=>zg (zb3.l7 C N Q (s 0)) [(s 3),(.int .i64 0)] h) hR (fun s h hR=>eS hC (fun s h=>Q (s 3) h) (eT hC (fun s h=>zg (zb3.l7 C N Q (s 0)) [(s 3),(s 4)] h) hR (fun s h hR=>eK (eL hC [0] [3,4] (on1 (zb3.l7 C N Q)) hR (fun Y1 s h hR=>eT hC (fun s h=>zb3.k5 C N Q Y1 (s 0) (s 3) (s 4) h) hR (fun s h hR=>eS hC (fun s h=>B.pv (V.bin .add (s 4) (.int .i64 1)) fun a=>Y1 [(s 3),a] h) (eK (eT hC (fun s h=>zg (zb3.l4 C N Q Y1 (s 0) (s 4)) [(s 3),(.int .i64 0)] h) hR (fun s h hR=>eS hC (fun s h=>zg (zb3.l2 C N Q Y1 (s 0) (s 4)) [(s 3),(.int .i64 0)] h) (eT hC (fun s h=>zg (zb3.l4 C N Q Y1 (s 0) (s 4)) [(s 3),(s 5)] h) hR (fun s h hR=>eK (eL hC [0,4] [3,5] (on2 (zb3.l4 C N Q Y1)) hR (fun Y3 s h hR=>e1 hR)))) (fun s h hR=>eT hC (fun s h=>zg (zb3.l2 C N Q Y1 (s 0) (s 4)) [(s 3),(s 6)] h) hR (fun s h hR=>eK (eL hC [0,4] [3,6] (on2 (zb3.l2 C N Q Y1)) hR (fun Y2 s h hR=>e1 hR))))))) (fun s h hR=>e1 hR)))))) (fun s h hR=>e1 hR)))
theorem zb3.imp:zb3.Imp (AC P) N:=fun a h Q hR=>eF mixed (fn:=Tryz.f32) (fun hC=>zb3.L hC (dn Q) (zcd [a]) h hR)
def zew.I:Bx:=⟨[1,2],[3,6,7,10],12,[]⟩
theorem zew.L:LkT P zew.I Tryz.f33 fun C Q s h=>zew.cps C N (s 0) h Q:=fun {C} hC Q s h hR=>e1 hR
theorem zew.imp:zew.Imp (AC P) N:=fun a h Q hR=>eF mixed (fn:=Tryz.f33) (fun hC=>zew.L hC (dn Q) (zcd [a]) h hR)
def zem.I:Bx:=⟨[4],[],9,[]⟩
theorem zem.L:LkT P zem.I Tryz.f34 fun C Q s h=>zem.cps C N (s 0) (s 1) h Q:=fun {C} hC Q s h hR=>e1 hR
theorem zem.imp:zem.Imp (AC P) N:=fun a b h Q hR=>eF mixed (fn:=Tryz.f34) (fun hC=>zem.L hC (dn Q) (zcd [a,b]) h hR)
def zec.I:Bx:=⟨[],[],23,[]⟩
theorem zec.L:LkT P zec.I Tryz.f35 fun C Q s h=>zec.cps C N (s 0) (s 1) h Q:=fun {C} hC Q s h hR=>e1 hR
theorem zec.imp:zec.Imp (AC P) N:=fun a b h Q hR=>eF mixed (fn:=Tryz.f35) (fun hC=>zec.L hC (dn Q) (zcd [a,b]) h hR)
def zt.I:Bx:=⟨[6,10,12],[23,25,36,44,46,50,58],66,[(23,pz [] 4)]⟩
theorem zt.L:LkT P zt.I Tryz.f36 fun C Q s h=>zt.cps C N (s 0) h Q:=fun {C} hC Q s h hR=>eT hC (fun s h=>zt.k13 C N Q (s 0) h) hR (fun s h hR=>eT hC (fun s h=>B.pv (V.zbj (s 0)) fun d=>zg (zt.l12 C N Q (s 0) (s 4) (s 0) d) [(.int .i64 0)] h) hR (fun s h hR=>eS hC (fun s h=>zt.k10 C N Q (s 0) (s 4) h) (eT hC (fun s h=>zg (zt.l12 C N Q (s 0) (s 4) (s 16) (s 17)) [(s 18)] h) hR (fun s h hR=>eK (eL hC [0,4,16,17] [18] (on4 (zt.l12 C N Q)) hR (fun Y4 s h hR=>e1 hR)))) (fun s h hR=>eT hC (fun s h=>B.pv (V.zbj (s 0)) fun a=>zg (zt.l9 C N Q (s 4) (s 7) (.fn (N 576) [] [(s 4),(s 7)]) (s 0) a) [(.int .i64 0)] h) hR (fun s h hR=>eT hC (fun s h=>B.pv (V.zbj (s 0)) fun a=>zg (zt.l9 C N Q (s 4) (s 7) (s 8) (s 0) a) [(.int .i64 0)] h) hR (fun s h hR=>eS hC (fun s h=>B.ld h (s 4) fun b=>B.ld h (s 7) fun c=>Q (.tup [b,c]) h) (eT hC (fun s h=>zg (zt.l9 C N Q (s 4) (s 7) (s 8) (s 30) (s 31)) [(s 32)] h) hR (fun s h hR=>eK (eL hC [4,7,8,30,31] [32] (on5 (zt.l9 C N Q)) hR (fun Y1 s h hR=>eT hC (fun s h=>B.cond (s 33) (zt.k7 C N Q Y1 (s 4) (s 7) (s 8) (s 30) (s 31) (s 32) h) (B.ld h (s 4) fun b=>B.ld h (s 7) fun c=>Q (.tup [b,c]) h)) hR (fun s h hR=>eT hC (fun s h=>zt.k7 C N Q Y1 (s 4) (s 7) (s 8) (s 30) (s 31) (s 32) h) hR (fun s h hR=>eS hC (fun s h=>B.pv (V.bin .add (s 32) (.int .i64 1)) fun e=>Y1 [e] h) (eK (eT hC (fun s h=>zt.k6 C N Q Y1 (s 4) (s 7) (s 8) (s 30) (s 31) (s 32) (s 76) h) hR (fun s h hR=>eS hC (fun s h=>zt.k3 C N Q Y1 (s 4) (s 7) (s 8) (s 30) (s 31) (s 32) (s 76) h) (eT hC (fun s h=>zg (zt.l5 C N Q Y1 (s 4) (s 7) (s 8) (s 30) (s 31) (s 32) (s 37) (s 38) (s 76)) [(s 39)] h) hR (fun s h hR=>eK (eL hC [4,7,8,30,31,32,37,38,76] [39] (on9 (zt.l5 C N Q Y1)) hR (fun Y3 s h hR=>e1 hR)))) (fun s h hR=>eT hC (fun s h=>zg (zt.l2 C N Q Y1 (s 4) (s 7) (s 8) (s 30) (s 31) (s 32) (s 51) (s 52) (s 76)) [(s 53)] h) hR (fun s h hR=>eK (eL hC [4,7,8,30,31,32,51,52,76] [53] (on9 (zt.l2 C N Q Y1)) hR (fun Y2 s h hR=>e1 hR))))))) (fun s h hR=>e1 hR))))))) (fun s h hR=>e1 hR))))))
theorem zt.imp:zt.Imp (AC P) N:=fun a h Q hR=>eF mixed (fn:=Tryz.f36) (fun hC=>zt.L hC (dn Q) (zcd [a]) h hR)
def zbw.I:Bx:=⟨[],[],11,[]⟩
theorem zbw.L:LkT P zbw.I Tryz.f37 fun C Q s h=>zbw.cps C N (s 0) h Q:=fun {C} hC Q s h hR=>e1 hR
theorem zbw.imp:zbw.Imp (AC P) N:=fun a h Q hR=>eF mixed (fn:=Tryz.f37) (fun hC=>zbw.L hC (dn Q) (zcd [a]) h hR)
def zbi.I:Bx:=⟨[],[],8,[]⟩
theorem zbi.L:LkT P zbi.I Tryz.f38 fun C Q s h=>zbi.cps C N (s 0) h Q:=fun {C} hC Q s h hR=>e1 hR
theorem zbi.imp:zbi.Imp (AC P) N:=fun a h Q hR=>eF mixed (fn:=Tryz.f38) (fun hC=>zbi.L hC (dn Q) (zcd [a]) h hR)
def zbu.I:Bx:=⟨[],[],14,[]⟩
theorem zbu.L:LkT P zbu.I Tryz.f39 fun C Q s h=>zbu.cps C N (s 0) (s 1) h Q:=fun {C} hC Q s h hR=>e1 hR
theorem zbu.imp:zbu.Imp (AC P) N:=fun a b h Q hR=>eF mixed (fn:=Tryz.f39) (fun hC=>zbu.L hC (dn Q) (zcd [a,b]) h hR)
def zfn.I:Bx:=⟨[],[],8,[]⟩
theorem zfn.L:LkT P zfn.I Tryz.f40 fun C Q s h=>zfn.cps C N (s 0) (s 1) h Q:=fun {C} hC Q s h hR=>e1 hR
theorem zfn.imp:zfn.Imp (AC P) N:=fun a b h Q hR=>eF mixed (fn:=Tryz.f40) (fun hC=>zfn.L hC (dn Q) (zcd [a,b]) h hR)
def zbo.I:Bx:=⟨[],[],36,[]⟩
theorem zbo.L:LkT P zbo.I Tryz.f41 fun C Q s h=>zbo.cps C N (s 0) (s 1) h Q:=fun {C} hC Q s h hR=>eT hC (fun s h=>B.pv (V.zbj (s 0)) fun a=>zg (zeo.l3 C (opsS 16 (.str []) 0) (N 580) Q (s 0) (s 1) (s 0) a) [(.int .i64 0)] h) hR (fun s h hR=>eS hC (fun s h=>zeo.k1 C (opsS 16 (.str []) 0) (N 580) Q (s 0) (s 1) h) (eT hC (fun s h=>zg (zeo.l3 C (opsS 16 (.str []) 0) (N 580) Q (s 0) (s 1) (s 9) (s 10)) [(s 11)] h) hR (fun s h hR=>eK (eL hC [0,1,9,10] [11] (on4 (zeo.l3 C (opsS 16 (.str []) 0) (N 580) Q)) hR (fun Y1 s h hR=>e1 hR)))) (fun s h hR=>e1 hR))
theorem zbo.imp:zbo.Imp (AC P) N:=fun a b h Q hR=>eF mixed (fn:=Tryz.f41) (fun hC=>zbo.L hC (dn Q) (zcd [a,b]) h hR)
def zbl.I:Bx:=⟨[],[],61,[(6,pz [] 10),(11,pz [] 10)]⟩
theorem zbl.L:LkT P zbl.I Tryz.f42 fun C Q s h=>zbl.cps C N (s 0) h Q:=fun {C} hC Q s h hR=>eT hC (fun s h=>zcw.k5 C (opsS 16 (.str []) 0) Q (s 0) h) hR (fun s h hR=>eT hC (fun s h=>zg (zcw.l4 C (opsS 16 (.str []) 0) Q (s 0)) [(.int .i64 1)] h) hR (fun s h hR=>eS hC (fun s h=>Q (s 0) h) (eT hC (fun s h=>zg (zcw.l4 C (opsS 16 (.str []) 0) Q (s 0)) [(s 3)] h) hR (fun s h hR=>eK (eL hC [0] [3] (on1 (zcw.l4 C (opsS 16 (.str []) 0) Q)) hR (fun Y1 s h hR=>eT hC (fun s h=>zcw.k3 C (opsS 16 (.str []) 0) Q Y1 (s 0) (s 3) h) hR (fun s h hR=>eS hC (fun s h=>B.pv (V.bin .add (s 3) (.int .i64 1)) fun a=>Y1 [a] h) (eK (eT hC (fun s h=>B.cond (s 25) (B.pv (V.zgp (opsS 16 (.str []) 0).es (s 0) (some (s 3)) none) fun b=>zg (zcw.l2 C (opsS 16 (.str []) 0) Q Y1 (s 0) b) [(s 3),(.int .i64 1)] h) (B.pv (V.bin .add (s 3) (.int .i64 1)) fun a=>Y1 [a] h)) hR (fun s h hR=>eC 25 hR (fun hR=>eT hC (fun s h=>zg (zcw.l2 C (opsS 16 (.str []) 0) Q Y1 (s 0) (s 4)) [(s 3),(.int .i64 1)] h) hR (fun s h hR=>eS hC (fun s h=>B.pv (V.zgp (opsS 16 (.str []) 0).es (s 0) (some (s 3)) none) fun c=>B.clr h (opsS 16 (.str []) 0).z c fun _ h=>B.pv (V.zgp (opsS 16 (.str []) 0).es (s 0) none (some (s 3))) fun d=>Q d h) (eT hC (fun s h=>zg (zcw.l2 C (opsS 16 (.str []) 0) Q Y1 (s 0) (s 4)) [(s 3),(s 5)] h) hR (fun s h hR=>eK (eL hC [0,4] [3,5] (on2 (zcw.l2 C (opsS 16 (.str []) 0) Q Y1)) hR (fun Y2 s h hR=>e1 hR)))) (fun s h hR=>e1 hR))) (fun hR=>e1 hR)))) (fun s h hR=>e1 hR)))))) (fun s h hR=>e1 hR)))
theorem zbl.imp:zbl.Imp (AC P) N:=fun a h Q hR=>eF mixed (fn:=Tryz.f42) (fun hC=>zbl.L hC (dn Q) (zcd [a]) h hR)
def zex.I:Bx:=⟨[2,3],[9,11,16,18],22,[]⟩
theorem zex.L:LkT P zex.I Tryz.f43 fun C Q s h=>zex.cps C N (s 0) (s 1) h Q:=fun {C} hC Q s h hR=>e1 hR
theorem zex.imp:zex.Imp (AC P) N:=fun a b h Q hR=>eF mixed (fn:=Tryz.f43) (fun hC=>zex.L hC (dn Q) (zcd [a,b]) h hR)
def zes.I:Bx:=⟨[2,3],[5,7,11,13,18,20,25,27],31,[]⟩
theorem zes.L:LkT P zes.I Tryz.f44 fun C Q s h=>zes.cps C N (s 0) (s 1) h Q:=fun {C} hC Q s h hR=>e1 hR
theorem zes.imp:zes.Imp (AC P) N:=fun a b h Q hR=>eF mixed (fn:=Tryz.f44) (fun hC=>zes.L hC (dn Q) (zcd [a,b]) h hR)
def zev.I:Bx:=⟨[1],[2,5],8,[]⟩
theorem zev.L:LkT P zev.I Tryz.f45 fun C Q s h=>zev.cps C N (s 0) h Q:=fun {C} hC Q s h hR=>e1 hR
theorem zev.imp:zev.Imp (AC P) N:=fun a h Q hR=>eF mixed (fn:=Tryz.f45) (fun hC=>zev.L hC (dn Q) (zcd [a]) h hR)
def zdv.I:Bx:=⟨[],[],19,[]⟩
theorem zdv.L:LkT P zdv.I Tryz.f46 fun C Q s h=>zdv.cps C N (s 0) h Q:=fun {C} hC Q s h hR=>eT hC (fun s h=>zg (zdv.l2 C N Q (s 0)) [.nils,(.int .i64 0)] h) hR (fun s h hR=>eT hC (fun s h=>zg (zdv.l2 C N Q (s 0)) [(s 3),(.int .i64 0)] h) hR (fun s h hR=>eS hC (fun s h=>Q (s 3) h) (eT hC (fun s h=>zg (zdv.l2 C N Q (s 0)) [(s 3),(s 4)] h) hR (fun s h hR=>eK (eL hC [0] [3,4] (on1 (zdv.l2 C N Q)) hR (fun Y1 s h hR=>e1 hR)))) (fun s h hR=>e1 hR)))
theorem zdv.imp:zdv.Imp (AC P) N:=fun a h Q hR=>eF mixed (fn:=Tryz.f46) (fun hC=>zdv.L hC (dn Q) (zcd [a]) h hR)
def ze0.I:Bx:=⟨[],[],18,[]⟩
theorem ze0.L:LkT P ze0.I Tryz.f47 fun C Q s h=>ze0.cps C N (s 0) (s 1) h Q:=fun {C} hC Q s h hR=>eT hC (fun s h=>zg (ze0.l2 C N Q (s 0) (s 1)) [(.int .i64 0)] h) hR (fun s h hR=>eS hC (fun s h=>Q (.bool false) h) (eT hC (fun s h=>zg (ze0.l2 C N Q (s 0) (s 1)) [(s 5)] h) hR (fun s h hR=>eK (eL hC [0,1] [5] (on2 (ze0.l2 C N Q)) hR (fun Y1 s h hR=>e1 hR)))) (fun s h hR=>e1 hR))
theorem ze0.imp:ze0.Imp (AC P) N:=fun a b h Q hR=>eF mixed (fn:=Tryz.f47) (fun hC=>ze0.L hC (dn Q) (zcd [a,b]) h hR)
def zbz.I:Bx:=⟨[],[],54,[]⟩
theorem zbz.L:LkT P zbz.I Tryz.f48 fun C Q s h=>zbz.cps C N (s 0) (s 1) h Q:=fun {C} hC Q s h hR=>eT hC (fun s h=>zbz.k7 C N Q (s 0) (s 1) h) hR (fun s h hR=>eT hC (fun s h=>B.newO h (ze2 [(0,none,(s 1))] (repL 1 [.str []])) fun a h=>zg (zbz.l6 C N Q (s 0) (s 5)) [(.sl a 0 0 1 1 1),(.int .i64 0)] h) hR (fun s h hR=>eT hC (fun s h=>zg (zbz.l6 C N Q (s 0) (s 5)) [(s 6),(.int .i64 0)] h) hR (fun s h hR=>eS hC (fun s h=>Q (s 6) h) (eT hC (fun s h=>zg (zbz.l6 C N Q (s 0) (s 5)) [(s 6),(s 7)] h) hR (fun s h hR=>eK (eL hC [0,5] [6,7] (on2 (zbz.l6 C N Q)) hR (fun Y1 s h hR=>eT hC (fun s h=>B.pv (V.zbj (s 6)) fun b=>zg (zbz.l4 C N Q Y1 (s 0) (s 5) b) [(s 6),(.int .i64 0)] h) hR (fun s h hR=>eK (eT hC (fun s h=>zg (zbz.l4 C N Q Y1 (s 0) (s 5) (s 7)) [(s 6),(.int .i64 0)] h) hR (fun s h hR=>eT hC (fun s h=>zg (zbz.l4 C N Q Y1 (s 0) (s 5) (s 7)) [(s 6),(s 8)] h) hR (fun s h hR=>eK (eL hC [0,5,7] [6,8] (on3 (zbz.l4 C N Q Y1)) hR (fun Y2 s h hR=>eT hC (fun s h=>zbz.k3 C N Q Y1 Y2 (s 0) (s 5) (s 6) (s 7) (s 8) h) hR (fun s h hR=>eS hC (fun s h=>B.pv (V.bin .add (s 8) (.int .i64 1)) fun c=>Y2 [(s 6),c] h) (eK (eT hC (fun s h=>zg (zbz.l2 C N Q Y1 Y2 (s 0) (s 5) (s 7) (s 8) (s 9) (s 10)) [(s 6),(.int .i64 0)] h) hR (fun s h hR=>eT hC (fun s h=>zg (zbz.l2 C N Q Y1 Y2 (s 0) (s 5) (s 7) (s 8) (s 9) (s 10)) [(s 6),(s 11)] h) hR (fun s h hR=>eK (eL hC [0,5,7,8,9,10] [6,11] (on6 (zbz.l2 C N Q Y1 Y2)) hR (fun Y3 s h hR=>e1 hR)))))) (fun s h hR=>e1 hR)))))))))))) (fun s h hR=>e1 hR))))
theorem zbz.imp:zbz.Imp (AC P) N:=fun a b h Q hR=>eF mixed (fn:=Tryz.f48) (fun hC=>zbz.L hC (dn Q) (zcd [a,b]) h hR)
def zdz.I:Bx:=⟨[],[],48,[]⟩
theorem zdz.L:LkT P zdz.I Tryz.f49 fun C Q s h=>zdz.cps C N (s 0) (s 1) h Q:=fun {C} hC Q s h hR=>eT hC (fun s h=>zg (zdz.l3 C N Q (s 0) (s 1)) [(.int .i64 0)] h) hR (fun s h hR=>eT hC (fun s h=>zg (zdz.l3 C N Q (s 0) (s 1)) [(s 5)] h) hR (fun s h hR=>eS hC (fun s h=>zdz.k1 C N Q (s 0) (s 1) (s 5) h) (eK (eL hC [0,1] [5] (on2 (zdz.l3 C N Q)) hR (fun Y1 s h hR=>e1 hR))) (fun s h hR=>e1 hR)))
theorem zdz.imp:zdz.Imp (AC P) N:=fun a b h Q hR=>eF mixed (fn:=Tryz.f49) (fun hC=>zdz.L hC (dn Q) (zcd [a,b]) h hR)
def zeb.I:Bx:=⟨[],[],14,[]⟩
theorem zeb.L:LkT P zeb.I Tryz.f50 fun C Q s h=>zeb.cps C N (s 0) (s 1) h Q:=fun {C} hC Q s h hR=>e1 hR
theorem zeb.imp:zeb.Imp (AC P) N:=fun a b h Q hR=>eF mixed (fn:=Tryz.f50) (fun hC=>zeb.L hC (dn Q) (zcd [a,b]) h hR)
def ze3.I:Bx:=⟨[],[],162,[]⟩
theorem ze3.L:LkT P ze3.I Tryz.f51 fun C Q s h=>ze3.cps C N (s 0) h Q:=fun {C} hC Q s h hR=>e1 hR
theorem ze3.imp:ze3.Imp (AC P) N:=fun a h Q hR=>eF mixed (fn:=Tryz.f51) (fun hC=>ze3.L hC (dn Q) (zcd [a]) h hR)
def z7.I:Bx:=⟨[],[],9,[]⟩
theorem z7.L:LkT P z7.I Tryz.f54 fun C Q s h=>z7.cps C N (s 0) (s 1) h Q:=fun {C} hC Q s h hR=>e1 hR
theorem z7.imp:z7.Imp (AC P) N:=fun a b h Q hR=>eF mixed (fn:=Tryz.f54) (fun hC=>z7.L hC (dn Q) (zcd [a,b]) h hR)
def zej.I:Bx:=⟨[2],[4],9,[]⟩
theorem zej.L:LkT P zej.I Tryz.f55 fun C Q s h=>zej.cps C N (s 0) (s 1) h Q:=fun {C} hC Q s h hR=>e1 hR
theorem zej.imp:zej.Imp (AC P) N:=fun a b h Q hR=>eF mixed (fn:=Tryz.f55) (fun hC=>zej.L hC (dn Q) (zcd [a,b]) h hR)
def zey.I:Bx:=⟨[],[],15,[]⟩
theorem zey.L:LkT P zey.I Tryz.f56 fun C Q s h=>zey.cps C N (s 0) (s 1) h Q:=fun {C} hC Q s h hR=>e1 hR
theorem zey.imp:zey.Imp (AC P) N:=fun a b h Q hR=>eF mixed (fn:=Tryz.f56) (fun hC=>zey.L hC (dn Q) (zcd [a,b]) h hR)
def z8.I:Bx:=⟨[],[],19,[]⟩
abbrev z8.E:zx:=opsF 6 56 [.int .i64 0,.str [],.int .i64 0,.int .i64 0,.int .i64 0,.bool false] 0 []
theorem z8.L:LkT P z8.I Tryz.f57 fun C Q s h=>z8.cps C N (s 0) (s 1) h Q:=fun {C} hC Q s h hR=>eT hC (fun s h=>B.pv (V.zbj (s 0)) fun a=>zg (zce.l2 C z8.E Q (s 0) (s 1) a) [(.int .i64 0)] h) hR (fun s h hR=>eS hC (fun s h=>Q (.int .i64 (-1)) h) (eT hC (fun s h=>zg (zce.l2 C z8.E Q (s 0) (s 1) (s 7)) [(s 8)] h) hR (fun s h hR=>eK (eL hC [0,1,7] [8] (on3 (zce.l2 C z8.E Q)) hR (fun Y1 s h hR=>e1 hR)))) (fun s h hR=>e1 hR))
theorem z8.imp:z8.Imp (AC P) N:=fun a b h Q hR=>eF mixed (fn:=Tryz.f57) (fun hC=>z8.L hC (dn Q) (zcd [a,b]) h hR)
def zei.I:Bx:=⟨[2],[4],9,[]⟩
theorem zei.L:LkT P zei.I Tryz.f58 fun C Q s h=>zei.cps C N (s 0) (s 1) h Q:=fun {C} hC Q s h hR=>e1 hR
theorem zei.imp:zei.Imp (AC P) N:=fun a b h Q hR=>eF mixed (fn:=Tryz.f58) (fun hC=>zei.L hC (dn Q) (zcd [a,b]) h hR)
def zy.I:Bx:=⟨[],[],19,[]⟩
abbrev zy.E:zx:=opsF 8 80 [.int .i64 0,.str [],.int .i64 0,.int .i64 0,.int .i64 0,.int .u8 0,.int .i64 0,.str []] 0 []
theorem zy.L:LkT P zy.I Tryz.f59 fun C Q s h=>zy.cps C N (s 0) (s 1) h Q:=fun {C} hC Q s h hR=>eT hC (fun s h=>B.pv (V.zbj (s 0)) fun a=>zg (zce.l2 C zy.E Q (s 0) (s 1) a) [(.int .i64 0)] h) hR (fun s h hR=>eS hC (fun s h=>Q (.int .i64 (-1)) h) (eT hC (fun s h=>zg (zce.l2 C zy.E Q (s 0) (s 1) (s 7)) [(s 8)] h) hR (fun s h hR=>eK (eL hC [0,1,7] [8] (on3 (zce.l2 C zy.E Q)) hR (fun Y1 s h hR=>e1 hR)))) (fun s h hR=>e1 hR))
theorem zy.imp:zy.Imp (AC P) N:=fun a b h Q hR=>eF mixed (fn:=Tryz.f59) (fun hC=>zy.L hC (dn Q) (zcd [a,b]) h hR)
def zeh.I:Bx:=⟨[2],[4],9,[]⟩
theorem zeh.L:LkT P zeh.I Tryz.f60 fun C Q s h=>zeh.cps C N (s 0) (s 1) h Q:=fun {C} hC Q s h hR=>e1 hR
theorem zeh.imp:zeh.Imp (AC P) N:=fun a b h Q hR=>eF mixed (fn:=Tryz.f60) (fun hC=>zeh.L hC (dn Q) (zcd [a,b]) h hR)
def zbm.I:Bx:=⟨[],[],9,[]⟩
theorem zbm.L:LkT P zbm.I Tryz.f61 fun C Q s h=>zbm.cps C N (s 0) (s 1) h Q:=fun {C} hC Q s h hR=>e1 hR
theorem zbm.imp:zbm.Imp (AC P) N:=fun a b h Q hR=>eF mixed (fn:=Tryz.f61) (fun hC=>zbm.L hC (dn Q) (zcd [a,b]) h hR)
def zbn.I:Bx:=⟨[],[],8,[]⟩
theorem zbn.L:LkT P zbn.I Tryz.f62 fun C Q s h=>zbn.cps C N (s 0) h Q:=fun {C} hC Q s h hR=>e1 hR
theorem zbn.imp:zbn.Imp (AC P) N:=fun a h Q hR=>eF mixed (fn:=Tryz.f62) (fun hC=>zbn.L hC (dn Q) (zcd [a]) h hR)
def zd9.I:Bx:=⟨[],[],25,[]⟩
theorem zd9.L:LkT P zd9.I Tryz.f71 fun C Q s h=>zd9.cps C N (s 0) h Q:=fun {C} hC Q s h hR=>eT hC (fun s h=>zd9.k3 C N Q (s 0) h) hR (fun s h hR=>eT hC (fun s h=>B.appW h 2 24 (s 3) (s 0) fun a h=>zg (zs7.l4 C 2 24 (N 108) [.str [],.int .i64 0] 1 Q (s 0)) [a,(.int .i64 0)] h) hR (fun s h hR=>eT hC (fun s h=>zg (zs7.l4 C 2 24 (N 108) [.str [],.int .i64 0] 1 Q (s 0)) [(s 3),(.int .i64 0)] h) hR (fun s h hR=>eS hC (fun s h=>B.pv (V.zbj (s 0)) fun b=>B.pv (V.zgp 2 (s 3) none (some b)) fun c=>Q c h) (eT hC (fun s h=>zg (zs7.l4 C 2 24 (N 108) [.str [],.int .i64 0] 1 Q (s 0)) [(s 3),(s 4)] h) hR (fun s h hR=>eK (eL hC [0] [3,4] (on1 (zs7.l4 C 2 24 (N 108) [.str [],.int .i64 0] 1 Q)) hR (fun Y1 s h hR=>e1 hR)))) (fun s h hR=>e1 hR))))
theorem zd9.imp:zd9.Imp (AC P) N:=fun a h Q hR=>eF mixed (fn:=Tryz.f71) (fun hC=>zd9.L hC (dn Q) (zcd [a]) h hR)
def zgw.I:Bx:=⟨[],[],10,[]⟩
theorem zgw.L:LkT P zgw.I Tryz.f72 fun C Q s h=>zgw.cps C N (s 0) (s 1) h Q:=fun {C} hC Q s h hR=>e1 hR
theorem zgw.imp:zgw.Imp (AC P) N:=fun a b h Q hR=>eF mixed (fn:=Tryz.f72) (fun hC=>zgw.L hC (dn Q) (zcd [a,b]) h hR)
def zct.I:Bx:=⟨[],[],13,[]⟩
theorem zct.L:LkT P zct.I Tryz.f73 fun C Q s h=>zct.cps C N (s 0) (s 1) h Q:=fun {C} hC Q s h hR=>eT hC (fun s h=>zg (zct.l2 C N Q (s 1)) [(s 0)] h) hR (fun s h hR=>eS hC (fun s h=>Q (s 0) h) (eK (eL hC [1] [0] (on1 (zct.l2 C N Q)) hR (fun Y1 s h hR=>e1 hR))) (fun s h hR=>e1 hR))
theorem zct.imp:zct.Imp (AC P) N:=fun a b h Q hR=>eF mixed (fn:=Tryz.f73) (fun hC=>zct.L hC (dn Q) (zcd [a,b]) h hR)
def zdp.I:Bx:=⟨[],[],22,[(2,[(0,[]),(1,[]),(2,[]),(4,[]),(5,[]),(3,[0,4]),(6,[0]),(7,[])])]⟩
theorem zdp.L:LkT P zdp.I Tryz.f74 fun C Q s h=>zdp.cps C N (s 0) (s 1) (s 2) (s 3) h Q:=fun {C} hC Q s h hR=>e1 hR
theorem zdp.imp:zdp.Imp (AC P) N:=fun a b c d h Q hR=>eF mixed (fn:=Tryz.f74) (fun hC=>zdp.L hC (dn Q) (zcd [a,b,c,d]) h hR)
def zda.I:Bx:=⟨[],[],134,[(17,pz [] 15)]⟩
theorem zda.L:LkT P zda.I Tryz.f75 fun C Q s h=>zda.cps C N (s 0) (s 1) (s 2) (s 3) h Q:=fun {C} hC Q s h hR=>eT hC (fun s h=>zg (z9.l8 C (opsS 16 (.str []) 0) (N 377) (N 378) (N 379) (N 375) (N 380) (N 381) (N 382) (N 383) (N 384) (N 385) Q (s 0)) [(s 1),(s 2),(s 3),(s 8),(.bool true)] h) hR (fun s h hR=>eT hC (fun s h=>zg (z9.l8 C (opsS 16 (.str []) 0) (N 377) (N 378) (N 379) (N 375) (N 380) (N 381) (N 382) (N 383) (N 384) (N 385) Q (s 0)) [(s 1),(s 2),(s 3),(s 8),(s 9)] h) hR (fun s h hR=>eK (eL hC [0] [1,2,3,8,9] (on1 (z9.l8 C (opsS 16 (.str []) 0) (N 377) (N 378) (N 379) (N 375) (N 380) (N 381) (N 382) (N 383) (N 384) (N 385) Q)) hR (fun Y1 s h hR=>eK (eT hC (fun s h=>z9.k7 C (opsS 16 (.str []) 0) (N 377) (N 378) (N 379) (N 375) (N 380) (N 381) (N 382) (N 383) (N 384) (N 385) Q Y1 (s 0) (s 1) (s 2) (s 3) (s 8) (s 9) (s 10) h) hR (fun s h hR=>eT hC (fun s h=>z9.k6 C (opsS 16 (.str []) 0) (N 377) (N 378) (N 379) (N 375) (N 380) (N 381) (N 382) (N 383) (N 384) (N 385) Q Y1 (s 0) (s 1) (s 2) (s 3) (s 8) (s 9) (s 10) h) hR (fun s h hR=>eT hC (fun s h=>z9.k5 C (opsS 16 (.str []) 0) (N 377) (N 378) (N 379) (N 375) (N 380) (N 381) (N 382) (N 383) (N 384) (N 385) Q Y1 (s 0) (s 1) (s 2) (s 3) (s 8) (s 9) (s 10) h) hR (fun s h hR=>eT hC (fun s h=>z9.k4 C (opsS 16 (.str []) 0) (N 377) (N 378) (N 379) (N 375) (N 380) (N 381) (N 382) (N 383) (N 384) (N 385) Q Y1 (s 0) (s 1) (s 2) (s 3) (s 8) (s 9) (s 10) h) hR (fun s h hR=>eT hC (fun s h=>z9.k3 C (opsS 16 (.str []) 0) (N 377) (N 378) (N 379) (N 375) (N 380) (N 381) (N 382) (N 383) (N 384) (N 385) Q Y1 (s 0) (s 1) (s 2) (s 3) (s 8) (s 9) (s 10) (s 11) (s 12) h) hR (fun s h hR=>eT hC (fun s h=>z9.k2 C (opsS 16 (.str []) 0) (N 377) (N 378) (N 379) (N 375) (N 380) (N 381) (N 382) (N 383) (N 384) (N 385) Q Y1 (s 0) (s 1) (s 2) (s 3) (s 8) (s 9) (s 10) (s 11) (s 12) h) hR (fun s h hR=>eT hC (fun s h=>z9.k1 C (opsS 16 (.str []) 0) (N 377) (N 378) (N 379) (N 375) (N 380) (N 381) (N 382) (N 383) (N 384) (N 385) Q Y1 (s 0) (s 1) (s 2) (s 3) (s 8) (s 9) (s 10) (s 11) h) hR (fun s h hR=>e1 hR))))))))))))
theorem zda.imp:zda.Imp (AC P) N:=fun a b c d h Q hR=>eF mixed (fn:=Tryz.f75) (fun hC=>zda.L hC (dn Q) (zcd [a,b,c,d]) h hR)
def zeq.I:Bx:=⟨[],[],8,[]⟩
theorem zeq.L:LkT P zeq.I Tryz.f76 fun C Q s h=>zeq.cps C N (s 0) h Q:=fun {C} hC Q s h hR=>e1 hR
theorem zeq.imp:zeq.Imp (AC P) N:=fun a h Q hR=>eF mixed (fn:=Tryz.f76) (fun hC=>zeq.L hC (dn Q) (zcd [a]) h hR)
def zdb.I:Bx:=⟨[],[],148,[(17,pz [] 17)]⟩
theorem zdb.L:LkT P zdb.I Tryz.f77 fun C Q s h=>zdb.cps C N (s 0) (s 1) (s 2) (s 3) (s 4) h Q:=fun {C} hC Q s h hR=>eT hC (fun s h=>zg (zm.l8 C (opsS 24 (.nils) 0) (N 581) (N 582) (N 579) (N 583) (N 584) (N 585) (N 586) (N 587) (N 588) Q (s 0) (s 4)) [(s 1),(s 2),(s 3),(s 10),(.bool true)] h) hR (fun s h hR=>eT hC (fun s h=>zg (zm.l8 C (opsS 24 (.nils) 0) (N 581) (N 582) (N 579) (N 583) (N 584) (N 585) (N 586) (N 587) (N 588) Q (s 0) (s 4)) [(s 1),(s 2),(s 3),(s 10),(s 11)] h) hR (fun s h hR=>eK (eL hC [0,4] [1,2,3,10,11] (on2 (zm.l8 C (opsS 24 (.nils) 0) (N 581) (N 582) (N 579) (N 583) (N 584) (N 585) (N 586) (N 587) (N 588) Q)) hR (fun Y1 s h hR=>eK (eT hC (fun s h=>zm.k7 C (opsS 24 (.nils) 0) (N 581) (N 582) (N 579) (N 583) (N 584) (N 585) (N 586) (N 587) (N 588) Q Y1 (s 0) (s 1) (s 2) (s 3) (s 4) (s 10) (s 11) (s 12) h) hR (fun s h hR=>eT hC (fun s h=>zm.k6 C (opsS 24 (.nils) 0) (N 581) (N 582) (N 579) (N 583) (N 584) (N 585) (N 586) (N 587) (N 588) Q Y1 (s 0) (s 1) (s 2) (s 3) (s 4) (s 10) (s 11) (s 12) h) hR (fun s h hR=>eT hC (fun s h=>zm.k5 C (opsS 24 (.nils) 0) (N 581) (N 582) (N 579) (N 583) (N 584) (N 585) (N 586) (N 587) (N 588) Q Y1 (s 0) (s 1) (s 2) (s 3) (s 4) (s 10) (s 11) (s 12) h) hR (fun s h hR=>eT hC (fun s h=>zm.k4 C (opsS 24 (.nils) 0) (N 581) (N 582) (N 579) (N 583) (N 584) (N 585) (N 586) (N 587) (N 588) Q Y1 (s 0) (s 1) (s 2) (s 3) (s 4) (s 10) (s 11) (s 12) h) hR (fun s h hR=>eT hC (fun s h=>zm.k3 C (opsS 24 (.nils) 0) (N 581) (N 582) (N 579) (N 583) (N 584) (N 585) (N 586) (N 587) (N 588) Q Y1 (s 0) (s 1) (s 2) (s 3) (s 4) (s 10) (s 11) (s 12) (s 13) (s 14) h) hR (fun s h hR=>eT hC (fun s h=>zm.k2 C (opsS 24 (.nils) 0) (N 581) (N 582) (N 579) (N 583) (N 584) (N 585) (N 586) (N 587) (N 588) Q Y1 (s 0) (s 1) (s 2) (s 3) (s 4) (s 10) (s 11) (s 12) (s 13) (s 14) h) hR (fun s h hR=>eT hC (fun s h=>zm.k1 C (opsS 24 (.nils) 0) (N 581) (N 582) (N 579) (N 583) (N 584) (N 585) (N 586) (N 587) (N 588) Q Y1 (s 0) (s 1) (s 2) (s 3) (s 4) (s 10) (s 11) (s 12) (s 13) h) hR (fun s h hR=>e1 hR))))))))))))
theorem zdb.imp:zdb.Imp (AC P) N:=fun a b c d e h Q hR=>eF mixed (fn:=Tryz.f77) (fun hC=>zdb.L hC (dn Q) (zcd [a,b,c,d,e]) h hR)
def zcx.I:Bx:=⟨[],[],20,[]⟩
theorem zcx.L:LkT P zcx.I Tryz.f78 fun C Q s h=>zcx.cps C N (s 0) (s 1) h Q:=fun {C} hC Q s h hR=>e1 hR
theorem zcx.imp:zcx.Imp (AC P) N:=fun a b h Q hR=>eF mixed (fn:=Tryz.f78) (fun hC=>zcx.L hC (dn Q) (zcd [a,b]) h hR)
def zdx.I:Bx:=⟨[],[],58,[(7,pz [(30,[25])] 35)]⟩
theorem zdx.L:LkT P zdx.I Tryz.f79 fun C Q s h=>zdx.cps C N (s 0) (s 1) h Q:=fun {C} hC Q s h hR=>eT hC (fun s h=>zdx.k4 C N Q (s 0) (s 1) h) hR (fun s h hR=>eT hC (fun s h=>zdx.k3 C N Q (s 0) (s 1) h) hR (fun s h hR=>eT hC (fun s h=>zg (ztn.l4 C 2 (N 108) [.s,.i .i64] 1 Q (s 1) (s 5)) [(.int .i64 0)] h) hR (fun s h hR=>eS hC (fun s h=>Q (.bool true) h) (eT hC (fun s h=>zg (ztn.l4 C 2 (N 108) [.s,.i .i64] 1 Q (s 1) (s 5)) [(s 6)] h) hR (fun s h hR=>eK (eL hC [1,5] [6] (on2 (ztn.l4 C 2 (N 108) [.s,.i .i64] 1 Q)) hR (fun Y1 s h hR=>e1 hR)))) (fun s h hR=>e1 hR))))
theorem zdx.imp:zdx.Imp (AC P) N:=fun a b h Q hR=>eF mixed (fn:=Tryz.f79) (fun hC=>zdx.L hC (dn Q) (zcd [a,b]) h hR)
def zd7.I:Bx:=⟨[],[],26,[(6,pz [] 9)]⟩
theorem zd7.L:LkT P zd7.I Tryz.f80 fun C Q s h=>zd7.cps C N (s 0) (s 1) h Q:=fun {C} hC Q s h hR=>eT hC (fun s h=>zd7.k3 C N Q (s 0) (s 1) h) hR (fun s h hR=>eT hC (fun s h=>zg (ztj.l4 2 [.s,.i .i64] Q (s 0) (s 1)) [(.int .i64 0)] h) hR (fun s h hR=>eS hC (fun s h=>Q (.bool true) h) (eT hC (fun s h=>zg (ztj.l4 2 [.s,.i .i64] Q (s 0) (s 1)) [(s 5)] h) hR (fun s h hR=>eK (eL hC [0,1] [5] (on2 (ztj.l4 2 [.s,.i .i64] Q)) hR (fun Y1 s h hR=>e1 hR)))) (fun s h hR=>e1 hR)))
theorem zd7.imp:zd7.Imp (AC P) N:=fun a b h Q hR=>eF mixed (fn:=Tryz.f80) (fun hC=>zd7.L hC (dn Q) (zcd [a,b]) h hR)
def zeg.I:Bx:=⟨[],[],20,[]⟩
theorem zeg.L:LkT P zeg.I Tryz.f81 fun C Q s h=>zeg.cps C N (s 0) h Q:=fun {C} hC Q s h hR=>eT hC (fun s h=>zg (zpf.l3 C 2 (N 108) (fun h p v K=>B.stn h p 2 v K) 2 Q (s 2)) [(.int .i64 0)] h) hR (fun s h hR=>eT hC (fun s h=>zg (zpf.l3 C 2 (N 108) (fun h p v K=>B.stn h p 2 v K) 2 Q (s 2)) [(s 3)] h) hR (fun s h hR=>eK (eL hC [2] [3] (fun kv lv h Y1=>match kv with|[a]=>zpf.l3 C 2 (N 108) (fun h p v K=>B.stn h p 2 v K) 2 Q a lv h Y1|_=>False) hR (fun Y1 s h hR=>e1 hR))))
theorem zeg.imp:zeg.Imp (AC P) N:=fun a h Q hR=>eF mixed (fn:=Tryz.f81) (fun hC=>zeg.L hC (dn Q) (zcd [a]) h hR)
def zbp.I:Bx:=⟨[3],[13,17,24,33],66,[]⟩
theorem zbp.L:LkT P zbp.I Tryz.f82 fun C Q s h=>zbp.cps C N (s 0) (s 1) (s 2) h Q:=fun {C} hC Q s h hR=>eT hC (fun s h=>zbp.k6 C N Q (s 1) (s 2) (s 69) h) hR (fun s h hR=>eT hC (fun s h=>zg (zbp.l5 C N Q (s 1) (s 2) (s 69)) [(s 8),(.int .i64 0)] h) hR (fun s h hR=>eS hC (fun s h=>zbp.k3 C N Q (s 1) (s 2) (s 8) (s 69) h) (eT hC (fun s h=>zg (zbp.l5 C N Q (s 1) (s 2) (s 69)) [(s 8),(s 9)] h) hR (fun s h hR=>eK (eL hC [1,2,69] [8,9] (on3 (zbp.l5 C N Q)) hR (fun Y2 s h hR=>e1 hR)))) (fun s h hR=>eT hC (fun s h=>zg (zbp.l2 C N Q (s 1) (s 2) (s 8)) [.nils,(.bool false),(.int .i64 0)] h) hR (fun s h hR=>eT hC (fun s h=>zg (zbp.l2 C N Q (s 1) (s 2) (s 8)) [(s 10),(.bool false),(.int .i64 0)] h) hR (fun s h hR=>eT hC (fun s h=>zg (zbp.l2 C N Q (s 1) (s 2) (s 8)) [(s 10),(s 11),(.int .i64 0)] h) hR (fun s h hR=>eS hC (fun s h=>Q (.tup [(s 11),(s 10)]) h) (eT hC (fun s h=>zg (zbp.l2 C N Q (s 1) (s 2) (s 8)) [(s 10),(s 11),(s 12)] h) hR (fun s h hR=>eK (eL hC [1,2,8] [10,11,12] (on3 (zbp.l2 C N Q)) hR (fun Y1 s h hR=>e1 hR)))) (fun s h hR=>e1 hR)))))))
theorem zbp.imp:zbp.Imp (AC P) N:=fun a b c h Q hR=>eF mixed (fn:=Tryz.f82) (fun hC=>zbp.L hC (dn Q) (zcd [a,b,c]) h hR)
def zf4.I:Bx:=⟨[],[],200,[(7,pz [(7,[3])] 11),(24,pz [(9,[3,6]),(31,[25,28])] 37),(41,pz [(9,[3,6]),(23,[17,20])] 28)]⟩
def zgm.I:Bx:=⟨[],[],193,[(7,pz [(7,[3])] 10),(24,pz [(9,[3,6]),(30,[24,27])] 35),(41,pz [(9,[3,6]),(22,[16,19])] 26)]⟩
def zga.I:Bx:=⟨[],[],193,[(7,pz [(7,[3])] 10),(24,pz [(9,[3,6]),(30,[24,27])] 35),(41,pz [(9,[3,6]),(22,[16,19])] 26)]⟩
def zfl.I:Bx:=⟨[],[],193,[(7,pz [(7,[3])] 10),(24,pz [(9,[3,6]),(30,[24,27])] 35),(41,pz [(9,[3,6]),(22,[16,19])] 26)]⟩
theorem zfl.L:LkT P zfl.I Tryz.f86 fun C Q s h=>zfl.cps C N (s 0) h Q:=fun {C} hC Q s h hR=>eT hC (fun s h=>zg (z6.l103 (opsS 16 (.str []) (N 106)) C Q (s 0)) [(.int .i64 0)] h) hR (fun s h hR=>eS hC (fun s h=>B.pv (V.zbj (s 0)) fun b=>0<1 /\ B.mks h 24 (some [.nils]) b b fun f h=>zg (z6.l82 (opsS 16 (.str []) (N 106)) C Q (s 0) f) [(.int .i64 0)] h) (eT hC (fun s h=>zg (z6.l103 (opsS 16 (.str []) (N 106)) C Q (s 0)) [(s 3)] h) hR (fun s h hR=>eK (eL hC [0] [3] (on1 (z6.l103 (opsS 16 (.str []) (N 106)) C Q)) hR (fun Y9 s h hR=>eT hC (fun s h=>zg (z6.l93 (opsS 16 (.str []) (N 106)) C Q Y9 (s 0) (s 3)) [(.int .i64 0)] h) hR (fun s h hR=>eS hC (fun s h=>B.pv (V.bin .add (s 3) (.int .i64 1)) fun g=>Y9 [g] h) (eK (eT hC (fun s h=>zg (z6.l93 (opsS 16 (.str []) (N 106)) C Q Y9 (s 0) (s 3)) [(s 4)] h) hR (fun s h hR=>eK (eL hC [0,3] [4] (on2 (z6.l93 (opsS 16 (.str []) (N 106)) C Q Y9)) hR (fun Y10 s h hR=>e1 hR))))) (fun s h hR=>e1 hR)))))) (fun s h hR=>eT hC (fun s h=>zg (z6.l82 (opsS 16 (.str []) (N 106)) C Q (s 0) (s 5)) [(.int .i64 0)] h) hR (fun s h hR=>eS hC (fun s h=>zg (z6.l59 (opsS 16 (.str []) (N 106)) C Q (s 0) (s 5)) [(.int .i64 0)] h) (eT hC (fun s h=>zg (z6.l82 (opsS 16 (.str []) (N 106)) C Q (s 0) (s 5)) [(s 6)] h) hR (fun s h hR=>eK (eL hC [0,5] [6] (on2 (z6.l82 (opsS 16 (.str []) (N 106)) C Q)) hR (fun Y7 s h hR=>eT hC (fun s h=>B.pv (V.idxS 1 (s 0) (s 6)) fun i=>B.ld h i fun j=>zg (z6.l69 (opsS 16 (.str []) (N 106)) C Q Y7 (s 0) (s 5) (s 6)) [j,(.int .i64 0)] h) hR (fun s h hR=>eS hC (fun s h=>B.pv (V.bin .add (s 6) (.int .i64 1)) fun a=>Y7 [a] h) (eK (eT hC (fun s h=>zg (z6.l69 (opsS 16 (.str []) (N 106)) C Q Y7 (s 0) (s 5) (s 6)) [(s 7),(.int .i64 0)] h) hR (fun s h hR=>eS hC (fun s h=>B.pv (V.idxS 1 (s 5) (s 6)) fun k=>B.st h k (s 7) fun h=>B.pv (V.bin .add (s 6) (.int .i64 1)) fun a=>Y7 [a] h) (eT hC (fun s h=>zg (z6.l69 (opsS 16 (.str []) (N 106)) C Q Y7 (s 0) (s 5) (s 6)) [(s 7),(s 8)] h) hR (fun s h hR=>eK (eL hC [0,5,6] [7,8] (on3 (z6.l69 (opsS 16 (.str []) (N 106)) C Q Y7)) hR (fun Y8 s h hR=>e1 hR)))) (fun s h hR=>e1 hR)))) (fun s h hR=>e1 hR)))))) (fun s h hR=>eS hC (fun s h=>zg (z6.l40 (opsS 16 (.str []) (N 106)) C Q (s 0) (s 5)) [(.int .i64 0)] h) (eT hC (fun s h=>zg (z6.l59 (opsS 16 (.str []) (N 106)) C Q (s 0) (s 5)) [(s 9)] h) hR (fun s h hR=>eK (eL hC [0,5] [9] (on2 (z6.l59 (opsS 16 (.str []) (N 106)) C Q)) hR (fun Y5 s h hR=>eT hC (fun s h=>zg (z6.l49 (opsS 16 (.str []) (N 106)) C Q Y5 (s 0) (s 5) (s 9)) [(.int .i64 0)] h) hR (fun s h hR=>eS hC (fun s h=>B.pv (V.bin .add (s 9) (.int .i64 1)) fun l=>Y5 [l] h) (eK (eT hC (fun s h=>zg (z6.l49 (opsS 16 (.str []) (N 106)) C Q Y5 (s 0) (s 5) (s 9)) [(s 10)] h) hR (fun s h hR=>eK (eL hC [0,5,9] [10] (on3 (z6.l49 (opsS 16 (.str []) (N 106)) C Q Y5)) hR (fun Y6 s h hR=>e1 hR))))) (fun s h hR=>e1 hR)))))) (fun s h hR=>eS hC (fun s h=>zg (z6.l15 (opsS 16 (.str []) (N 106)) C Q (s 0) (s 5)) [(.int .i64 0)] h) (eT hC (fun s h=>zg (z6.l40 (opsS 16 (.str []) (N 106)) C Q (s 0) (s 5)) [(s 11)] h) hR (fun s h hR=>eK (eL hC [0,5] [11] (on2 (z6.l40 (opsS 16 (.str []) (N 106)) C Q)) hR (fun Y3 s h hR=>eT hC (fun s h=>0<1 /\ B.mks h 16 (some [.str []]) (.int .i64 64) (.int .i64 64) fun c h=>zg (z6.l26 (opsS 16 (.str []) (N 106)) C Q Y3 (s 0) (s 5) (s 11) c) [(.int .i64 0)] h) hR (fun s h hR=>eS hC (fun s h=>B.pv (V.bin .add (s 11) (.int .i64 1)) fun d=>Y3 [d] h) (eK (eT hC (fun s h=>zg (z6.l26 (opsS 16 (.str []) (N 106)) C Q Y3 (s 0) (s 5) (s 11) (s 12)) [(.int .i64 0)] h) hR (fun s h hR=>eS hC (fun s h=>z6.k22 (opsS 16 (.str []) (N 106)) C Q Y3 (s 0) (s 5) (s 11) (s 12) h) (eT hC (fun s h=>zg (z6.l26 (opsS 16 (.str []) (N 106)) C Q Y3 (s 0) (s 5) (s 11) (s 12)) [(s 13)] h) hR (fun s h hR=>eK (eL hC [0,5,11,12] [13] (on4 (z6.l26 (opsS 16 (.str []) (N 106)) C Q Y3)) hR (fun Y4 s h hR=>e1 hR)))) (fun s h hR=>e1 hR)))) (fun s h hR=>e1 hR)))))) (fun s h hR=>eS hC (fun s h=>Q (.bool true) h) (eT hC (fun s h=>zg (z6.l15 (opsS 16 (.str []) (N 106)) C Q (s 0) (s 5)) [(s 14)] h) hR (fun s h hR=>eK (eL hC [0,5] [14] (on2 (z6.l15 (opsS 16 (.str []) (N 106)) C Q)) hR (fun Y1 s h hR=>eT hC (fun s h=>zg (z6.l5 (opsS 16 (.str []) (N 106)) C Q Y1 (s 0) (s 5) (s 14)) [(.int .i64 0)] h) hR (fun s h hR=>eS hC (fun s h=>B.pv (V.bin .add (s 14) (.int .i64 1)) fun e=>Y1 [e] h) (eK (eT hC (fun s h=>zg (z6.l5 (opsS 16 (.str []) (N 106)) C Q Y1 (s 0) (s 5) (s 14)) [(s 15)] h) hR (fun s h hR=>eK (eL hC [0,5,14] [15] (on3 (z6.l5 (opsS 16 (.str []) (N 106)) C Q Y1)) hR (fun Y2 s h hR=>e1 hR))))) (fun s h hR=>e1 hR)))))) (fun s h hR=>e1 hR)))))))
theorem zfl.imp:zfl.Imp (AC P) N:=fun a h Q hR=>eF mixed (fn:=Tryz.f86) (fun hC=>zfl.L hC (dn Q) (zcd [a]) h hR)
def zfy.I:Bx:=⟨[],[],193,[(7,pz [(7,[3])] 10),(24,pz [(9,[3,6]),(30,[24,27])] 35),(41,pz [(9,[3,6]),(22,[16,19])] 26)]⟩
theorem zfy.L:LkT P zfy.I Tryz.f87 fun C Q s h=>zfy.cps C N (s 0) h Q:=fun {C} hC Q s h hR=>eT hC (fun s h=>zg (z6.l103 (opsS 1 (.int .u8 0) (N 64)) C Q (s 0)) [(.int .i64 0)] h) hR (fun s h hR=>eS hC (fun s h=>B.pv (V.zbj (s 0)) fun b=>0<1 /\ B.mks h 24 (some [.nils]) b b fun f h=>zg (z6.l82 (opsS 1 (.int .u8 0) (N 64)) C Q (s 0) f) [(.int .i64 0)] h) (eT hC (fun s h=>zg (z6.l103 (opsS 1 (.int .u8 0) (N 64)) C Q (s 0)) [(s 3)] h) hR (fun s h hR=>eK (eL hC [0] [3] (on1 (z6.l103 (opsS 1 (.int .u8 0) (N 64)) C Q)) hR (fun Y9 s h hR=>eT hC (fun s h=>zg (z6.l93 (opsS 1 (.int .u8 0) (N 64)) C Q Y9 (s 0) (s 3)) [(.int .i64 0)] h) hR (fun s h hR=>eS hC (fun s h=>B.pv (V.bin .add (s 3) (.int .i64 1)) fun g=>Y9 [g] h) (eK (eT hC (fun s h=>zg (z6.l93 (opsS 1 (.int .u8 0) (N 64)) C Q Y9 (s 0) (s 3)) [(s 4)] h) hR (fun s h hR=>eK (eL hC [0,3] [4] (on2 (z6.l93 (opsS 1 (.int .u8 0) (N 64)) C Q Y9)) hR (fun Y10 s h hR=>e1 hR))))) (fun s h hR=>e1 hR)))))) (fun s h hR=>eT hC (fun s h=>zg (z6.l82 (opsS 1 (.int .u8 0) (N 64)) C Q (s 0) (s 5)) [(.int .i64 0)] h) hR (fun s h hR=>eS hC (fun s h=>zg (z6.l59 (opsS 1 (.int .u8 0) (N 64)) C Q (s 0) (s 5)) [(.int .i64 0)] h) (eT hC (fun s h=>zg (z6.l82 (opsS 1 (.int .u8 0) (N 64)) C Q (s 0) (s 5)) [(s 6)] h) hR (fun s h hR=>eK (eL hC [0,5] [6] (on2 (z6.l82 (opsS 1 (.int .u8 0) (N 64)) C Q)) hR (fun Y7 s h hR=>eT hC (fun s h=>B.pv (V.idxS 1 (s 0) (s 6)) fun i=>B.ld h i fun j=>zg (z6.l69 (opsS 1 (.int .u8 0) (N 64)) C Q Y7 (s 0) (s 5) (s 6)) [j,(.int .i64 0)] h) hR (fun s h hR=>eS hC (fun s h=>B.pv (V.bin .add (s 6) (.int .i64 1)) fun a=>Y7 [a] h) (eK (eT hC (fun s h=>zg (z6.l69 (opsS 1 (.int .u8 0) (N 64)) C Q Y7 (s 0) (s 5) (s 6)) [(s 7),(.int .i64 0)] h) hR (fun s h hR=>eS hC (fun s h=>B.pv (V.idxS 1 (s 5) (s 6)) fun k=>B.st h k (s 7) fun h=>B.pv (V.bin .add (s 6) (.int .i64 1)) fun a=>Y7 [a] h) (eT hC (fun s h=>zg (z6.l69 (opsS 1 (.int .u8 0) (N 64)) C Q Y7 (s 0) (s 5) (s 6)) [(s 7),(s 8)] h) hR (fun s h hR=>eK (eL hC [0,5,6] [7,8] (on3 (z6.l69 (opsS 1 (.int .u8 0) (N 64)) C Q Y7)) hR (fun Y8 s h hR=>e1 hR)))) (fun s h hR=>e1 hR)))) (fun s h hR=>e1 hR)))))) (fun s h hR=>eS hC (fun s h=>zg (z6.l40 (opsS 1 (.int .u8 0) (N 64)) C Q (s 0) (s 5)) [(.int .i64 0)] h) (eT hC (fun s h=>zg (z6.l59 (opsS 1 (.int .u8 0) (N 64)) C Q (s 0) (s 5)) [(s 9)] h) hR (fun s h hR=>eK (eL hC [0,5] [9] (on2 (z6.l59 (opsS 1 (.int .u8 0) (N 64)) C Q)) hR (fun Y5 s h hR=>eT hC (fun s h=>zg (z6.l49 (opsS 1 (.int .u8 0) (N 64)) C Q Y5 (s 0) (s 5) (s 9)) [(.int .i64 0)] h) hR (fun s h hR=>eS hC (fun s h=>B.pv (V.bin .add (s 9) (.int .i64 1)) fun l=>Y5 [l] h) (eK (eT hC (fun s h=>zg (z6.l49 (opsS 1 (.int .u8 0) (N 64)) C Q Y5 (s 0) (s 5) (s 9)) [(s 10)] h) hR (fun s h hR=>eK (eL hC [0,5,9] [10] (on3 (z6.l49 (opsS 1 (.int .u8 0) (N 64)) C Q Y5)) hR (fun Y6 s h hR=>e1 hR))))) (fun s h hR=>e1 hR)))))) (fun s h hR=>eS hC (fun s h=>zg (z6.l15 (opsS 1 (.int .u8 0) (N 64)) C Q (s 0) (s 5)) [(.int .i64 0)] h) (eT hC (fun s h=>zg (z6.l40 (opsS 1 (.int .u8 0) (N 64)) C Q (s 0) (s 5)) [(s 11)] h) hR (fun s h hR=>eK (eL hC [0,5] [11] (on2 (z6.l40 (opsS 1 (.int .u8 0) (N 64)) C Q)) hR (fun Y3 s h hR=>eT hC (fun s h=>0<1 /\ B.mks h 1 (some [.int .u8 0]) (.int .i64 64) (.int .i64 64) fun c h=>zg (z6.l26 (opsS 1 (.int .u8 0) (N 64)) C Q Y3 (s 0) (s 5) (s 11) c) [(.int .i64 0)] h) hR (fun s h hR=>eS hC (fun s h=>B.pv (V.bin .add (s 11) (.int .i64 1)) fun d=>Y3 [d] h) (eK (eT hC (fun s h=>zg (z6.l26 (opsS 1 (.int .u8 0) (N 64)) C Q Y3 (s 0) (s 5) (s 11) (s 12)) [(.int .i64 0)] h) hR (fun s h hR=>eS hC (fun s h=>z6.k22 (opsS 1 (.int .u8 0) (N 64)) C Q Y3 (s 0) (s 5) (s 11) (s 12) h) (eT hC (fun s h=>zg (z6.l26 (opsS 1 (.int .u8 0) (N 64)) C Q Y3 (s 0) (s 5) (s 11) (s 12)) [(s 13)] h) hR (fun s h hR=>eK (eL hC [0,5,11,12] [13] (on4 (z6.l26 (opsS 1 (.int .u8 0) (N 64)) C Q Y3)) hR (fun Y4 s h hR=>e1 hR)))) (fun s h hR=>e1 hR)))) (fun s h hR=>e1 hR)))))) (fun s h hR=>eS hC (fun s h=>Q (.bool true) h) (eT hC (fun s h=>zg (z6.l15 (opsS 1 (.int .u8 0) (N 64)) C Q (s 0) (s 5)) [(s 14)] h) hR (fun s h hR=>eK (eL hC [0,5] [14] (on2 (z6.l15 (opsS 1 (.int .u8 0) (N 64)) C Q)) hR (fun Y1 s h hR=>eT hC (fun s h=>zg (z6.l5 (opsS 1 (.int .u8 0) (N 64)) C Q Y1 (s 0) (s 5) (s 14)) [(.int .i64 0)] h) hR (fun s h hR=>eS hC (fun s h=>B.pv (V.bin .add (s 14) (.int .i64 1)) fun e=>Y1 [e] h) (eK (eT hC (fun s h=>zg (z6.l5 (opsS 1 (.int .u8 0) (N 64)) C Q Y1 (s 0) (s 5) (s 14)) [(s 15)] h) hR (fun s h hR=>eK (eL hC [0,5,14] [15] (on3 (z6.l5 (opsS 1 (.int .u8 0) (N 64)) C Q Y1)) hR (fun Y2 s h hR=>e1 hR))))) (fun s h hR=>e1 hR)))))) (fun s h hR=>e1 hR)))))))
theorem zfy.imp:zfy.Imp (AC P) N:=fun a h Q hR=>eF mixed (fn:=Tryz.f87) (fun hC=>zfy.L hC (dn Q) (zcd [a]) h hR)
def zbb.I:Bx:=⟨[],[],193,[(7,pz [(7,[3])] 10),(24,pz [(9,[3,6]),(30,[24,27])] 35),(41,pz [(9,[3,6]),(22,[16,19])] 26)]⟩
abbrev zbb.E:zx:=opsF 2 16 [.int .i64 0,.int .i64 0] (N 18) [.i .i64,.i .i64]
theorem zbb.L:LkT P zbb.I Tryz.f88 fun C Q s h=>zbb.cps C N (s 0) h Q:=fun {C} hC Q s h hR=>eT hC (fun s h=>zg (z6.l103 zbb.E C Q (s 0)) [(.int .i64 0)] h) hR (fun s h hR=>eS hC (fun s h=>B.pv (V.zbj (s 0)) fun b=>0<1 /\ B.mks h 24 (some [.nils]) b b fun f h=>zg (z6.l82 zbb.E C Q (s 0) f) [(.int .i64 0)] h) (eT hC (fun s h=>zg (z6.l103 zbb.E C Q (s 0)) [(s 3)] h) hR (fun s h hR=>eK (eL hC [0] [3] (on1 (z6.l103 zbb.E C Q)) hR (fun Y9 s h hR=>eT hC (fun s h=>zg (z6.l93 zbb.E C Q Y9 (s 0) (s 3)) [(.int .i64 0)] h) hR (fun s h hR=>eS hC (fun s h=>B.pv (V.bin .add (s 3) (.int .i64 1)) fun g=>Y9 [g] h) (eK (eT hC (fun s h=>zg (z6.l93 zbb.E C Q Y9 (s 0) (s 3)) [(s 4)] h) hR (fun s h hR=>eK (eL hC [0,3] [4] (on2 (z6.l93 zbb.E C Q Y9)) hR (fun Y10 s h hR=>e1 hR))))) (fun s h hR=>e1 hR)))))) (fun s h hR=>eT hC (fun s h=>zg (z6.l82 zbb.E C Q (s 0) (s 5)) [(.int .i64 0)] h) hR (fun s h hR=>eS hC (fun s h=>zg (z6.l59 zbb.E C Q (s 0) (s 5)) [(.int .i64 0)] h) (eT hC (fun s h=>zg (z6.l82 zbb.E C Q (s 0) (s 5)) [(s 6)] h) hR (fun s h hR=>eK (eL hC [0,5] [6] (on2 (z6.l82 zbb.E C Q)) hR (fun Y7 s h hR=>eT hC (fun s h=>B.pv (V.idxS 1 (s 0) (s 6)) fun i=>B.ld h i fun j=>zg (z6.l69 zbb.E C Q Y7 (s 0) (s 5) (s 6)) [j,(.int .i64 0)] h) hR (fun s h hR=>eS hC (fun s h=>B.pv (V.bin .add (s 6) (.int .i64 1)) fun a=>Y7 [a] h) (eK (eT hC (fun s h=>zg (z6.l69 zbb.E C Q Y7 (s 0) (s 5) (s 6)) [(s 7),(.int .i64 0)] h) hR (fun s h hR=>eS hC (fun s h=>B.pv (V.idxS 1 (s 5) (s 6)) fun k=>B.st h k (s 7) fun h=>B.pv (V.bin .add (s 6) (.int .i64 1)) fun a=>Y7 [a] h) (eT hC (fun s h=>zg (z6.l69 zbb.E C Q Y7 (s 0) (s 5) (s 6)) [(s 7),(s 8)] h) hR (fun s h hR=>eK (eL hC [0,5,6] [7,8] (on3 (z6.l69 zbb.E C Q Y7)) hR (fun Y8 s h hR=>e1 hR)))) (fun s h hR=>e1 hR)))) (fun s h hR=>e1 hR)))))) (fun s h hR=>eS hC (fun s h=>zg (z6.l40 zbb.E C Q (s 0) (s 5)) [(.int .i64 0)] h) (eT hC (fun s h=>zg (z6.l59 zbb.E C Q (s 0) (s 5)) [(s 9)] h) hR (fun s h hR=>eK (eL hC [0,5] [9] (on2 (z6.l59 zbb.E C Q)) hR (fun Y5 s h hR=>eT hC (fun s h=>zg (z6.l49 zbb.E C Q Y5 (s 0) (s 5) (s 9)) [(.int .i64 0)] h) hR (fun s h hR=>eS hC (fun s h=>B.pv (V.bin .add (s 9) (.int .i64 1)) fun l=>Y5 [l] h) (eK (eT hC (fun s h=>zg (z6.l49 zbb.E C Q Y5 (s 0) (s 5) (s 9)) [(s 10)] h) hR (fun s h hR=>eK (eL hC [0,5,9] [10] (on3 (z6.l49 zbb.E C Q Y5)) hR (fun Y6 s h hR=>e1 hR))))) (fun s h hR=>e1 hR)))))) (fun s h hR=>eS hC (fun s h=>zg (z6.l15 zbb.E C Q (s 0) (s 5)) [(.int .i64 0)] h) (eT hC (fun s h=>zg (z6.l40 zbb.E C Q (s 0) (s 5)) [(s 11)] h) hR (fun s h hR=>eK (eL hC [0,5] [11] (on2 (z6.l40 zbb.E C Q)) hR (fun Y3 s h hR=>eT hC (fun s h=>0<2 /\ B.mks h 16 (some [.int .i64 0,.int .i64 0]) (.int .i64 64) (.int .i64 64) fun c h=>zg (z6.l26 zbb.E C Q Y3 (s 0) (s 5) (s 11) c) [(.int .i64 0)] h) hR (fun s h hR=>eS hC (fun s h=>B.pv (V.bin .add (s 11) (.int .i64 1)) fun d=>Y3 [d] h) (eK (eT hC (fun s h=>zg (z6.l26 zbb.E C Q Y3 (s 0) (s 5) (s 11) (s 12)) [(.int .i64 0)] h) hR (fun s h hR=>eS hC (fun s h=>z6.k22 zbb.E C Q Y3 (s 0) (s 5) (s 11) (s 12) h) (eT hC (fun s h=>zg (z6.l26 zbb.E C Q Y3 (s 0) (s 5) (s 11) (s 12)) [(s 13)] h) hR (fun s h hR=>eK (eL hC [0,5,11,12] [13] (on4 (z6.l26 zbb.E C Q Y3)) hR (fun Y4 s h hR=>e1 hR)))) (fun s h hR=>e1 hR)))) (fun s h hR=>e1 hR)))))) (fun s h hR=>eS hC (fun s h=>Q (.bool true) h) (eT hC (fun s h=>zg (z6.l15 zbb.E C Q (s 0) (s 5)) [(s 14)] h) hR (fun s h hR=>eK (eL hC [0,5] [14] (on2 (z6.l15 zbb.E C Q)) hR (fun Y1 s h hR=>eT hC (fun s h=>zg (z6.l5 zbb.E C Q Y1 (s 0) (s 5) (s 14)) [(.int .i64 0)] h) hR (fun s h hR=>eS hC (fun s h=>B.pv (V.bin .add (s 14) (.int .i64 1)) fun e=>Y1 [e] h) (eK (eT hC (fun s h=>zg (z6.l5 zbb.E C Q Y1 (s 0) (s 5) (s 14)) [(s 15)] h) hR (fun s h hR=>eK (eL hC [0,5,14] [15] (on3 (z6.l5 zbb.E C Q Y1)) hR (fun Y2 s h hR=>e1 hR))))) (fun s h hR=>e1 hR)))))) (fun s h hR=>e1 hR)))))))
theorem zbb.imp:zbb.Imp (AC P) N:=fun a h Q hR=>eF mixed (fn:=Tryz.f88) (fun hC=>zbb.L hC (dn Q) (zcd [a]) h hR)
def zb5.I:Bx:=⟨[],[],193,[(7,pz [(7,[3])] 10),(24,pz [(9,[3,6]),(30,[24,27])] 35),(41,pz [(9,[3,6]),(22,[16,19])] 26)]⟩
abbrev zb5.E:zx:=opsF 6 56 [.int .i64 0,.str [],.int .i64 0,.int .i64 0,.int .i64 0,.bool false] (N 77) [.i .i64,.s,.i .i64,.i .i64,.i .i64,.b]
theorem zb5.L:LkT P zb5.I Tryz.f89 fun C Q s h=>zb5.cps C N (s 0) h Q:=fun {C} hC Q s h hR=>eT hC (fun s h=>zg (z6.l103 zb5.E C Q (s 0)) [(.int .i64 0)] h) hR (fun s h hR=>eS hC (fun s h=>B.pv (V.zbj (s 0)) fun b=>0<1 /\ B.mks h 24 (some [.nils]) b b fun f h=>zg (z6.l82 zb5.E C Q (s 0) f) [(.int .i64 0)] h) (eT hC (fun s h=>zg (z6.l103 zb5.E C Q (s 0)) [(s 3)] h) hR (fun s h hR=>eK (eL hC [0] [3] (on1 (z6.l103 zb5.E C Q)) hR (fun Y9 s h hR=>eT hC (fun s h=>zg (z6.l93 zb5.E C Q Y9 (s 0) (s 3)) [(.int .i64 0)] h) hR (fun s h hR=>eS hC (fun s h=>B.pv (V.bin .add (s 3) (.int .i64 1)) fun g=>Y9 [g] h) (eK (eT hC (fun s h=>zg (z6.l93 zb5.E C Q Y9 (s 0) (s 3)) [(s 4)] h) hR (fun s h hR=>eK (eL hC [0,3] [4] (on2 (z6.l93 zb5.E C Q Y9)) hR (fun Y10 s h hR=>e1 hR))))) (fun s h hR=>e1 hR)))))) (fun s h hR=>eT hC (fun s h=>zg (z6.l82 zb5.E C Q (s 0) (s 5)) [(.int .i64 0)] h) hR (fun s h hR=>eS hC (fun s h=>zg (z6.l59 zb5.E C Q (s 0) (s 5)) [(.int .i64 0)] h) (eT hC (fun s h=>zg (z6.l82 zb5.E C Q (s 0) (s 5)) [(s 6)] h) hR (fun s h hR=>eK (eL hC [0,5] [6] (on2 (z6.l82 zb5.E C Q)) hR (fun Y7 s h hR=>eT hC (fun s h=>B.pv (V.idxS 1 (s 0) (s 6)) fun i=>B.ld h i fun j=>zg (z6.l69 zb5.E C Q Y7 (s 0) (s 5) (s 6)) [j,(.int .i64 0)] h) hR (fun s h hR=>eS hC (fun s h=>B.pv (V.bin .add (s 6) (.int .i64 1)) fun a=>Y7 [a] h) (eK (eT hC (fun s h=>zg (z6.l69 zb5.E C Q Y7 (s 0) (s 5) (s 6)) [(s 7),(.int .i64 0)] h) hR (fun s h hR=>eS hC (fun s h=>B.pv (V.idxS 1 (s 5) (s 6)) fun k=>B.st h k (s 7) fun h=>B.pv (V.bin .add (s 6) (.int .i64 1)) fun a=>Y7 [a] h) (eT hC (fun s h=>zg (z6.l69 zb5.E C Q Y7 (s 0) (s 5) (s 6)) [(s 7),(s 8)] h) hR (fun s h hR=>eK (eL hC [0,5,6] [7,8] (on3 (z6.l69 zb5.E C Q Y7)) hR (fun Y8 s h hR=>e1 hR)))) (fun s h hR=>e1 hR)))) (fun s h hR=>e1 hR)))))) (fun s h hR=>eS hC (fun s h=>zg (z6.l40 zb5.E C Q (s 0) (s 5)) [(.int .i64 0)] h) (eT hC (fun s h=>zg (z6.l59 zb5.E C Q (s 0) (s 5)) [(s 9)] h) hR (fun s h hR=>eK (eL hC [0,5] [9] (on2 (z6.l59 zb5.E C Q)) hR (fun Y5 s h hR=>eT hC (fun s h=>zg (z6.l49 zb5.E C Q Y5 (s 0) (s 5) (s 9)) [(.int .i64 0)] h) hR (fun s h hR=>eS hC (fun s h=>B.pv (V.bin .add (s 9) (.int .i64 1)) fun l=>Y5 [l] h) (eK (eT hC (fun s h=>zg (z6.l49 zb5.E C Q Y5 (s 0) (s 5) (s 9)) [(s 10)] h) hR (fun s h hR=>eK (eL hC [0,5,9] [10] (on3 (z6.l49 zb5.E C Q Y5)) hR (fun Y6 s h hR=>e1 hR))))) (fun s h hR=>e1 hR)))))) (fun s h hR=>eS hC (fun s h=>zg (z6.l15 zb5.E C Q (s 0) (s 5)) [(.int .i64 0)] h) (eT hC (fun s h=>zg (z6.l40 zb5.E C Q (s 0) (s 5)) [(s 11)] h) hR (fun s h hR=>eK (eL hC [0,5] [11] (on2 (z6.l40 zb5.E C Q)) hR (fun Y3 s h hR=>eT hC (fun s h=>0<6 /\ B.mks h 56 (some [.int .i64 0,.str [],.int .i64 0,.int .i64 0,.int .i64 0,.bool false]) (.int .i64 64) (.int .i64 64) fun c h=>zg (z6.l26 zb5.E C Q Y3 (s 0) (s 5) (s 11) c) [(.int .i64 0)] h) hR (fun s h hR=>eS hC (fun s h=>B.pv (V.bin .add (s 11) (.int .i64 1)) fun d=>Y3 [d] h) (eK (eT hC (fun s h=>zg (z6.l26 zb5.E C Q Y3 (s 0) (s 5) (s 11) (s 12)) [(.int .i64 0)] h) hR (fun s h hR=>eS hC (fun s h=>z6.k22 zb5.E C Q Y3 (s 0) (s 5) (s 11) (s 12) h) (eT hC (fun s h=>zg (z6.l26 zb5.E C Q Y3 (s 0) (s 5) (s 11) (s 12)) [(s 13)] h) hR (fun s h hR=>eK (eL hC [0,5,11,12] [13] (on4 (z6.l26 zb5.E C Q Y3)) hR (fun Y4 s h hR=>e1 hR)))) (fun s h hR=>e1 hR)))) (fun s h hR=>e1 hR)))))) (fun s h hR=>eS hC (fun s h=>Q (.bool true) h) (eT hC (fun s h=>zg (z6.l15 zb5.E C Q (s 0) (s 5)) [(s 14)] h) hR (fun s h hR=>eK (eL hC [0,5] [14] (on2 (z6.l15 zb5.E C Q)) hR (fun Y1 s h hR=>eT hC (fun s h=>zg (z6.l5 zb5.E C Q Y1 (s 0) (s 5) (s 14)) [(.int .i64 0)] h) hR (fun s h hR=>eS hC (fun s h=>B.pv (V.bin .add (s 14) (.int .i64 1)) fun e=>Y1 [e] h) (eK (eT hC (fun s h=>zg (z6.l5 zb5.E C Q Y1 (s 0) (s 5) (s 14)) [(s 15)] h) hR (fun s h hR=>eK (eL hC [0,5,14] [15] (on3 (z6.l5 zb5.E C Q Y1)) hR (fun Y2 s h hR=>e1 hR))))) (fun s h hR=>e1 hR)))))) (fun s h hR=>e1 hR)))))))
theorem zb5.imp:zb5.Imp (AC P) N:=fun a h Q hR=>eF mixed (fn:=Tryz.f89) (fun hC=>zb5.L hC (dn Q) (zcd [a]) h hR)
def zbq.I:Bx:=⟨[],[],193,[(7,pz [(7,[3])] 10),(24,pz [(9,[3,6]),(30,[24,27])] 35),(41,pz [(9,[3,6]),(22,[16,19])] 26)]⟩
abbrev zbq.E:zx:=opsF 3 32 [.str [],.int .i64 0,.int .i64 0] (N 107) [.s,.i .i64,.i .i64]
theorem zbq.L:LkT P zbq.I Tryz.f90 fun C Q s h=>zbq.cps C N (s 0) h Q:=fun {C} hC Q s h hR=>eT hC (fun s h=>zg (z6.l103 zbq.E C Q (s 0)) [(.int .i64 0)] h) hR (fun s h hR=>eS hC (fun s h=>B.pv (V.zbj (s 0)) fun b=>0<1 /\ B.mks h 24 (some [.nils]) b b fun f h=>zg (z6.l82 zbq.E C Q (s 0) f) [(.int .i64 0)] h) (eT hC (fun s h=>zg (z6.l103 zbq.E C Q (s 0)) [(s 3)] h) hR (fun s h hR=>eK (eL hC [0] [3] (on1 (z6.l103 zbq.E C Q)) hR (fun Y9 s h hR=>eT hC (fun s h=>zg (z6.l93 zbq.E C Q Y9 (s 0) (s 3)) [(.int .i64 0)] h) hR (fun s h hR=>eS hC (fun s h=>B.pv (V.bin .add (s 3) (.int .i64 1)) fun g=>Y9 [g] h) (eK (eT hC (fun s h=>zg (z6.l93 zbq.E C Q Y9 (s 0) (s 3)) [(s 4)] h) hR (fun s h hR=>eK (eL hC [0,3] [4] (on2 (z6.l93 zbq.E C Q Y9)) hR (fun Y10 s h hR=>e1 hR))))) (fun s h hR=>e1 hR)))))) (fun s h hR=>eT hC (fun s h=>zg (z6.l82 zbq.E C Q (s 0) (s 5)) [(.int .i64 0)] h) hR (fun s h hR=>eS hC (fun s h=>zg (z6.l59 zbq.E C Q (s 0) (s 5)) [(.int .i64 0)] h) (eT hC (fun s h=>zg (z6.l82 zbq.E C Q (s 0) (s 5)) [(s 6)] h) hR (fun s h hR=>eK (eL hC [0,5] [6] (on2 (z6.l82 zbq.E C Q)) hR (fun Y7 s h hR=>eT hC (fun s h=>B.pv (V.idxS 1 (s 0) (s 6)) fun i=>B.ld h i fun j=>zg (z6.l69 zbq.E C Q Y7 (s 0) (s 5) (s 6)) [j,(.int .i64 0)] h) hR (fun s h hR=>eS hC (fun s h=>B.pv (V.bin .add (s 6) (.int .i64 1)) fun a=>Y7 [a] h) (eK (eT hC (fun s h=>zg (z6.l69 zbq.E C Q Y7 (s 0) (s 5) (s 6)) [(s 7),(.int .i64 0)] h) hR (fun s h hR=>eS hC (fun s h=>B.pv (V.idxS 1 (s 5) (s 6)) fun k=>B.st h k (s 7) fun h=>B.pv (V.bin .add (s 6) (.int .i64 1)) fun a=>Y7 [a] h) (eT hC (fun s h=>zg (z6.l69 zbq.E C Q Y7 (s 0) (s 5) (s 6)) [(s 7),(s 8)] h) hR (fun s h hR=>eK (eL hC [0,5,6] [7,8] (on3 (z6.l69 zbq.E C Q Y7)) hR (fun Y8 s h hR=>e1 hR)))) (fun s h hR=>e1 hR)))) (fun s h hR=>e1 hR)))))) (fun s h hR=>eS hC (fun s h=>zg (z6.l40 zbq.E C Q (s 0) (s 5)) [(.int .i64 0)] h) (eT hC (fun s h=>zg (z6.l59 zbq.E C Q (s 0) (s 5)) [(s 9)] h) hR (fun s h hR=>eK (eL hC [0,5] [9] (on2 (z6.l59 zbq.E C Q)) hR (fun Y5 s h hR=>eT hC (fun s h=>zg (z6.l49 zbq.E C Q Y5 (s 0) (s 5) (s 9)) [(.int .i64 0)] h) hR (fun s h hR=>eS hC (fun s h=>B.pv (V.bin .add (s 9) (.int .i64 1)) fun l=>Y5 [l] h) (eK (eT hC (fun s h=>zg (z6.l49 zbq.E C Q Y5 (s 0) (s 5) (s 9)) [(s 10)] h) hR (fun s h hR=>eK (eL hC [0,5,9] [10] (on3 (z6.l49 zbq.E C Q Y5)) hR (fun Y6 s h hR=>e1 hR))))) (fun s h hR=>e1 hR)))))) (fun s h hR=>eS hC (fun s h=>zg (z6.l15 zbq.E C Q (s 0) (s 5)) [(.int .i64 0)] h) (eT hC (fun s h=>zg (z6.l40 zbq.E C Q (s 0) (s 5)) [(s 11)] h) hR (fun s h hR=>eK (eL hC [0,5] [11] (on2 (z6.l40 zbq.E C Q)) hR (fun Y3 s h hR=>eT hC (fun s h=>0<3 /\ B.mks h 32 (some [.str [],.int .i64 0,.int .i64 0]) (.int .i64 64) (.int .i64 64) fun c h=>zg (z6.l26 zbq.E C Q Y3 (s 0) (s 5) (s 11) c) [(.int .i64 0)] h) hR (fun s h hR=>eS hC (fun s h=>B.pv (V.bin .add (s 11) (.int .i64 1)) fun d=>Y3 [d] h) (eK (eT hC (fun s h=>zg (z6.l26 zbq.E C Q Y3 (s 0) (s 5) (s 11) (s 12)) [(.int .i64 0)] h) hR (fun s h hR=>eS hC (fun s h=>z6.k22 zbq.E C Q Y3 (s 0) (s 5) (s 11) (s 12) h) (eT hC (fun s h=>zg (z6.l26 zbq.E C Q Y3 (s 0) (s 5) (s 11) (s 12)) [(s 13)] h) hR (fun s h hR=>eK (eL hC [0,5,11,12] [13] (on4 (z6.l26 zbq.E C Q Y3)) hR (fun Y4 s h hR=>e1 hR)))) (fun s h hR=>e1 hR)))) (fun s h hR=>e1 hR)))))) (fun s h hR=>eS hC (fun s h=>Q (.bool true) h) (eT hC (fun s h=>zg (z6.l15 zbq.E C Q (s 0) (s 5)) [(s 14)] h) hR (fun s h hR=>eK (eL hC [0,5] [14] (on2 (z6.l15 zbq.E C Q)) hR (fun Y1 s h hR=>eT hC (fun s h=>zg (z6.l5 zbq.E C Q Y1 (s 0) (s 5) (s 14)) [(.int .i64 0)] h) hR (fun s h hR=>eS hC (fun s h=>B.pv (V.bin .add (s 14) (.int .i64 1)) fun e=>Y1 [e] h) (eK (eT hC (fun s h=>zg (z6.l5 zbq.E C Q Y1 (s 0) (s 5) (s 14)) [(s 15)] h) hR (fun s h hR=>eK (eL hC [0,5,14] [15] (on3 (z6.l5 zbq.E C Q Y1)) hR (fun Y2 s h hR=>e1 hR))))) (fun s h hR=>e1 hR)))))) (fun s h hR=>e1 hR)))))))
theorem zbq.imp:zbq.Imp (AC P) N:=fun a h Q hR=>eF mixed (fn:=Tryz.f90) (fun hC=>zbq.L hC (dn Q) (zcd [a]) h hR)
def zb4.I:Bx:=⟨[],[],193,[(7,pz [(7,[3])] 10),(24,pz [(9,[3,6]),(30,[24,27])] 35),(41,pz [(9,[3,6]),(22,[16,19])] 26)]⟩
abbrev zb4.E:zx:=opsF 3 24 [.int .i64 0,.int .i64 0,.int .i64 0] (N 78) [.i .i64,.i .i64,.i .i64]
theorem zb4.L:LkT P zb4.I Tryz.f91 fun C Q s h=>zb4.cps C N (s 0) h Q:=fun {C} hC Q s h hR=>eT hC (fun s h=>zg (z6.l103 zb4.E C Q (s 0)) [(.int .i64 0)] h) hR (fun s h hR=>eS hC (fun s h=>B.pv (V.zbj (s 0)) fun b=>0<1 /\ B.mks h 24 (some [.nils]) b b fun f h=>zg (z6.l82 zb4.E C Q (s 0) f) [(.int .i64 0)] h) (eT hC (fun s h=>zg (z6.l103 zb4.E C Q (s 0)) [(s 3)] h) hR (fun s h hR=>eK (eL hC [0] [3] (on1 (z6.l103 zb4.E C Q)) hR (fun Y9 s h hR=>eT hC (fun s h=>zg (z6.l93 zb4.E C Q Y9 (s 0) (s 3)) [(.int .i64 0)] h) hR (fun s h hR=>eS hC (fun s h=>B.pv (V.bin .add (s 3) (.int .i64 1)) fun g=>Y9 [g] h) (eK (eT hC (fun s h=>zg (z6.l93 zb4.E C Q Y9 (s 0) (s 3)) [(s 4)] h) hR (fun s h hR=>eK (eL hC [0,3] [4] (on2 (z6.l93 zb4.E C Q Y9)) hR (fun Y10 s h hR=>e1 hR))))) (fun s h hR=>e1 hR)))))) (fun s h hR=>eT hC (fun s h=>zg (z6.l82 zb4.E C Q (s 0) (s 5)) [(.int .i64 0)] h) hR (fun s h hR=>eS hC (fun s h=>zg (z6.l59 zb4.E C Q (s 0) (s 5)) [(.int .i64 0)] h) (eT hC (fun s h=>zg (z6.l82 zb4.E C Q (s 0) (s 5)) [(s 6)] h) hR (fun s h hR=>eK (eL hC [0,5] [6] (on2 (z6.l82 zb4.E C Q)) hR (fun Y7 s h hR=>eT hC (fun s h=>B.pv (V.idxS 1 (s 0) (s 6)) fun i=>B.ld h i fun j=>zg (z6.l69 zb4.E C Q Y7 (s 0) (s 5) (s 6)) [j,(.int .i64 0)] h) hR (fun s h hR=>eS hC (fun s h=>B.pv (V.bin .add (s 6) (.int .i64 1)) fun a=>Y7 [a] h) (eK (eT hC (fun s h=>zg (z6.l69 zb4.E C Q Y7 (s 0) (s 5) (s 6)) [(s 7),(.int .i64 0)] h) hR (fun s h hR=>eS hC (fun s h=>B.pv (V.idxS 1 (s 5) (s 6)) fun k=>B.st h k (s 7) fun h=>B.pv (V.bin .add (s 6) (.int .i64 1)) fun a=>Y7 [a] h) (eT hC (fun s h=>zg (z6.l69 zb4.E C Q Y7 (s 0) (s 5) (s 6)) [(s 7),(s 8)] h) hR (fun s h hR=>eK (eL hC [0,5,6] [7,8] (on3 (z6.l69 zb4.E C Q Y7)) hR (fun Y8 s h hR=>e1 hR)))) (fun s h hR=>e1 hR)))) (fun s h hR=>e1 hR)))))) (fun s h hR=>eS hC (fun s h=>zg (z6.l40 zb4.E C Q (s 0) (s 5)) [(.int .i64 0)] h) (eT hC (fun s h=>zg (z6.l59 zb4.E C Q (s 0) (s 5)) [(s 9)] h) hR (fun s h hR=>eK (eL hC [0,5] [9] (on2 (z6.l59 zb4.E C Q)) hR (fun Y5 s h hR=>eT hC (fun s h=>zg (z6.l49 zb4.E C Q Y5 (s 0) (s 5) (s 9)) [(.int .i64 0)] h) hR (fun s h hR=>eS hC (fun s h=>B.pv (V.bin .add (s 9) (.int .i64 1)) fun l=>Y5 [l] h) (eK (eT hC (fun s h=>zg (z6.l49 zb4.E C Q Y5 (s 0) (s 5) (s 9)) [(s 10)] h) hR (fun s h hR=>eK (eL hC [0,5,9] [10] (on3 (z6.l49 zb4.E C Q Y5)) hR (fun Y6 s h hR=>e1 hR))))) (fun s h hR=>e1 hR)))))) (fun s h hR=>eS hC (fun s h=>zg (z6.l15 zb4.E C Q (s 0) (s 5)) [(.int .i64 0)] h) (eT hC (fun s h=>zg (z6.l40 zb4.E C Q (s 0) (s 5)) [(s 11)] h) hR (fun s h hR=>eK (eL hC [0,5] [11] (on2 (z6.l40 zb4.E C Q)) hR (fun Y3 s h hR=>eT hC (fun s h=>0<3 /\ B.mks h 24 (some [.int .i64 0,.int .i64 0,.int .i64 0]) (.int .i64 64) (.int .i64 64) fun c h=>zg (z6.l26 zb4.E C Q Y3 (s 0) (s 5) (s 11) c) [(.int .i64 0)] h) hR (fun s h hR=>eS hC (fun s h=>B.pv (V.bin .add (s 11) (.int .i64 1)) fun d=>Y3 [d] h) (eK (eT hC (fun s h=>zg (z6.l26 zb4.E C Q Y3 (s 0) (s 5) (s 11) (s 12)) [(.int .i64 0)] h) hR (fun s h hR=>eS hC (fun s h=>z6.k22 zb4.E C Q Y3 (s 0) (s 5) (s 11) (s 12) h) (eT hC (fun s h=>zg (z6.l26 zb4.E C Q Y3 (s 0) (s 5) (s 11) (s 12)) [(s 13)] h) hR (fun s h hR=>eK (eL hC [0,5,11,12] [13] (on4 (z6.l26 zb4.E C Q Y3)) hR (fun Y4 s h hR=>e1 hR)))) (fun s h hR=>e1 hR)))) (fun s h hR=>e1 hR)))))) (fun s h hR=>eS hC (fun s h=>Q (.bool true) h) (eT hC (fun s h=>zg (z6.l15 zb4.E C Q (s 0) (s 5)) [(s 14)] h) hR (fun s h hR=>eK (eL hC [0,5] [14] (on2 (z6.l15 zb4.E C Q)) hR (fun Y1 s h hR=>eT hC (fun s h=>zg (z6.l5 zb4.E C Q Y1 (s 0) (s 5) (s 14)) [(.int .i64 0)] h) hR (fun s h hR=>eS hC (fun s h=>B.pv (V.bin .add (s 14) (.int .i64 1)) fun e=>Y1 [e] h) (eK (eT hC (fun s h=>zg (z6.l5 zb4.E C Q Y1 (s 0) (s 5) (s 14)) [(s 15)] h) hR (fun s h hR=>eK (eL hC [0,5,14] [15] (on3 (z6.l5 zb4.E C Q Y1)) hR (fun Y2 s h hR=>e1 hR))))) (fun s h hR=>e1 hR)))))) (fun s h hR=>e1 hR)))))))
theorem zb4.imp:zb4.Imp (AC P) N:=fun a h Q hR=>eF mixed (fn:=Tryz.f91) (fun hC=>zb4.L hC (dn Q) (zcd [a]) h hR)
def zbr.I:Bx:=⟨[],[],193,[(7,pz [(7,[3])] 10),(24,pz [(9,[3,6]),(30,[24,27])] 35),(41,pz [(9,[3,6]),(22,[16,19])] 26)]⟩
abbrev zbr.E:zx:=opsF 2 24 [.str [],.int .i64 0] (N 108) [.s,.i .i64]
theorem zbr.L:LkT P zbr.I Tryz.f92 fun C Q s h=>zbr.cps C N (s 0) h Q:=fun {C} hC Q s h hR=>eT hC (fun s h=>zg (z6.l103 zbr.E C Q (s 0)) [(.int .i64 0)] h) hR (fun s h hR=>eS hC (fun s h=>B.pv (V.zbj (s 0)) fun b=>0<1 /\ B.mks h 24 (some [.nils]) b b fun f h=>zg (z6.l82 zbr.E C Q (s 0) f) [(.int .i64 0)] h) (eT hC (fun s h=>zg (z6.l103 zbr.E C Q (s 0)) [(s 3)] h) hR (fun s h hR=>eK (eL hC [0] [3] (on1 (z6.l103 zbr.E C Q)) hR (fun Y9 s h hR=>eT hC (fun s h=>zg (z6.l93 zbr.E C Q Y9 (s 0) (s 3)) [(.int .i64 0)] h) hR (fun s h hR=>eS hC (fun s h=>B.pv (V.bin .add (s 3) (.int .i64 1)) fun g=>Y9 [g] h) (eK (eT hC (fun s h=>zg (z6.l93 zbr.E C Q Y9 (s 0) (s 3)) [(s 4)] h) hR (fun s h hR=>eK (eL hC [0,3] [4] (on2 (z6.l93 zbr.E C Q Y9)) hR (fun Y10 s h hR=>e1 hR))))) (fun s h hR=>e1 hR)))))) (fun s h hR=>eT hC (fun s h=>zg (z6.l82 zbr.E C Q (s 0) (s 5)) [(.int .i64 0)] h) hR (fun s h hR=>eS hC (fun s h=>zg (z6.l59 zbr.E C Q (s 0) (s 5)) [(.int .i64 0)] h) (eT hC (fun s h=>zg (z6.l82 zbr.E C Q (s 0) (s 5)) [(s 6)] h) hR (fun s h hR=>eK (eL hC [0,5] [6] (on2 (z6.l82 zbr.E C Q)) hR (fun Y7 s h hR=>eT hC (fun s h=>B.pv (V.idxS 1 (s 0) (s 6)) fun i=>B.ld h i fun j=>zg (z6.l69 zbr.E C Q Y7 (s 0) (s 5) (s 6)) [j,(.int .i64 0)] h) hR (fun s h hR=>eS hC (fun s h=>B.pv (V.bin .add (s 6) (.int .i64 1)) fun a=>Y7 [a] h) (eK (eT hC (fun s h=>zg (z6.l69 zbr.E C Q Y7 (s 0) (s 5) (s 6)) [(s 7),(.int .i64 0)] h) hR (fun s h hR=>eS hC (fun s h=>B.pv (V.idxS 1 (s 5) (s 6)) fun k=>B.st h k (s 7) fun h=>B.pv (V.bin .add (s 6) (.int .i64 1)) fun a=>Y7 [a] h) (eT hC (fun s h=>zg (z6.l69 zbr.E C Q Y7 (s 0) (s 5) (s 6)) [(s 7),(s 8)] h) hR (fun s h hR=>eK (eL hC [0,5,6] [7,8] (on3 (z6.l69 zbr.E C Q Y7)) hR (fun Y8 s h hR=>e1 hR)))) (fun s h hR=>e1 hR)))) (fun s h hR=>e1 hR)))))) (fun s h hR=>eS hC (fun s h=>zg (z6.l40 zbr.E C Q (s 0) (s 5)) [(.int .i64 0)] h) (eT hC (fun s h=>zg (z6.l59 zbr.E C Q (s 0) (s 5)) [(s 9)] h) hR (fun s h hR=>eK (eL hC [0,5] [9] (on2 (z6.l59 zbr.E C Q)) hR (fun Y5 s h hR=>eT hC (fun s h=>zg (z6.l49 zbr.E C Q Y5 (s 0) (s 5) (s 9)) [(.int .i64 0)] h) hR (fun s h hR=>eS hC (fun s h=>B.pv (V.bin .add (s 9) (.int .i64 1)) fun l=>Y5 [l] h) (eK (eT hC (fun s h=>zg (z6.l49 zbr.E C Q Y5 (s 0) (s 5) (s 9)) [(s 10)] h) hR (fun s h hR=>eK (eL hC [0,5,9] [10] (on3 (z6.l49 zbr.E C Q Y5)) hR (fun Y6 s h hR=>e1 hR))))) (fun s h hR=>e1 hR)))))) (fun s h hR=>eS hC (fun s h=>zg (z6.l15 zbr.E C Q (s 0) (s 5)) [(.int .i64 0)] h) (eT hC (fun s h=>zg (z6.l40 zbr.E C Q (s 0) (s 5)) [(s 11)] h) hR (fun s h hR=>eK (eL hC [0,5] [11] (on2 (z6.l40 zbr.E C Q)) hR (fun Y3 s h hR=>eT hC (fun s h=>0<2 /\ B.mks h 24 (some [.str [],.int .i64 0]) (.int .i64 64) (.int .i64 64) fun c h=>zg (z6.l26 zbr.E C Q Y3 (s 0) (s 5) (s 11) c) [(.int .i64 0)] h) hR (fun s h hR=>eS hC (fun s h=>B.pv (V.bin .add (s 11) (.int .i64 1)) fun d=>Y3 [d] h) (eK (eT hC (fun s h=>zg (z6.l26 zbr.E C Q Y3 (s 0) (s 5) (s 11) (s 12)) [(.int .i64 0)] h) hR (fun s h hR=>eS hC (fun s h=>z6.k22 zbr.E C Q Y3 (s 0) (s 5) (s 11) (s 12) h) (eT hC (fun s h=>zg (z6.l26 zbr.E C Q Y3 (s 0) (s 5) (s 11) (s 12)) [(s 13)] h) hR (fun s h hR=>eK (eL hC [0,5,11,12] [13] (on4 (z6.l26 zbr.E C Q Y3)) hR (fun Y4 s h hR=>e1 hR)))) (fun s h hR=>e1 hR)))) (fun s h hR=>e1 hR)))))) (fun s h hR=>eS hC (fun s h=>Q (.bool true) h) (eT hC (fun s h=>zg (z6.l15 zbr.E C Q (s 0) (s 5)) [(s 14)] h) hR (fun s h hR=>eK (eL hC [0,5] [14] (on2 (z6.l15 zbr.E C Q)) hR (fun Y1 s h hR=>eT hC (fun s h=>zg (z6.l5 zbr.E C Q Y1 (s 0) (s 5) (s 14)) [(.int .i64 0)] h) hR (fun s h hR=>eS hC (fun s h=>B.pv (V.bin .add (s 14) (.int .i64 1)) fun e=>Y1 [e] h) (eK (eT hC (fun s h=>zg (z6.l5 zbr.E C Q Y1 (s 0) (s 5) (s 14)) [(s 15)] h) hR (fun s h hR=>eK (eL hC [0,5,14] [15] (on3 (z6.l5 zbr.E C Q Y1)) hR (fun Y2 s h hR=>e1 hR))))) (fun s h hR=>e1 hR)))))) (fun s h hR=>e1 hR)))))))
theorem zbr.imp:zbr.Imp (AC P) N:=fun a h Q hR=>eF mixed (fn:=Tryz.f92) (fun hC=>zbr.L hC (dn Q) (zcd [a]) h hR)
def zgb.I:Bx:=⟨[],[],193,[(7,pz [(7,[3])] 10),(24,pz [(9,[3,6]),(30,[24,27])] 35),(41,pz [(9,[3,6]),(22,[16,19])] 26)]⟩
def zbs.I:Bx:=⟨[],[],193,[(7,pz [(7,[3])] 10),(24,pz [(9,[3,6]),(30,[24,27])] 35),(41,pz [(9,[3,6]),(22,[16,19])] 26)]⟩
abbrev zbs.E:zx:=opsF 8 80 [.int .i64 0,.str [],.int .i64 0,.int .i64 0,.int .i64 0,.int .u8 0,.int .i64 0,.str []] (N 111) [.i .i64,.s,.i .i64,.i .i64,.i .i64,.i .u8,.i .i64,.s]
theorem zbs.L:LkT P zbs.I Tryz.f94 fun C Q s h=>zbs.cps C N (s 0) h Q:=fun {C} hC Q s h hR=>eT hC (fun s h=>zg (z6.l103 zbs.E C Q (s 0)) [(.int .i64 0)] h) hR (fun s h hR=>eS hC (fun s h=>B.pv (V.zbj (s 0)) fun b=>0<1 /\ B.mks h 24 (some [.nils]) b b fun f h=>zg (z6.l82 zbs.E C Q (s 0) f) [(.int .i64 0)] h) (eT hC (fun s h=>zg (z6.l103 zbs.E C Q (s 0)) [(s 3)] h) hR (fun s h hR=>eK (eL hC [0] [3] (on1 (z6.l103 zbs.E C Q)) hR (fun Y9 s h hR=>eT hC (fun s h=>zg (z6.l93 zbs.E C Q Y9 (s 0) (s 3)) [(.int .i64 0)] h) hR (fun s h hR=>eS hC (fun s h=>B.pv (V.bin .add (s 3) (.int .i64 1)) fun g=>Y9 [g] h) (eK (eT hC (fun s h=>zg (z6.l93 zbs.E C Q Y9 (s 0) (s 3)) [(s 4)] h) hR (fun s h hR=>eK (eL hC [0,3] [4] (on2 (z6.l93 zbs.E C Q Y9)) hR (fun Y10 s h hR=>e1 hR))))) (fun s h hR=>e1 hR)))))) (fun s h hR=>eT hC (fun s h=>zg (z6.l82 zbs.E C Q (s 0) (s 5)) [(.int .i64 0)] h) hR (fun s h hR=>eS hC (fun s h=>zg (z6.l59 zbs.E C Q (s 0) (s 5)) [(.int .i64 0)] h) (eT hC (fun s h=>zg (z6.l82 zbs.E C Q (s 0) (s 5)) [(s 6)] h) hR (fun s h hR=>eK (eL hC [0,5] [6] (on2 (z6.l82 zbs.E C Q)) hR (fun Y7 s h hR=>eT hC (fun s h=>B.pv (V.idxS 1 (s 0) (s 6)) fun i=>B.ld h i fun j=>zg (z6.l69 zbs.E C Q Y7 (s 0) (s 5) (s 6)) [j,(.int .i64 0)] h) hR (fun s h hR=>eS hC (fun s h=>B.pv (V.bin .add (s 6) (.int .i64 1)) fun a=>Y7 [a] h) (eK (eT hC (fun s h=>zg (z6.l69 zbs.E C Q Y7 (s 0) (s 5) (s 6)) [(s 7),(.int .i64 0)] h) hR (fun s h hR=>eS hC (fun s h=>B.pv (V.idxS 1 (s 5) (s 6)) fun k=>B.st h k (s 7) fun h=>B.pv (V.bin .add (s 6) (.int .i64 1)) fun a=>Y7 [a] h) (eT hC (fun s h=>zg (z6.l69 zbs.E C Q Y7 (s 0) (s 5) (s 6)) [(s 7),(s 8)] h) hR (fun s h hR=>eK (eL hC [0,5,6] [7,8] (on3 (z6.l69 zbs.E C Q Y7)) hR (fun Y8 s h hR=>e1 hR)))) (fun s h hR=>e1 hR)))) (fun s h hR=>e1 hR)))))) (fun s h hR=>eS hC (fun s h=>zg (z6.l40 zbs.E C Q (s 0) (s 5)) [(.int .i64 0)] h) (eT hC (fun s h=>zg (z6.l59 zbs.E C Q (s 0) (s 5)) [(s 9)] h) hR (fun s h hR=>eK (eL hC [0,5] [9] (on2 (z6.l59 zbs.E C Q)) hR (fun Y5 s h hR=>eT hC (fun s h=>zg (z6.l49 zbs.E C Q Y5 (s 0) (s 5) (s 9)) [(.int .i64 0)] h) hR (fun s h hR=>eS hC (fun s h=>B.pv (V.bin .add (s 9) (.int .i64 1)) fun l=>Y5 [l] h) (eK (eT hC (fun s h=>zg (z6.l49 zbs.E C Q Y5 (s 0) (s 5) (s 9)) [(s 10)] h) hR (fun s h hR=>eK (eL hC [0,5,9] [10] (on3 (z6.l49 zbs.E C Q Y5)) hR (fun Y6 s h hR=>e1 hR))))) (fun s h hR=>e1 hR)))))) (fun s h hR=>eS hC (fun s h=>zg (z6.l15 zbs.E C Q (s 0) (s 5)) [(.int .i64 0)] h) (eT hC (fun s h=>zg (z6.l40 zbs.E C Q (s 0) (s 5)) [(s 11)] h) hR (fun s h hR=>eK (eL hC [0,5] [11] (on2 (z6.l40 zbs.E C Q)) hR (fun Y3 s h hR=>eT hC (fun s h=>0<8 /\ B.mks h 80 (some [.int .i64 0,.str [],.int .i64 0,.int .i64 0,.int .i64 0,.int .u8 0,.int .i64 0,.str []]) (.int .i64 64) (.int .i64 64) fun c h=>zg (z6.l26 zbs.E C Q Y3 (s 0) (s 5) (s 11) c) [(.int .i64 0)] h) hR (fun s h hR=>eS hC (fun s h=>B.pv (V.bin .add (s 11) (.int .i64 1)) fun d=>Y3 [d] h) (eK (eT hC (fun s h=>zg (z6.l26 zbs.E C Q Y3 (s 0) (s 5) (s 11) (s 12)) [(.int .i64 0)] h) hR (fun s h hR=>eS hC (fun s h=>z6.k22 zbs.E C Q Y3 (s 0) (s 5) (s 11) (s 12) h) (eT hC (fun s h=>zg (z6.l26 zbs.E C Q Y3 (s 0) (s 5) (s 11) (s 12)) [(s 13)] h) hR (fun s h hR=>eK (eL hC [0,5,11,12] [13] (on4 (z6.l26 zbs.E C Q Y3)) hR (fun Y4 s h hR=>e1 hR)))) (fun s h hR=>e1 hR)))) (fun s h hR=>e1 hR)))))) (fun s h hR=>eS hC (fun s h=>Q (.bool true) h) (eT hC (fun s h=>zg (z6.l15 zbs.E C Q (s 0) (s 5)) [(s 14)] h) hR (fun s h hR=>eK (eL hC [0,5] [14] (on2 (z6.l15 zbs.E C Q)) hR (fun Y1 s h hR=>eT hC (fun s h=>zg (z6.l5 zbs.E C Q Y1 (s 0) (s 5) (s 14)) [(.int .i64 0)] h) hR (fun s h hR=>eS hC (fun s h=>B.pv (V.bin .add (s 14) (.int .i64 1)) fun e=>Y1 [e] h) (eK (eT hC (fun s h=>zg (z6.l5 zbs.E C Q Y1 (s 0) (s 5) (s 14)) [(s 15)] h) hR (fun s h hR=>eK (eL hC [0,5,14] [15] (on3 (z6.l5 zbs.E C Q Y1)) hR (fun Y2 s h hR=>e1 hR))))) (fun s h hR=>e1 hR)))))) (fun s h hR=>e1 hR)))))))
theorem zbs.imp:zbs.Imp (AC P) N:=fun a h Q hR=>eF mixed (fn:=Tryz.f94) (fun hC=>zbs.L hC (dn Q) (zcd [a]) h hR)
def zgn.I:Bx:=⟨[],[],193,[(7,pz [(7,[3])] 10),(24,pz [(9,[3,6]),(30,[24,27])] 35),(41,pz [(9,[3,6]),(22,[16,19])] 26)]⟩
def zf6.I:Bx:=⟨[],[],193,[(7,pz [(7,[3])] 10),(24,pz [(9,[3,6]),(30,[24,27])] 35),(41,pz [(9,[3,6]),(22,[16,19])] 26)]⟩
def zfu.I:Bx:=⟨[],[],193,[(7,pz [(7,[3])] 10),(24,pz [(9,[3,6]),(30,[24,27])] 35),(41,pz [(9,[3,6]),(22,[16,19])] 26)]⟩
def zgl.I:Bx:=⟨[],[],193,[(7,pz [(7,[3])] 10),(24,pz [(9,[3,6]),(30,[24,27])] 35),(41,pz [(9,[3,6]),(22,[16,19])] 26)]⟩
def zf5.I:Bx:=⟨[],[],193,[(7,pz [(7,[3])] 10),(24,pz [(9,[3,6]),(30,[24,27])] 35),(41,pz [(9,[3,6]),(22,[16,19])] 26)]⟩
def zgc.I:Bx:=⟨[],[],193,[(7,pz [(7,[3])] 10),(24,pz [(9,[3,6]),(30,[24,27])] 35),(41,pz [(9,[3,6]),(22,[16,19])] 26)]⟩
def zfp.I:Bx:=⟨[],[],193,[(7,pz [(7,[3])] 10),(24,pz [(9,[3,6]),(30,[24,27])] 35),(41,pz [(9,[3,6]),(22,[16,19])] 26)]⟩
def zf9.I:Bx:=⟨[],[],193,[(7,pz [(7,[3])] 10),(24,pz [(9,[3,6]),(30,[24,27])] 35),(41,pz [(9,[3,6]),(22,[16,19])] 26)]⟩
def zfo.I:Bx:=⟨[],[],193,[(7,pz [(7,[3])] 10),(24,pz [(9,[3,6]),(30,[24,27])] 35),(41,pz [(9,[3,6]),(22,[16,19])] 26)]⟩
def zf8.I:Bx:=⟨[],[],193,[(7,pz [(7,[3])] 10),(24,pz [(9,[3,6]),(30,[24,27])] 35),(41,pz [(9,[3,6]),(22,[16,19])] 26)]⟩
def zf7.I:Bx:=⟨[],[],193,[(7,pz [(7,[3])] 10),(24,pz [(9,[3,6]),(30,[24,27])] 35),(41,pz [(9,[3,6]),(22,[16,19])] 26)]⟩
def zbg.I:Bx:=⟨[],[],19,[]⟩
abbrev zbg.E:zx:=opsF 4 72 [.str [],.int .i64 0,.nils,.nils] 0 []
theorem zbg.L:LkT P zbg.I Tryz.f108 fun C Q s h=>zbg.cps C N (s 0) (s 1) h Q:=fun {C} hC Q s h hR=>eT hC (fun s h=>B.pv (V.zbj (s 0)) fun a=>zg (zce.l2 C zbg.E Q (s 0) (s 1) a) [(.int .i64 0)] h) hR (fun s h hR=>eS hC (fun s h=>Q (.int .i64 (-1)) h) (eT hC (fun s h=>zg (zce.l2 C zbg.E Q (s 0) (s 1) (s 7)) [(s 8)] h) hR (fun s h hR=>eK (eL hC [0,1,7] [8] (on3 (zce.l2 C zbg.E Q)) hR (fun Y1 s h hR=>e1 hR)))) (fun s h hR=>e1 hR))
theorem zbg.imp:zbg.Imp (AC P) N:=fun a b h Q hR=>eF mixed (fn:=Tryz.f108) (fun hC=>zbg.L hC (dn Q) (zcd [a,b]) h hR)
def zl.I:Bx:=⟨[],[],36,[]⟩
theorem zl.L:LkT P zl.I Tryz.f109 fun C Q s h=>zl.cps C N (s 0) h Q:=fun {C} hC Q s h hR=>eT hC (fun s h=>B.pv (V.zbj (s 0)) fun a=>zg (zl.l4 C N Q (s 0) (s 0) a) [(.int .i64 0),(.int .i64 0)] h) hR (fun s h hR=>eT hC (fun s h=>B.pv (V.zbj (s 0)) fun a=>zg (zl.l4 C N Q (s 0) (s 0) a) [(s 3),(.int .i64 0)] h) hR (fun s h hR=>eS hC (fun s h=>B.call C (N 376) [.nils,(s 3)] h fun c h=>B.pv (V.zbj (s 0)) fun b=>zg (zl.l2 C N Q (s 0) b) [c,(.int .i64 0)] h) (eT hC (fun s h=>zg (zl.l4 C N Q (s 0) (s 9) (s 10)) [(s 3),(s 11)] h) hR (fun s h hR=>eK (eL hC [0,9,10] [3,11] (on3 (zl.l4 C N Q)) hR (fun Y2 s h hR=>e1 hR)))) (fun s h hR=>eT hC (fun s h=>B.pv (V.zbj (s 0)) fun b=>zg (zl.l2 C N Q (s 0) b) [(s 6),(.int .i64 0)] h) hR (fun s h hR=>eS hC (fun s h=>Q (s 6) h) (eT hC (fun s h=>zg (zl.l2 C N Q (s 25) (s 26)) [(s 6),(s 27)] h) hR (fun s h hR=>eK (eL hC [25,26] [6,27] (on2 (zl.l2 C N Q)) hR (fun Y1 s h hR=>e1 hR)))) (fun s h hR=>e1 hR)))))
theorem zl.imp:zl.Imp (AC P) N:=fun a h Q hR=>eF mixed (fn:=Tryz.f109) (fun hC=>zl.L hC (dn Q) (zcd [a]) h hR)
def zb1.I:Bx:=⟨[],[],19,[]⟩
theorem zb1.L:LkT P zb1.I Tryz.f110 fun C Q s h=>zb1.cps C N (s 0) (s 1) h Q:=fun {C} hC Q s h hR=>eT hC (fun s h=>B.pv (V.zbj (s 0)) fun a=>zg (zfw.l2 C (opsS 16 (.str []) 0) Q (s 0) (s 1) a) [(.int .i64 0)] h) hR (fun s h hR=>eS hC (fun s h=>Q (.int .i64 (-1)) h) (eT hC (fun s h=>zg (zfw.l2 C (opsS 16 (.str []) 0) Q (s 0) (s 1) (s 7)) [(s 8)] h) hR (fun s h hR=>eK (eL hC [0,1,7] [8] (on3 (zfw.l2 C (opsS 16 (.str []) 0) Q)) hR (fun Y1 s h hR=>e1 hR)))) (fun s h hR=>e1 hR))
theorem zb1.imp:zb1.Imp (AC P) N:=fun a b h Q hR=>eF mixed (fn:=Tryz.f110) (fun hC=>zb1.L hC (dn Q) (zcd [a,b]) h hR)
def zel.I:Bx:=⟨[4],[],9,[]⟩
theorem zel.L:LkT P zel.I Tryz.f112 fun C Q s h=>zel.cps C N (s 0) (s 1) h Q:=fun {C} hC Q s h hR=>e1 hR
theorem zel.imp:zel.Imp (AC P) N:=fun a b h Q hR=>eF mixed (fn:=Tryz.f112) (fun hC=>zel.L hC (dn Q) (zcd [a,b]) h hR)
def zch.I:Bx:=⟨[],[],49,[(4,pz [] 15),(6,pz [] 18)]⟩
theorem zch.L:LkT P zch.I Tryz.f113 fun C Q s h=>zch.cps C N (s 0) (s 1) (s 2) h Q:=fun {C} hC Q s h hR=>eT hC (fun s h=>zg (zcg.l3 C (opsS 16 (.str []) 0) (N 377) Q (s 0) (s 1) (s 2)) [(s 6)] h) hR (fun s h hR=>eK (eL hC [0,1,2] [6] (on3 (zcg.l3 C (opsS 16 (.str []) 0) (N 377) Q)) hR (fun Y1 s h hR=>eT hC (fun s h=>zg (zcg.l2 C (opsS 16 (.str []) 0) (N 377) Q Y1 (s 0) (s 1) (s 2) (s 6)) [(s 6)] h) hR (fun s h hR=>eS hC (fun s h=>B.pv (V.bin .add (s 6) (.int .i64 1)) fun a=>Y1 [a] h) (eK (eT hC (fun s h=>zg (zcg.l2 C (opsS 16 (.str []) 0) (N 377) Q Y1 (s 0) (s 1) (s 2) (s 6)) [(s 7)] h) hR (fun s h hR=>eK (eL hC [0,1,2,6] [7] (on4 (zcg.l2 C (opsS 16 (.str []) 0) (N 377) Q Y1)) hR (fun Y2 s h hR=>e1 hR))))) (fun s h hR=>e1 hR)))))
theorem zch.imp:zch.Imp (AC P) N:=fun a b c h Q hR=>eF mixed (fn:=Tryz.f113) (fun hC=>zch.L hC (dn Q) (zcd [a,b,c]) h hR)
def zc4.I:Bx:=⟨[],[],56,[(10,pz [] 20)]⟩
theorem zc4.L:LkT P zc4.I Tryz.f114 fun C Q s h=>zc4.cps C N (s 0) (s 1) (s 2) h Q:=fun {C} hC Q s h hR=>eT hC (fun s h=>B.pv (V.bin .sub (s 2) (s 1)) fun a=>zb0.k5 C (opsS 16 (.str []) 0) (N 386) Q (s 0) (s 6) (.int .i64 0) a h) hR (fun s h hR=>eT hC (fun s h=>B.pv (V.bin .sub (s 2) (s 1)) fun a=>zb0.k5 C (opsS 16 (.str []) 0) (N 386) Q (s 0) (s 6) (s 7) a h) hR (fun s h hR=>eT hC (fun s h=>zb0.k5 C (opsS 16 (.str []) 0) (N 386) Q (s 0) (s 6) (s 7) (s 8) h) hR (fun s h hR=>eS hC (fun s h=>B.pv (V.bin .sub (s 8) (.int .i64 1)) fun b=>zg (zb0.l2 C (opsS 16 (.str []) 0) (N 386) Q (s 0) (s 6) (s 7)) [b] h) (eT hC (fun s h=>zg (zb0.l4 C (opsS 16 (.str []) 0) (N 386) Q (s 0) (s 6) (s 7) (s 8)) [(s 9)] h) hR (fun s h hR=>eK (eL hC [0,6,7,8] [9] (on4 (zb0.l4 C (opsS 16 (.str []) 0) (N 386) Q)) hR (fun Y2 s h hR=>e1 hR)))) (fun s h hR=>eT hC (fun s h=>zg (zb0.l2 C (opsS 16 (.str []) 0) (N 386) Q (s 0) (s 6) (s 7)) [(s 10)] h) hR (fun s h hR=>eK (eL hC [0,6,7] [10] (on3 (zb0.l2 C (opsS 16 (.str []) 0) (N 386) Q)) hR (fun Y1 s h hR=>e1 hR)))))))
theorem zc4.imp:zc4.Imp (AC P) N:=fun a b c h Q hR=>eF mixed (fn:=Tryz.f114) (fun hC=>zc4.L hC (dn Q) (zcd [a,b,c]) h hR)
def zcj.I:Bx:=⟨[],[],65,[(10,pz [] 20)]⟩
theorem zcj.L:LkT P zcj.I Tryz.f115 fun C Q s h=>zcj.cps C N (s 0) (s 1) (s 2) h Q:=fun {C} hC Q s h hR=>eT hC (fun s h=>B.pv (V.bin .geq (s 6) (.int .i64 8)) fun a=>B.cond a (zu.k7 C (opsS 16 (.str []) 0) (N 298) (N 299) Q (s 0) (s 1) (s 6) h) (Q (.tup []) h)) hR (fun s h hR=>eT hC (fun s h=>B.cond (s 15) (zu.k7 C (opsS 16 (.str []) 0) (N 298) (N 299) Q (s 0) (s 1) (s 6) h) (Q (.tup []) h)) hR (fun s h hR=>eC 15 hR (fun hR=>eT hC (fun s h=>B.call C (N 299) [(s 6)] h fun b h=>zu.k6 C (opsS 16 (.str []) 0) (N 298) (N 299) Q (s 0) (s 1) (s 6) (s 7) b h) hR (fun s h hR=>eT hC (fun s h=>zu.k6 C (opsS 16 (.str []) 0) (N 298) (N 299) Q (s 0) (s 1) (s 6) (s 7) (s 8) h) hR (fun s h hR=>eT hC (fun s h=>zg (zu.l5 C (opsS 16 (.str []) 0) (N 298) (N 299) Q (s 0) (s 1) (s 6) (s 7) (s 8)) [(s 9)] h) hR (fun s h hR=>eK (eL hC [0,1,6,7,8] [9] (on5 (zu.l5 C (opsS 16 (.str []) 0) (N 298) (N 299) Q)) hR (fun Y1 s h hR=>eT hC (fun s h=>zu.k3 C (opsS 16 (.str []) 0) (N 298) (N 299) Q Y1 (s 0) (s 1) (s 6) (s 7) (s 8) (s 9) h) hR (fun s h hR=>eS hC (fun s h=>B.pv (V.bin .add (s 9) (.int .i64 1)) fun c=>Y1 [c] h) (eK (eT hC (fun s h=>zu.k2 C (opsS 16 (.str []) 0) (N 298) (N 299) Q Y1 (s 0) (s 1) (s 6) (s 7) (s 8) (s 9) (s 10) h) hR (fun s h hR=>eT hC (fun s h=>zu.k1 C (opsS 16 (.str []) 0) (N 298) (N 299) Q Y1 (s 0) (s 1) (s 6) (s 7) (s 8) (s 9) (s 10) h) hR (fun s h hR=>e1 hR)))) (fun s h hR=>e1 hR)))))))) (fun hR=>e1 hR)))
theorem zcj.imp:zcj.Imp (AC P) N:=fun a b c h Q hR=>eF mixed (fn:=Tryz.f115) (fun hC=>zcj.L hC (dn Q) (zcd [a,b,c]) h hR)
def zcr.I:Bx:=⟨[],[],57,[]⟩
theorem zcr.L:LkT P zcr.I Tryz.f116 fun C Q s h=>zcr.cps C N (s 0) (s 1) (s 2) h Q:=fun {C} hC Q s h hR=>eT hC (fun s h=>B.pv (V.bin .sub (s 2) (s 1)) fun b=>B.newO h (some [.int .i64 0]) fun a h=>zbf.k5 C (opsS 16 (.str []) 0) (N 387) (N 388) Q (s 0) (s 1) b (.ptr a 0 0) h) hR (fun s h hR=>eT hC (fun s h=>B.newO h (some [.int .i64 0]) fun a h=>zbf.k5 C (opsS 16 (.str []) 0) (N 387) (N 388) Q (s 0) (s 1) (s 8) (.ptr a 0 0) h) hR (fun s h hR=>eT hC (fun s h=>zbf.k5 C (opsS 16 (.str []) 0) (N 387) (N 388) Q (s 0) (s 1) (s 8) (s 9) h) hR (fun s h hR=>eT hC (fun s h=>zbf.k4 C (opsS 16 (.str []) 0) (N 387) (N 388) Q (s 0) (s 1) (s 8) (s 9) (s 10) h) hR (fun s h hR=>eT hC (fun s h=>zbf.k3 C (opsS 16 (.str []) 0) (N 387) (N 388) Q (s 0) (s 1) (s 8) (s 9) (s 10) (s 11) h) hR (fun s h hR=>eT hC (fun s h=>zbf.k2 C (opsS 16 (.str []) 0) (N 387) (N 388) Q (s 0) (s 8) (s 9) (s 10) (s 11) (s 12) h) hR (fun s h hR=>eT hC (fun s h=>zbf.k1 C (opsS 16 (.str []) 0) (N 387) (N 388) Q (s 9) (s 11) h) hR (fun s h hR=>e1 hR)))))))
theorem zcr.imp:zcr.Imp (AC P) N:=fun a b c h Q hR=>eF mixed (fn:=Tryz.f116) (fun hC=>zcr.L hC (dn Q) (zcd [a,b,c]) h hR)
def zcm.I:Bx:=⟨[],[],32,[(3,pz [] 16)]⟩
theorem zcm.L:LkT P zcm.I Tryz.f117 fun C Q s h=>zcm.cps C N (s 0) (s 1) (s 2) h Q:=fun {C} hC Q s h hR=>eT hC (fun s h=>B.pv (V.bin .sub (s 2) (.int .i64 1)) fun a=>zg (zdn.l2 C (opsS 16 (.str []) 0) Q (s 0)) [(s 6),a] h) hR (fun s h hR=>eT hC (fun s h=>zg (zdn.l2 C (opsS 16 (.str []) 0) Q (s 0)) [(s 6),(s 7)] h) hR (fun s h hR=>eK (eL hC [0] [6,7] (on1 (zdn.l2 C (opsS 16 (.str []) 0) Q)) hR (fun Y1 s h hR=>e1 hR))))
theorem zcm.imp:zcm.Imp (AC P) N:=fun a b c h Q hR=>eF mixed (fn:=Tryz.f117) (fun hC=>zcm.L hC (dn Q) (zcd [a,b,c]) h hR)
def zbx.I:Bx:=⟨[],[],133,[(5,pz [] 16),(11,pz [] 18),(16,pz [] 11),(17,pz [] 18),(22,pz [] 11),(23,pz [] 18)]⟩
theorem zbx.L:LkT P zbx.I Tryz.f118 fun C Q s h=>zbx.cps C N (s 0) (s 1) (s 2) h Q:=fun {C} hC Q s h hR=>eT hC (fun s h=>B.pv (V.bin .add (s 1) (.int .i64 1)) fun c=>zg (zf.l12 C (opsS 16 (.str []) 0) (N 377) Q (s 0) (s 1) (s 2)) [c,(.int .i64 0)] h) hR (fun s h hR=>eT hC (fun s h=>zg (zf.l12 C (opsS 16 (.str []) 0) (N 377) Q (s 0) (s 1) (s 2)) [(s 7),(.int .i64 0)] h) hR (fun s h hR=>eS hC (fun s h=>Q (.bool false) h) (eT hC (fun s h=>zg (zf.l12 C (opsS 16 (.str []) 0) (N 377) Q (s 0) (s 1) (s 2)) [(s 7),(s 8)] h) hR (fun s h hR=>eK (eL hC [0,1,2] [7,8] (on3 (zf.l12 C (opsS 16 (.str []) 0) (N 377) Q)) hR (fun Y1 s h hR=>eT hC (fun s h=>zg (zf.l10 C (opsS 16 (.str []) 0) (N 377) Q Y1 (s 0) (s 1) (s 2) (s 8)) [(s 7)] h) hR (fun s h hR=>eS hC (fun s h=>B.pv (V.bin .add (s 8) (.int .i64 1)) fun a=>Y1 [(s 7),a] h) (eK (eS hC (fun s h=>B.pv (V.bin .eql (s 7) (s 2)) fun d=>B.cond d (Q (.bool true) h) (zf.k8 C (opsS 16 (.str []) 0) (N 377) Q Y1 (s 0) (s 1) (s 2) (s 7) (s 8) h)) (eK (eL hC [0,1,2,8] [7] (on4 (zf.l10 C (opsS 16 (.str []) 0) (N 377) Q Y1)) hR (fun Y4 s h hR=>e1 hR))) (fun s h hR=>eT hC (fun s h=>zf.k8 C (opsS 16 (.str []) 0) (N 377) Q Y1 (s 0) (s 1) (s 2) (s 7) (s 8) h) hR (fun s h hR=>eT hC (fun s h=>zf.k7 C (opsS 16 (.str []) 0) (N 377) Q Y1 (s 0) (s 1) (s 2) (s 7) (s 8) h) hR (fun s h hR=>eT hC (fun s h=>zf.k6 C (opsS 16 (.str []) 0) (N 377) Q Y1 (s 0) (s 1) (s 2) (s 7) (s 8) h) hR (fun s h hR=>eS hC (fun s h=>zf.k3 C (opsS 16 (.str []) 0) (N 377) Q Y1 (s 0) (s 1) (s 2) (s 7) (s 8) h) (eT hC (fun s h=>B.cond (s 61) (B.pv (V.bin .sub (s 7) (.int .i64 1)) fun e=>zg (zf.l5 C (opsS 16 (.str []) 0) (N 377) Q Y1 (s 0) (s 1) (s 2) (s 7) (s 8)) [e] h) (zf.k3 C (opsS 16 (.str []) 0) (N 377) Q Y1 (s 0) (s 1) (s 2) (s 7) (s 8) h)) hR (fun s h hR=>eC 61 hR (fun hR=>eT hC (fun s h=>zg (zf.l5 C (opsS 16 (.str []) 0) (N 377) Q Y1 (s 0) (s 1) (s 2) (s 7) (s 8)) [(s 9)] h) hR (fun s h hR=>eK (eL hC [0,1,2,7,8] [9] (on5 (zf.l5 C (opsS 16 (.str []) 0) (N 377) Q Y1)) hR (fun Y3 s h hR=>e1 hR)))) (fun hR=>e1 hR))) (fun s h hR=>eT hC (fun s h=>B.cond (s 98) (B.pv (V.bin .add (s 7) (.int .i64 1)) fun b=>zg (zf.l2 C (opsS 16 (.str []) 0) (N 377) Q Y1 (s 0) (s 1) (s 2) (s 7) (s 8)) [b] h) (B.pv (V.bin .add (s 8) (.int .i64 1)) fun a=>Y1 [(s 7),a] h)) hR (fun s h hR=>eC 98 hR (fun hR=>eT hC (fun s h=>zg (zf.l2 C (opsS 16 (.str []) 0) (N 377) Q Y1 (s 0) (s 1) (s 2) (s 7) (s 8)) [(s 10)] h) hR (fun s h hR=>eK (eL hC [0,1,2,7,8] [10] (on5 (zf.l2 C (opsS 16 (.str []) 0) (N 377) Q Y1)) hR (fun Y2 s h hR=>e1 hR)))) (fun hR=>e1 hR))))))))) (fun s h hR=>e1 hR)))))) (fun s h hR=>e1 hR)))
theorem zbx.imp:zbx.Imp (AC P) N:=fun a b c h Q hR=>eF mixed (fn:=Tryz.f118) (fun hC=>zbx.L hC (dn Q) (zcd [a,b,c]) h hR)
def zdy.I:Bx:=⟨[],[],17,[]⟩
theorem zdy.L:LkT P zdy.I Tryz.f119 fun C Q s h=>zdy.cps C N (s 0) (s 1) h Q:=fun {C} hC Q s h hR=>e1 hR
theorem zdy.imp:zdy.Imp (AC P) N:=fun a b h Q hR=>eF mixed (fn:=Tryz.f119) (fun hC=>zdy.L hC (dn Q) (zcd [a,b]) h hR)
def zb9.I:Bx:=⟨[],[],84,[(1,pz [] 16),(3,pz [] 15),(5,pz [] 14),(8,pz [] 16)]⟩
theorem zb9.L:LkT P zb9.I Tryz.f120 fun C Q s h=>zb9.cps C N (s 0) (s 1) (s 2) (s 3) h Q:=fun {C} hC Q s h hR=>eT hC (fun s h=>zw.k8 C (opsS 16 (.str []) 0) (N 377) Q (s 0) (s 1) (s 2) (s 3) h) hR (fun s h hR=>eT hC (fun s h=>zw.k7 C (opsS 16 (.str []) 0) (N 377) Q (s 0) (s 1) (s 2) h) hR (fun s h hR=>eT hC (fun s h=>zg (zw.l6 C (opsS 16 (.str []) 0) (N 377) Q (s 0) (s 1)) [(s 9),(s 10)] h) hR (fun s h hR=>eS hC (fun s h=>Q (s 9) h) (eK (eL hC [0,1] [9,10] (on2 (zw.l6 C (opsS 16 (.str []) 0) (N 377) Q)) hR (fun Y1 s h hR=>eK (eS hC (fun s h=>zg (zw.l3 C (opsS 16 (.str []) 0) (N 377) Q Y1 (s 0) (s 1) (s 9)) [(s 10)] h) (eK (eL hC [0,1,10] [9] (on3 (zw.l5 C (opsS 16 (.str []) 0) (N 377) Q Y1)) hR (fun Y3 s h hR=>e1 hR))) (fun s h hR=>eS hC (fun s h=>zw.k1 C (opsS 16 (.str []) 0) (N 377) Q Y1 (s 0) (s 1) (s 9) (s 10) h) (eK (eL hC [0,1,9] [10] (on3 (zw.l3 C (opsS 16 (.str []) 0) (N 377) Q Y1)) hR (fun Y2 s h hR=>e1 hR))) (fun s h hR=>e1 hR)))))) (fun s h hR=>e1 hR))))
theorem zb9.imp:zb9.Imp (AC P) N:=fun a b c d h Q hR=>eF mixed (fn:=Tryz.f120) (fun hC=>zb9.L hC (dn Q) (zcd [a,b,c,d]) h hR)
def zcy.I:Bx:=⟨[],[],168,[(1,pz [] 16),(3,pz [] 14),(5,pz [] 15),(8,pz [] 16),(10,pz [] 16),(13,pz [] 14),(15,pz [] 15),(18,pz [] 16),(21,pz [] 16)]⟩
theorem zcy.L:LkT P zcy.I Tryz.f121 fun C Q s h=>zcy.cps C N (s 0) (s 1) (s 2) (s 3) h Q:=fun {C} hC Q s h hR=>eT hC (fun s h=>zi.k16 C (opsS 16 (.str []) 0) (N 377) Q (s 0) (s 1) (s 2) (s 3) h) hR (fun s h hR=>eT hC (fun s h=>zi.k15 C (opsS 16 (.str []) 0) (N 377) Q (s 0) (s 1) (s 2) h) hR (fun s h hR=>eT hC (fun s h=>zg (zi.l14 C (opsS 16 (.str []) 0) (N 377) Q (s 0) (s 1) (s 11)) [(s 10)] h) hR (fun s h hR=>eS hC (fun s h=>zg (zi.l12 C (opsS 16 (.str []) 0) (N 377) Q (s 0) (s 1) (s 10)) [(s 11)] h) (eK (eL hC [0,1,11] [10] (on3 (zi.l14 C (opsS 16 (.str []) 0) (N 377) Q)) hR (fun Y5 s h hR=>e1 hR))) (fun s h hR=>eS hC (fun s h=>zi.k10 C (opsS 16 (.str []) 0) (N 377) Q (s 0) (s 1) (s 10) (s 11) h) (eK (eL hC [0,1,10] [11] (on3 (zi.l12 C (opsS 16 (.str []) 0) (N 377) Q)) hR (fun Y4 s h hR=>e1 hR))) (fun s h hR=>eT hC (fun s h=>zi.k9 C (opsS 16 (.str []) 0) (N 377) Q (s 0) (s 1) (s 10) (s 11) h) hR (fun s h hR=>eT hC (fun s h=>zi.k8 C (opsS 16 (.str []) 0) (N 377) Q (s 0) (s 1) (s 10) (s 11) h) hR (fun s h hR=>eT hC (fun s h=>B.pv (V.bin .sub (s 11) (.int .i64 1)) fun a=>zg (zi.l7 C (opsS 16 (.str []) 0) (N 377) Q (s 0) (s 1)) [(s 10),a] h) hR (fun s h hR=>eT hC (fun s h=>zg (zi.l7 C (opsS 16 (.str []) 0) (N 377) Q (s 0) (s 1)) [(s 10),(s 11)] h) hR (fun s h hR=>eS hC (fun s h=>zi.k1 C (opsS 16 (.str []) 0) (N 377) Q (s 0) (s 1) (s 11) h) (eK (eL hC [0,1] [10,11] (on2 (zi.l7 C (opsS 16 (.str []) 0) (N 377) Q)) hR (fun Y1 s h hR=>eK (eS hC (fun s h=>zg (zi.l4 C (opsS 16 (.str []) 0) (N 377) Q Y1 (s 0) (s 1) (s 10)) [(s 11)] h) (eK (eL hC [0,1,11] [10] (on3 (zi.l6 C (opsS 16 (.str []) 0) (N 377) Q Y1)) hR (fun Y3 s h hR=>e1 hR))) (fun s h hR=>eS hC (fun s h=>zi.k2 C (opsS 16 (.str []) 0) (N 377) Q Y1 (s 0) (s 1) (s 10) (s 11) h) (eK (eL hC [0,1,10] [11] (on3 (zi.l4 C (opsS 16 (.str []) 0) (N 377) Q Y1)) hR (fun Y2 s h hR=>e1 hR))) (fun s h hR=>e1 hR)))))) (fun s h hR=>e1 hR))))))))))
theorem zcy.imp:zcy.Imp (AC P) N:=fun a b c d h Q hR=>eF mixed (fn:=Tryz.f121) (fun hC=>zcy.L hC (dn Q) (zcd [a,b,c,d]) h hR)
def zb2.I:Bx:=⟨[],[],25,[]⟩
theorem zb2.L:LkT P zb2.I Tryz.f123 fun C Q s h=>zb2.cps C N (s 0) h Q:=fun {C} hC Q s h hR=>eT hC (fun s h=>zb2.k4 C N Q (s 0) (s 2) h) hR (fun s h hR=>eT hC (fun s h=>zb2.k3 C N Q (s 0) (s 2) h) hR (fun s h hR=>eT hC (fun s h=>zb2.k2 C N Q (s 0) (s 2) h) hR (fun s h hR=>eT hC (fun s h=>zb2.k1 C N Q (s 0) (s 2) h) hR (fun s h hR=>e1 hR))))
theorem zb2.imp:zb2.Imp (AC P) N:=fun a h Q hR=>eF mixed (fn:=Tryz.f123) (fun hC=>zb2.L hC (dn Q) (zcd [a]) h hR)
def zci.I:Bx:=⟨[],[],53,[(4,pz [] 17),(6,pz [] 18)]⟩
theorem zci.L:LkT P zci.I Tryz.f124 fun C Q s h=>zci.cps C N (s 0) (s 1) (s 2) (s 3) h Q:=fun {C} hC Q s h hR=>eT hC (fun s h=>zg (zbh.l3 C (opsS 24 (.nils) 0) Q (s 0) (s 1) (s 2) (s 3)) [(s 8)] h) hR (fun s h hR=>eK (eL hC [0,1,2,3] [8] (on4 (zbh.l3 C (opsS 24 (.nils) 0) Q)) hR (fun Y1 s h hR=>eT hC (fun s h=>zg (zbh.l2 C (opsS 24 (.nils) 0) Q Y1 (s 0) (s 1) (s 2) (s 3) (s 8)) [(s 8)] h) hR (fun s h hR=>eS hC (fun s h=>B.pv (V.bin .add (s 8) (.int .i64 1)) fun a=>Y1 [a] h) (eK (eT hC (fun s h=>zg (zbh.l2 C (opsS 24 (.nils) 0) Q Y1 (s 0) (s 1) (s 2) (s 3) (s 8)) [(s 9)] h) hR (fun s h hR=>eK (eL hC [0,1,2,3,8] [9] (on5 (zbh.l2 C (opsS 24 (.nils) 0) Q Y1)) hR (fun Y2 s h hR=>e1 hR))))) (fun s h hR=>e1 hR)))))
theorem zci.imp:zci.Imp (AC P) N:=fun a b c d h Q hR=>eF mixed (fn:=Tryz.f124) (fun hC=>zci.L hC (dn Q) (zcd [a,b,c,d]) h hR)
def zc5.I:Bx:=⟨[],[],60,[(10,pz [] 20)]⟩
theorem zc5.L:LkT P zc5.I Tryz.f125 fun C Q s h=>zc5.cps C N (s 0) (s 1) (s 2) (s 3) h Q:=fun {C} hC Q s h hR=>eT hC (fun s h=>B.pv (V.bin .sub (s 2) (s 1)) fun a=>zbc.k5 C (opsS 24 (.nils) 0) (N 591) Q (s 0) (s 3) (s 8) (.int .i64 0) a h) hR (fun s h hR=>eT hC (fun s h=>B.pv (V.bin .sub (s 2) (s 1)) fun a=>zbc.k5 C (opsS 24 (.nils) 0) (N 591) Q (s 0) (s 3) (s 8) (s 9) a h) hR (fun s h hR=>eT hC (fun s h=>zbc.k5 C (opsS 24 (.nils) 0) (N 591) Q (s 0) (s 3) (s 8) (s 9) (s 10) h) hR (fun s h hR=>eS hC (fun s h=>B.pv (V.bin .sub (s 10) (.int .i64 1)) fun b=>zg (zbc.l2 C (opsS 24 (.nils) 0) (N 591) Q (s 0) (s 3) (s 8) (s 9)) [b] h) (eT hC (fun s h=>zg (zbc.l4 C (opsS 24 (.nils) 0) (N 591) Q (s 0) (s 3) (s 8) (s 9) (s 10)) [(s 11)] h) hR (fun s h hR=>eK (eL hC [0,3,8,9,10] [11] (on5 (zbc.l4 C (opsS 24 (.nils) 0) (N 591) Q)) hR (fun Y2 s h hR=>e1 hR)))) (fun s h hR=>eT hC (fun s h=>zg (zbc.l2 C (opsS 24 (.nils) 0) (N 591) Q (s 0) (s 3) (s 8) (s 9)) [(s 12)] h) hR (fun s h hR=>eK (eL hC [0,3,8,9] [12] (on4 (zbc.l2 C (opsS 24 (.nils) 0) (N 591) Q)) hR (fun Y1 s h hR=>e1 hR)))))))
theorem zc5.imp:zc5.Imp (AC P) N:=fun a b c d h Q hR=>eF mixed (fn:=Tryz.f125) (fun hC=>zc5.L hC (dn Q) (zcd [a,b,c,d]) h hR)
def zck.I:Bx:=⟨[],[],67,[(10,pz [] 20)]⟩
theorem zck.L:LkT P zck.I Tryz.f126 fun C Q s h=>zck.cps C N (s 0) (s 1) (s 2) (s 3) h Q:=fun {C} hC Q s h hR=>eT hC (fun s h=>B.pv (V.bin .geq (s 8) (.int .i64 8)) fun a=>B.cond a (zk.k7 C (opsS 24 (.nils) 0) (N 298) (N 299) Q (s 0) (s 1) (s 8) h) (Q (.tup []) h)) hR (fun s h hR=>eT hC (fun s h=>B.cond (s 17) (zk.k7 C (opsS 24 (.nils) 0) (N 298) (N 299) Q (s 0) (s 1) (s 8) h) (Q (.tup []) h)) hR (fun s h hR=>eC 17 hR (fun hR=>eT hC (fun s h=>B.call C (N 299) [(s 8)] h fun b h=>zk.k6 C (opsS 24 (.nils) 0) (N 298) (N 299) Q (s 0) (s 1) (s 8) (s 9) b h) hR (fun s h hR=>eT hC (fun s h=>zk.k6 C (opsS 24 (.nils) 0) (N 298) (N 299) Q (s 0) (s 1) (s 8) (s 9) (s 10) h) hR (fun s h hR=>eT hC (fun s h=>zg (zk.l5 C (opsS 24 (.nils) 0) (N 298) (N 299) Q (s 0) (s 1) (s 8) (s 9) (s 10)) [(s 11)] h) hR (fun s h hR=>eK (eL hC [0,1,8,9,10] [11] (on5 (zk.l5 C (opsS 24 (.nils) 0) (N 298) (N 299) Q)) hR (fun Y1 s h hR=>eT hC (fun s h=>zk.k3 C (opsS 24 (.nils) 0) (N 298) (N 299) Q Y1 (s 0) (s 1) (s 8) (s 9) (s 10) (s 11) h) hR (fun s h hR=>eS hC (fun s h=>B.pv (V.bin .add (s 11) (.int .i64 1)) fun c=>Y1 [c] h) (eK (eT hC (fun s h=>zk.k2 C (opsS 24 (.nils) 0) (N 298) (N 299) Q Y1 (s 0) (s 1) (s 8) (s 9) (s 10) (s 11) (s 12) h) hR (fun s h hR=>eT hC (fun s h=>zk.k1 C (opsS 24 (.nils) 0) (N 298) (N 299) Q Y1 (s 0) (s 1) (s 8) (s 9) (s 10) (s 11) (s 12) h) hR (fun s h hR=>e1 hR)))) (fun s h hR=>e1 hR)))))))) (fun hR=>e1 hR)))
theorem zck.imp:zck.Imp (AC P) N:=fun a b c d h Q hR=>eF mixed (fn:=Tryz.f126) (fun hC=>zck.L hC (dn Q) (zcd [a,b,c,d]) h hR)
def zcs.I:Bx:=⟨[],[],63,[]⟩
theorem zcs.L:LkT P zcs.I Tryz.f127 fun C Q s h=>zcs.cps C N (s 0) (s 1) (s 2) (s 3) h Q:=fun {C} hC Q s h hR=>eT hC (fun s h=>B.pv (V.bin .sub (s 2) (s 1)) fun b=>B.newO h (some [.int .i64 0]) fun a h=>zp.k6 C (opsS 24 (.nils) 0) (N 589) (N 590) Q (s 0) (s 1) (s 3) b (.ptr a 0 0) h) hR (fun s h hR=>eT hC (fun s h=>B.newO h (some [.int .i64 0]) fun a h=>zp.k6 C (opsS 24 (.nils) 0) (N 589) (N 590) Q (s 0) (s 1) (s 3) (s 10) (.ptr a 0 0) h) hR (fun s h hR=>eT hC (fun s h=>zp.k6 C (opsS 24 (.nils) 0) (N 589) (N 590) Q (s 0) (s 1) (s 3) (s 10) (s 11) h) hR (fun s h hR=>eT hC (fun s h=>zp.k5 C (opsS 24 (.nils) 0) (N 589) (N 590) Q (s 0) (s 1) (s 3) (s 10) (s 11) (s 12) h) hR (fun s h hR=>eT hC (fun s h=>zp.k4 C (opsS 24 (.nils) 0) (N 589) (N 590) Q (s 0) (s 1) (s 3) (s 10) (s 11) (s 12) (s 13) h) hR (fun s h hR=>eT hC (fun s h=>zp.k3 C (opsS 24 (.nils) 0) (N 589) (N 590) Q (s 0) (s 3) (s 10) (s 11) (s 12) (s 13) (s 14) h) hR (fun s h hR=>eS hC (fun s h=>zp.k1 C (opsS 24 (.nils) 0) (N 589) (N 590) Q (s 11) (s 13) h) (eT hC (fun s h=>B.cond (s 34) (zp.k2 C (opsS 24 (.nils) 0) (N 589) (N 590) Q (s 0) (s 3) (s 10) (s 11) (s 12) (s 13) (s 14) h) (zp.k1 C (opsS 24 (.nils) 0) (N 589) (N 590) Q (s 11) (s 13) h)) hR (fun s h hR=>eC 34 hR (fun hR=>eT hC (fun s h=>B.call C (N 589) [(s 0),(s 12),(s 13),(s 14),(s 11),(s 3)] h fun c h=>zp.k1 C (opsS 24 (.nils) 0) (N 589) (N 590) Q (s 11) c h) hR (fun s h hR=>e1 hR)) (fun hR=>e1 hR))) (fun s h hR=>e1 hR)))))))
theorem zcs.imp:zcs.Imp (AC P) N:=fun a b c d h Q hR=>eF mixed (fn:=Tryz.f127) (fun hC=>zcs.L hC (dn Q) (zcd [a,b,c,d]) h hR)
def zcn.I:Bx:=⟨[],[],34,[(3,pz [] 16)]⟩
theorem zcn.L:LkT P zcn.I Tryz.f128 fun C Q s h=>zcn.cps C N (s 0) (s 1) (s 2) (s 3) h Q:=fun {C} hC Q s h hR=>eT hC (fun s h=>B.pv (V.bin .sub (s 2) (.int .i64 1)) fun a=>zg (zcv.l2 C (opsS 24 (.nils) 0) Q (s 0)) [(s 8),a] h) hR (fun s h hR=>eT hC (fun s h=>zg (zcv.l2 C (opsS 24 (.nils) 0) Q (s 0)) [(s 8),(s 9)] h) hR (fun s h hR=>eK (eL hC [0] [8,9] (on1 (zcv.l2 C (opsS 24 (.nils) 0) Q)) hR (fun Y1 s h hR=>e1 hR))))
theorem zcn.imp:zcn.Imp (AC P) N:=fun a b c d h Q hR=>eF mixed (fn:=Tryz.f128) (fun hC=>zcn.L hC (dn Q) (zcd [a,b,c,d]) h hR)
def zby.I:Bx:=⟨[],[],141,[(5,pz [] 18),(11,pz [] 18),(16,pz [] 13),(17,pz [] 18),(22,pz [] 13),(23,pz [] 18)]⟩
theorem zby.L:LkT P zby.I Tryz.f129 fun C Q s h=>zby.cps C N (s 0) (s 1) (s 2) (s 3) h Q:=fun {C} hC Q s h hR=>eT hC (fun s h=>B.pv (V.bin .add (s 1) (.int .i64 1)) fun c=>zg (zb.l12 C (opsS 24 (.nils) 0) Q (s 0) (s 1) (s 2) (s 3)) [c,(.int .i64 0)] h) hR (fun s h hR=>eT hC (fun s h=>zg (zb.l12 C (opsS 24 (.nils) 0) Q (s 0) (s 1) (s 2) (s 3)) [(s 9),(.int .i64 0)] h) hR (fun s h hR=>eS hC (fun s h=>Q (.bool false) h) (eT hC (fun s h=>zg (zb.l12 C (opsS 24 (.nils) 0) Q (s 0) (s 1) (s 2) (s 3)) [(s 9),(s 10)] h) hR (fun s h hR=>eK (eL hC [0,1,2,3] [9,10] (on4 (zb.l12 C (opsS 24 (.nils) 0) Q)) hR (fun Y1 s h hR=>eT hC (fun s h=>zg (zb.l10 C (opsS 24 (.nils) 0) Q Y1 (s 0) (s 1) (s 2) (s 3) (s 10)) [(s 9)] h) hR (fun s h hR=>eS hC (fun s h=>B.pv (V.bin .add (s 10) (.int .i64 1)) fun a=>Y1 [(s 9),a] h) (eK (eS hC (fun s h=>B.pv (V.bin .eql (s 9) (s 2)) fun d=>B.cond d (Q (.bool true) h) (zb.k8 C (opsS 24 (.nils) 0) Q Y1 (s 0) (s 1) (s 2) (s 3) (s 9) (s 10) h)) (eK (eL hC [0,1,2,3,10] [9] (on5 (zb.l10 C (opsS 24 (.nils) 0) Q Y1)) hR (fun Y4 s h hR=>e1 hR))) (fun s h hR=>eT hC (fun s h=>zb.k8 C (opsS 24 (.nils) 0) Q Y1 (s 0) (s 1) (s 2) (s 3) (s 9) (s 10) h) hR (fun s h hR=>eT hC (fun s h=>zb.k7 C (opsS 24 (.nils) 0) Q Y1 (s 0) (s 1) (s 2) (s 3) (s 9) (s 10) h) hR (fun s h hR=>eT hC (fun s h=>zb.k6 C (opsS 24 (.nils) 0) Q Y1 (s 0) (s 1) (s 2) (s 3) (s 9) (s 10) h) hR (fun s h hR=>eS hC (fun s h=>zb.k3 C (opsS 24 (.nils) 0) Q Y1 (s 0) (s 1) (s 2) (s 3) (s 9) (s 10) h) (eT hC (fun s h=>B.cond (s 65) (B.pv (V.bin .sub (s 9) (.int .i64 1)) fun e=>zg (zb.l5 C (opsS 24 (.nils) 0) Q Y1 (s 0) (s 1) (s 2) (s 3) (s 9) (s 10)) [e] h) (zb.k3 C (opsS 24 (.nils) 0) Q Y1 (s 0) (s 1) (s 2) (s 3) (s 9) (s 10) h)) hR (fun s h hR=>eC 65 hR (fun hR=>eT hC (fun s h=>zg (zb.l5 C (opsS 24 (.nils) 0) Q Y1 (s 0) (s 1) (s 2) (s 3) (s 9) (s 10)) [(s 11)] h) hR (fun s h hR=>eK (eL hC [0,1,2,3,9,10] [11] (on6 (zb.l5 C (opsS 24 (.nils) 0) Q Y1)) hR (fun Y3 s h hR=>e1 hR)))) (fun hR=>e1 hR))) (fun s h hR=>eT hC (fun s h=>B.cond (s 104) (B.pv (V.bin .add (s 9) (.int .i64 1)) fun b=>zg (zb.l2 C (opsS 24 (.nils) 0) Q Y1 (s 0) (s 1) (s 2) (s 3) (s 9) (s 10)) [b] h) (B.pv (V.bin .add (s 10) (.int .i64 1)) fun a=>Y1 [(s 9),a] h)) hR (fun s h hR=>eC 104 hR (fun hR=>eT hC (fun s h=>zg (zb.l2 C (opsS 24 (.nils) 0) Q Y1 (s 0) (s 1) (s 2) (s 3) (s 9) (s 10)) [(s 12)] h) hR (fun s h hR=>eK (eL hC [0,1,2,3,9,10] [12] (on6 (zb.l2 C (opsS 24 (.nils) 0) Q Y1)) hR (fun Y2 s h hR=>e1 hR)))) (fun hR=>e1 hR))))))))) (fun s h hR=>e1 hR)))))) (fun s h hR=>e1 hR)))
theorem zby.imp:zby.Imp (AC P) N:=fun a b c d h Q hR=>eF mixed (fn:=Tryz.f129) (fun hC=>zby.L hC (dn Q) (zcd [a,b,c,d]) h hR)
def zca.I:Bx:=⟨[],[],90,[(1,pz [] 16),(3,pz [] 17),(5,pz [] 16),(8,pz [] 16)]⟩
theorem zca.L:LkT P zca.I Tryz.f130 fun C Q s h=>zca.cps C N (s 0) (s 1) (s 2) (s 3) (s 4) h Q:=fun {C} hC Q s h hR=>eT hC (fun s h=>zj.k8 C (opsS 24 (.nils) 0) Q (s 0) (s 1) (s 2) (s 3) (s 4) h) hR (fun s h hR=>eT hC (fun s h=>zj.k7 C (opsS 24 (.nils) 0) Q (s 0) (s 1) (s 2) (s 4) h) hR (fun s h hR=>eT hC (fun s h=>zg (zj.l6 C (opsS 24 (.nils) 0) Q (s 0) (s 1) (s 4)) [(s 11),(s 12)] h) hR (fun s h hR=>eS hC (fun s h=>Q (s 11) h) (eK (eL hC [0,1,4] [11,12] (on3 (zj.l6 C (opsS 24 (.nils) 0) Q)) hR (fun Y1 s h hR=>eK (eS hC (fun s h=>zg (zj.l3 C (opsS 24 (.nils) 0) Q Y1 (s 0) (s 1) (s 4) (s 11)) [(s 12)] h) (eK (eL hC [0,1,4,12] [11] (on4 (zj.l5 C (opsS 24 (.nils) 0) Q Y1)) hR (fun Y3 s h hR=>e1 hR))) (fun s h hR=>eS hC (fun s h=>zj.k1 C (opsS 24 (.nils) 0) Q Y1 (s 0) (s 1) (s 4) (s 11) (s 12) h) (eK (eL hC [0,1,4,11] [12] (on4 (zj.l3 C (opsS 24 (.nils) 0) Q Y1)) hR (fun Y2 s h hR=>e1 hR))) (fun s h hR=>e1 hR)))))) (fun s h hR=>e1 hR))))
theorem zca.imp:zca.Imp (AC P) N:=fun a b c d e h Q hR=>eF mixed (fn:=Tryz.f130) (fun hC=>zca.L hC (dn Q) (zcd [a,b,c,d,e]) h hR)
def zcz.I:Bx:=⟨[],[],178,[(1,pz [] 16),(3,pz [] 16),(5,pz [] 17),(8,pz [] 16),(10,pz [] 16),(13,pz [] 16),(15,pz [] 17),(18,pz [] 16),(21,pz [] 16)]⟩
theorem zcz.L:LkT P zcz.I Tryz.f131 fun C Q s h=>zcz.cps C N (s 0) (s 1) (s 2) (s 3) (s 4) h Q:=fun {C} hC Q s h hR=>eT hC (fun s h=>ze.k16 C (opsS 24 (.nils) 0) Q (s 0) (s 1) (s 2) (s 3) (s 4) h) hR (fun s h hR=>eT hC (fun s h=>ze.k15 C (opsS 24 (.nils) 0) Q (s 0) (s 1) (s 2) (s 4) h) hR (fun s h hR=>eT hC (fun s h=>zg (ze.l14 C (opsS 24 (.nils) 0) Q (s 0) (s 1) (s 4) (s 13)) [(s 12)] h) hR (fun s h hR=>eS hC (fun s h=>zg (ze.l12 C (opsS 24 (.nils) 0) Q (s 0) (s 1) (s 4) (s 12)) [(s 13)] h) (eK (eL hC [0,1,4,13] [12] (on4 (ze.l14 C (opsS 24 (.nils) 0) Q)) hR (fun Y5 s h hR=>e1 hR))) (fun s h hR=>eS hC (fun s h=>ze.k10 C (opsS 24 (.nils) 0) Q (s 0) (s 1) (s 4) (s 12) (s 13) h) (eK (eL hC [0,1,4,12] [13] (on4 (ze.l12 C (opsS 24 (.nils) 0) Q)) hR (fun Y4 s h hR=>e1 hR))) (fun s h hR=>eT hC (fun s h=>ze.k9 C (opsS 24 (.nils) 0) Q (s 0) (s 1) (s 4) (s 12) (s 13) h) hR (fun s h hR=>eT hC (fun s h=>ze.k8 C (opsS 24 (.nils) 0) Q (s 0) (s 1) (s 4) (s 12) (s 13) h) hR (fun s h hR=>eT hC (fun s h=>B.pv (V.bin .sub (s 13) (.int .i64 1)) fun a=>zg (ze.l7 C (opsS 24 (.nils) 0) Q (s 0) (s 1) (s 4)) [(s 12),a] h) hR (fun s h hR=>eT hC (fun s h=>zg (ze.l7 C (opsS 24 (.nils) 0) Q (s 0) (s 1) (s 4)) [(s 12),(s 13)] h) hR (fun s h hR=>eS hC (fun s h=>ze.k1 C (opsS 24 (.nils) 0) Q (s 0) (s 1) (s 13) h) (eK (eL hC [0,1,4] [12,13] (on3 (ze.l7 C (opsS 24 (.nils) 0) Q)) hR (fun Y1 s h hR=>eK (eS hC (fun s h=>zg (ze.l4 C (opsS 24 (.nils) 0) Q Y1 (s 0) (s 1) (s 4) (s 12)) [(s 13)] h) (eK (eL hC [0,1,4,13] [12] (on4 (ze.l6 C (opsS 24 (.nils) 0) Q Y1)) hR (fun Y3 s h hR=>e1 hR))) (fun s h hR=>eS hC (fun s h=>ze.k2 C (opsS 24 (.nils) 0) Q Y1 (s 0) (s 1) (s 4) (s 12) (s 13) h) (eK (eL hC [0,1,4,12] [13] (on4 (ze.l4 C (opsS 24 (.nils) 0) Q Y1)) hR (fun Y2 s h hR=>e1 hR))) (fun s h hR=>e1 hR)))))) (fun s h hR=>e1 hR))))))))))
theorem zcz.imp:zcz.Imp (AC P) N:=fun a b c d e h Q hR=>eF mixed (fn:=Tryz.f131) (fun hC=>zcz.L hC (dn Q) (zcd [a,b,c,d,e]) h hR)
def zdu.I:Bx:=⟨[],[],6,[]⟩
theorem zdu.L:LkT P zdu.I Tryz.f132 fun C Q s h=>zdu.cps C N (s 0) h Q:=fun {C} hC Q s h hR=>e1 hR
theorem zdu.imp:zdu.Imp (AC P) N:=fun a h Q hR=>eF mixed (fn:=Tryz.f132) (fun hC=>zdu.L hC (dn Q) (zcd [a]) h hR)
def zb6.I:Bx:=⟨[],[],27,[]⟩
theorem zb6.L:LkT P zb6.I Tryz.f155 fun C Q s h=>zb6.cps C N (s 0) (s 1) h Q:=fun {C} hC Q s h hR=>eT hC (fun s h=>B.pv (V.bin .lss (s 1) (.int .i64 0)) fun a=>B.cond a (False) (zhz.k1 C (opsS 16 (.str []) 0) Q (s 0) (s 1) h)) hR (fun s h hR=>eT hC (fun s h=>zhz.k1 C (opsS 16 (.str []) 0) Q (s 0) (s 1) h) hR (fun s h hR=>e1 hR))
theorem zb6.imp:zb6.Imp (AC P) N:=fun a b h Q hR=>eF mixed (fn:=Tryz.f155) (fun hC=>zb6.L hC (dn Q) (zcd [a,b]) h hR)
def zc2.I:Bx:=⟨[],[],76,[(3,pz [] 20),(5,pz [] 14),(6,pz [] 24)]⟩
theorem zc2.L:LkT P zc2.I Tryz.f159 fun C Q s h=>zc2.cps C N (s 0) (s 1) (s 2) (s 3) h Q:=fun {C} hC Q s h hR=>eT hC (fun s h=>zg (zcl.l4 C (opsS 16 (.str []) 0) (N 377) Q (s 0) (s 2) (s 3)) [(s 8)] h) hR (fun s h hR=>eK (eL hC [0,2,3] [8] (on3 (zcl.l4 C (opsS 16 (.str []) 0) (N 377) Q)) hR (fun Y1 s h hR=>eK (eT hC (fun s h=>B.pv (V.bin .geq (s 9) (s 2)) fun a=>B.cond a (Q (.tup []) h) (zcl.k2 C (opsS 16 (.str []) 0) (N 377) Q Y1 (s 0) (s 2) (s 3) (s 8) (s 9) h)) hR (fun s h hR=>eT hC (fun s h=>zcl.k2 C (opsS 16 (.str []) 0) (N 377) Q Y1 (s 0) (s 2) (s 3) (s 8) (s 9) h) hR (fun s h hR=>eT hC (fun s h=>zcl.k1 C (opsS 16 (.str []) 0) (N 377) Q Y1 (s 0) (s 2) (s 3) (s 8) (s 9) h) hR (fun s h hR=>e1 hR)))))))
theorem zc2.imp:zc2.Imp (AC P) N:=fun a b c d h Q hR=>eF mixed (fn:=Tryz.f159) (fun hC=>zc2.L hC (dn Q) (zcd [a,b,c,d]) h hR)
def zdl.I:Bx:=⟨[],[],7,[]⟩
theorem zdl.L:LkT P zdl.I Tryz.f160 fun C Q s h=>zdl.cps C N (s 0) h Q:=fun {C} hC Q s h hR=>e1 hR
theorem zdl.imp:zdl.Imp (AC P) N:=fun a h Q hR=>eF mixed (fn:=Tryz.f160) (fun hC=>zdl.L hC (dn Q) (zcd [a]) h hR)
def zc7.I:Bx:=⟨[],[],33,[(1,pz [] 10),(2,pz [] 10),(3,pz [] 10)]⟩
theorem zc7.L:LkT P zc7.I Tryz.f161 fun C Q s h=>zc7.cps C N (s 0) h Q:=fun {C} hC Q s h hR=>e1 hR
theorem zc7.imp:zc7.Imp (AC P) N:=fun a h Q hR=>eF mixed (fn:=Tryz.f161) (fun hC=>zc7.L hC (dn Q) (zcd [a]) h hR)
def zcb.I:Bx:=⟨[],[],15,[]⟩
theorem zcb.L:LkT P zcb.I Tryz.f162 fun C Q s h=>zcb.cps C N (s 0) (s 1) (s 2) h Q:=fun {C} hC Q s h hR=>e1 hR
theorem zcb.imp:zcb.Imp (AC P) N:=fun a b c h Q hR=>eF mixed (fn:=Tryz.f162) (fun hC=>zcb.L hC (dn Q) (zcd [a,b,c]) h hR)
def zdh.I:Bx:=⟨[],[],36,[]⟩
theorem zdh.L:LkT P zdh.I Tryz.f163 fun C Q s h=>zdh.cps C N (s 0) (s 1) (s 2) (s 3) (s 4) h Q:=fun {C} hC Q s h hR=>e1 hR
theorem zdh.imp:zdh.Imp (AC P) N:=fun a b c d e h Q hR=>eF mixed (fn:=Tryz.f163) (fun hC=>zdh.L hC (dn Q) (zcd [a,b,c,d,e]) h hR)
def zc3.I:Bx:=⟨[],[],82,[(3,pz [] 22),(5,pz [] 16),(6,pz [] 24)]⟩
theorem zc3.L:LkT P zc3.I Tryz.f164 fun C Q s h=>zc3.cps C N (s 0) (s 1) (s 2) (s 3) (s 4) h Q:=fun {C} hC Q s h hR=>eT hC (fun s h=>zg (zbk.l4 C (opsS 24 (.nils) 0) Q (s 0) (s 2) (s 3) (s 4)) [(s 10)] h) hR (fun s h hR=>eK (eL hC [0,2,3,4] [10] (on4 (zbk.l4 C (opsS 24 (.nils) 0) Q)) hR (fun Y1 s h hR=>eK (eT hC (fun s h=>B.pv (V.bin .geq (s 11) (s 2)) fun a=>B.cond a (Q (.tup []) h) (zbk.k2 C (opsS 24 (.nils) 0) Q Y1 (s 0) (s 2) (s 3) (s 4) (s 10) (s 11) h)) hR (fun s h hR=>eT hC (fun s h=>zbk.k2 C (opsS 24 (.nils) 0) Q Y1 (s 0) (s 2) (s 3) (s 4) (s 10) (s 11) h) hR (fun s h hR=>eT hC (fun s h=>zbk.k1 C (opsS 24 (.nils) 0) Q Y1 (s 0) (s 2) (s 3) (s 4) (s 10) (s 11) h) hR (fun s h hR=>e1 hR)))))))
theorem zc3.imp:zc3.Imp (AC P) N:=fun a b c d e h Q hR=>eF mixed (fn:=Tryz.f164) (fun hC=>zc3.L hC (dn Q) (zcd [a,b,c,d,e]) h hR)
def zcc.I:Bx:=⟨[],[],18,[]⟩
theorem zcc.L:LkT P zcc.I Tryz.f165 fun C Q s h=>zcc.cps C N (s 0) (s 1) (s 2) (s 3) h Q:=fun {C} hC Q s h hR=>e1 hR
theorem zcc.imp:zcc.Imp (AC P) N:=fun a b c d h Q hR=>eF mixed (fn:=Tryz.f165) (fun hC=>zcc.L hC (dn Q) (zcd [a,b,c,d]) h hR)
def zdi.I:Bx:=⟨[],[],41,[]⟩
theorem zdi.L:LkT P zdi.I Tryz.f166 fun C Q s h=>zdi.cps C N (s 0) (s 1) (s 2) (s 3) (s 4) (s 5) h Q:=fun {C} hC Q s h hR=>e1 hR
theorem zdi.imp:zdi.Imp (AC P) N:=fun a b c d e f h Q hR=>eF mixed (fn:=Tryz.f166) (fun hC=>zdi.L hC (dn Q) (zcd [a,b,c,d,e,f]) h hR)
def zdf.I:Bx:=⟨[],[],28,[(1,pz [] 9)]⟩
theorem zdf.L:LkT P zdf.I Tryz.f173 fun C Q s h=>zdf.cps C N (s 0) (s 1) (s 2) (s 3) h Q:=fun {C} hC Q s h hR=>e1 hR
theorem zdf.imp:zdf.Imp (AC P) N:=fun a b c d h Q hR=>eF mixed (fn:=Tryz.f173) (fun hC=>zdf.L hC (dn Q) (zcd [a,b,c,d]) h hR)
def zdg.I:Bx:=⟨[],[],32,[(1,pz [] 11)]⟩
theorem zdg.L:LkT P zdg.I Tryz.f174 fun C Q s h=>zdg.cps C N (s 0) (s 1) (s 2) (s 3) (s 4) h Q:=fun {C} hC Q s h hR=>e1 hR
theorem zdg.imp:zdg.Imp (AC P) N:=fun a b c d e h Q hR=>eF mixed (fn:=Tryz.f174) (fun hC=>zdg.L hC (dn Q) (zcd [a,b,c,d,e]) h hR)
theorem zf4.L0:F0 P Tryz.f83 zf4.I:=fun hC Q s h hR=>eF0 hC 5 3 6 9 11 14 hR
theorem zf4.imp0:zf4.Imp0 (AC P) N:=fun a h Q hR=>eF mixed (fn:=Tryz.f83) (fun hC=>zf4.L0 hC (dn Q) (zcd [a]) h hR)
theorem zgm.L0:F0 P Tryz.f84 zgm.I:=fun hC Q s h hR=>eF0 hC 5 3 6 9 11 14 hR
theorem zgm.imp0:zgm.Imp0 (AC P) N:=fun a h Q hR=>eF mixed (fn:=Tryz.f84) (fun hC=>zgm.L0 hC (dn Q) (zcd [a]) h hR)
theorem zga.L0:F0 P Tryz.f85 zga.I:=fun hC Q s h hR=>eF0 hC 5 3 6 9 11 14 hR
theorem zga.imp0:zga.Imp0 (AC P) N:=fun a h Q hR=>eF mixed (fn:=Tryz.f85) (fun hC=>zga.L0 hC (dn Q) (zcd [a]) h hR)
theorem zgb.L0:F0 P Tryz.f93 zgb.I:=fun hC Q s h hR=>eF0 hC 5 3 6 9 11 14 hR
theorem zgb.imp0:zgb.Imp0 (AC P) N:=fun a h Q hR=>eF mixed (fn:=Tryz.f93) (fun hC=>zgb.L0 hC (dn Q) (zcd [a]) h hR)
theorem zgn.L0:F0 P Tryz.f95 zgn.I:=fun hC Q s h hR=>eF0 hC 5 3 6 9 11 14 hR
theorem zgn.imp0:zgn.Imp0 (AC P) N:=fun a h Q hR=>eF mixed (fn:=Tryz.f95) (fun hC=>zgn.L0 hC (dn Q) (zcd [a]) h hR)
theorem zf6.L0:F0 P Tryz.f96 zf6.I:=fun hC Q s h hR=>eF0 hC 5 3 6 9 11 14 hR
theorem zf6.imp0:zf6.Imp0 (AC P) N:=fun a h Q hR=>eF mixed (fn:=Tryz.f96) (fun hC=>zf6.L0 hC (dn Q) (zcd [a]) h hR)
theorem zfu.L0:F0 P Tryz.f97 zfu.I:=fun hC Q s h hR=>eF0 hC 5 3 6 9 11 14 hR
theorem zfu.imp0:zfu.Imp0 (AC P) N:=fun a h Q hR=>eF mixed (fn:=Tryz.f97) (fun hC=>zfu.L0 hC (dn Q) (zcd [a]) h hR)
theorem zgl.L0:F0 P Tryz.f98 zgl.I:=fun hC Q s h hR=>eF0 hC 5 3 6 9 11 14 hR
theorem zgl.imp0:zgl.Imp0 (AC P) N:=fun a h Q hR=>eF mixed (fn:=Tryz.f98) (fun hC=>zgl.L0 hC (dn Q) (zcd [a]) h hR)
theorem zf5.L0:F0 P Tryz.f99 zf5.I:=fun hC Q s h hR=>eF0 hC 5 3 6 9 11 14 hR
theorem zf5.imp0:zf5.Imp0 (AC P) N:=fun a h Q hR=>eF mixed (fn:=Tryz.f99) (fun hC=>zf5.L0 hC (dn Q) (zcd [a]) h hR)
theorem zgc.L0:F0 P Tryz.f100 zgc.I:=fun hC Q s h hR=>eF0 hC 5 3 6 9 11 14 hR
theorem zgc.imp0:zgc.Imp0 (AC P) N:=fun a h Q hR=>eF mixed (fn:=Tryz.f100) (fun hC=>zgc.L0 hC (dn Q) (zcd [a]) h hR)
theorem zfp.L0:F0 P Tryz.f101 zfp.I:=fun hC Q s h hR=>eF0 hC 5 3 6 9 11 14 hR
theorem zfp.imp0:zfp.Imp0 (AC P) N:=fun a h Q hR=>eF mixed (fn:=Tryz.f101) (fun hC=>zfp.L0 hC (dn Q) (zcd [a]) h hR)
theorem zf9.L0:F0 P Tryz.f102 zf9.I:=fun hC Q s h hR=>eF0 hC 5 3 6 9 11 14 hR
theorem zf9.imp0:zf9.Imp0 (AC P) N:=fun a h Q hR=>eF mixed (fn:=Tryz.f102) (fun hC=>zf9.L0 hC (dn Q) (zcd [a]) h hR)
theorem zfo.L0:F0 P Tryz.f103 zfo.I:=fun hC Q s h hR=>eF0 hC 5 3 6 9 11 14 hR
theorem zfo.imp0:zfo.Imp0 (AC P) N:=fun a h Q hR=>eF mixed (fn:=Tryz.f103) (fun hC=>zfo.L0 hC (dn Q) (zcd [a]) h hR)
theorem zf8.L0:F0 P Tryz.f104 zf8.I:=fun hC Q s h hR=>eF0 hC 5 3 6 9 11 14 hR
theorem zf8.imp0:zf8.Imp0 (AC P) N:=fun a h Q hR=>eF mixed (fn:=Tryz.f104) (fun hC=>zf8.L0 hC (dn Q) (zcd [a]) h hR)
theorem zf7.L0:F0 P Tryz.f105 zf7.I:=fun hC Q s h hR=>eF0 hC 5 3 6 9 11 14 hR
theorem zf7.imp0:zf7.Imp0 (AC P) N:=fun a h Q hR=>eF mixed (fn:=Tryz.f105) (fun hC=>zf7.L0 hC (dn Q) (zcd [a]) h hR)
end Go.Ab.S12z
namespace Go.Ab
variable {C:CSem} {N:zN}
section
variable {h h':za} {x:AVal} {b:List UInt8}
end
theorem SlX.cutR {h:za} {es:Nat} {x:AVal} {L R S:List (List AVal)} (hs:SlX h es x L (R++S)):SlX h es x L R:=by
 refine ⟨fun p hp=>hs.len p (by rcases List.mem_append.1 hp with h|h;exact List.mem_append_left _ h;exact List.mem_append_right _ (List.mem_append_left _ h)),?_⟩
 rcases hs.at_ with ⟨e,e2,e'⟩|⟨id,g,off,cp,b,hi,h1,h1',h2,h3,h4,hh,h5⟩
 ·exact .inl ⟨e,(List.append_eq_nil_iff.1 e2).1,e'⟩
 ·have hl: ∀ p∈L++R,p.length=es:=fun p hp=>hs.len p (by rcases List.mem_append.1 hp with h|h;exact List.mem_append_left _ h;exact List.mem_append_right _ (List.mem_append_left _ h))
  have hfl:=zlo hl
  rw [List.length_append] at h1' h4 h5 hfl
  have hm:(L.length+R.length)*es <= (L.length+(R.length+S.length))*es:=Nat.mul_le_mul_right _ (by omega)
  refine .inr ⟨id,g,off,cp,b,hi,h1,by omega,h2,h3,by omega,hh,?_⟩
  have:((b.cells.drop off).take ((L.length+(R.length+S.length))*es)).take ((L.length+R.length)*es)=(L++R).flatten:=by
   rw [h5, <- List.append_assoc,List.flatten_append (L₁:=L++R),List.take_append_of_le_length (by omega),List.take_of_length_le (by omega)]
  rw [<- this,List.take_take,Nat.min_eq_left hm]
abbrev AllAt (h:za) (l:List Ob):Prop:= ∀ o∈l,o.at h
theorem AllAt.mono {h h':za} {l:List Ob} (ha:AllAt h l) (hle:h.le h'):AllAt h' l:=fun o hm=>(ha o hm).keep fun _ _ _ e=>hle _ _ e
structure DK (T Ad:Type) where
 n:Nat
 bytes:Nat
 z:List AVal
 pos:0<n
 small:bytes <= 1000
 zlen:z.length=n
 cells:T->Ad->List AVal
 len: ∀ t a,(cells t a).length=n
 at_:za->T->Ad->Prop
 mono: ∀ {h h':za} {t:T} {a:Ad},h.le h'->at_ h t a->at_ h' t a
 ok:T->Prop
 at_ok: ∀ {h:za} {t:T} {a:Ad},at_ h t a->ok t
 obs:Bool->T->Ad->List Ob
 ofObs: ∀ {b:Bool} {h:za} {t:T} {a:Ad},ok t->AllAt h (obs b t a)->at_ h t a
section
variable {T Ad:Type} (K:DK T Ad)
abbrev DK.cs (p:T×Ad):List AVal:=K.cells p.1 p.2
def DK.os (b:Bool) (P:List (T×Ad)):List Ob:=P.flatMap fun p=>K.obs b p.1 p.2
def Dl (h:za) (x:AVal) (L:List T):Prop:= ∃ (P:List (T×Ad)) (R:List (List AVal)),P.map (·.1)=L /\ SlX h K.n x (P.map K.cs) R /\ ∀ p∈P,K.at_ h p.1 p.2
structure DEl (h:za) (x:AVal) (i:Nat) (t:T) (a:Ad):Prop where
 idx:V.idxS K.n x (.int .i64 (i:Int))=some (elp K.n x i 0)
 ldn:A.ldnv h (elp K.n x i 0) K.n=some (.agg (K.cells t a))
 fld: ∀ f o,V.fieldAddr o (elp K.n x i f)=some (elp K.n x i (f+o))
 ld: ∀ f,f<K.n->A.ldv h (elp K.n x i f)=(K.cells t a)[f]?
 at_:K.at_ h t a
variable {K} {h h' h0:za} {x:AVal} {L M:List T}
theorem slX_el {h:za} {x:AVal} {P:List (T×Ad)} {R:List (List AVal)} (s:SlX h K.n x (P.map K.cs) R) (ha: ∀ p∈P,K.at_ h p.1 p.2) {i:Nat} {p:T×Ad} (hi:P[i]? =some p):DEl K h x i p.1 p.2:=by
 have hc:(P.map K.cs)[i]? =some (K.cells p.1 p.2):=by rw [List.getElem?_map,hi];rfl
 have hl:i<(P.map K.cs).length:=(List.getElem?_eq_some_iff.1 hc).1
 exact ⟨s.idxN hl,s.elem hc,fun f o=>s.fieldA hl f o,fun f hf=>s.ldv hc hf,ha p (List.mem_of_getElem? hi)⟩
theorem Dl.get (hd:Dl K h x L) {i:Nat} {t:T} (hi:L[i]? =some t): ∃ a,DEl K h x i t a:=by
 obtain ⟨P,R,rfl,s,ha⟩:=hd
 rw [List.getElem?_map] at hi
 obtain ⟨p,hp,rfl⟩:=Option.map_eq_some_iff.1 hi
 exact ⟨p.2,slX_el s ha hp⟩
theorem Dl.mono (hd:Dl K h x L) (hle:h.le h'):Dl K h' x L:=by
 obtain ⟨P,R,e,s,ha⟩:=hd
 exact ⟨P,R,e,s.mono hle,fun p hp=>K.mono hle (ha p hp)⟩
theorem Dl.zbj (hd:Dl K h x L):V.zbj x=some (.int .i64 L.length):=by
 obtain ⟨P,R,rfl,s,ha⟩:=hd
 simpa using s.zbj
theorem Dl.zc8 (hd:Dl K h x L):x.zc8=true:=by
 obtain ⟨P,R,rfl,s,ha⟩:=hd
 exact s.zc8
theorem Dl.ok (hd:Dl K h x L): ∀ t∈L,K.ok t:=by
 obtain ⟨P,R,rfl,s,ha⟩:=hd
 intro t ht
 obtain ⟨p,hp,rfl⟩:=List.mem_map.1 ht
 exact K.at_ok (ha p hp)
theorem DK.zsw (b:Bool) (P P':List (T×Ad)):K.os b (P++P')=K.os b P++K.os b P':=List.flatMap_append
theorem DK.os_one (b:Bool) (p:T×Ad):K.os b [p]=K.obs b p.1 p.2:=by simp [DK.os]
abbrev Df (K:DK T Ad) (h0 h:za) (x:AVal) (P:List (T×Ad)):Prop:=Owns h0 h (.sl K.n x (P.map K.cs) []::K.os false P)
def SameE (K:DK T Ad) [DecidableEq T] (C:CSem) (f:Nat):Prop:= ∀ (t u:T) (a b:Ad) (h:za) (Q:zQ),K.at_ h t a->K.at_ h u b->Q (.bool (decide (t=u))) h->C f [.agg (K.cells t a),.agg (K.cells u b)] h Q
def OneE (K:DK T Ad) (b:Bool) (C:CSem) (f:Nat):Prop:= ∀ (t:T) (a:Ad) (h:za) (Q:zQ),K.at_ h t a->(∀ a' h',Owns h h' (K.obs b t a')->Q (.agg (K.cells t a')) h')->C f [.agg (K.cells t a)] h Q
def KeptE (K:DK T Ad) [DecidableEq T] (C:CSem) (f:Nat):Prop:= ∀ (t u:T) (a b:Ad) (h:za) (Q:zQ),K.ok t->AllAt h (K.obs true t a)->K.at_ h u b->Q (.bool (decide (t=u))) h->C f [.agg (K.cells t a),.agg (K.cells u b)] h Q
def MarkE (K:DK T Ad) (mk:Int->Int->T) (C:CSem) (f:Nat):Prop:= ∀ (k i:Int) (h:za) (Q:zQ),(∀ a' h',Owns h h' (K.obs false (mk k i) a')->Q (.agg (K.cells (mk k i) a')) h')->C f [.int .i64 k,.int .i64 i] h Q
theorem fill_agg (K:DK T Ad) (t:T) (a:Ad):ze2 [(0,some K.n,.agg (K.cells t a))] (repL 1 K.z)=some (K.cells t a):=by
 have hrep:repL 1 K.z=K.z:=by unfold repL;split<;>simp_all
 have h1:=K.len t a
 rw [hrep]
 simp [h1,K.zlen]
def mks12 (mk:Int->Int->T):List T:=(List.range 12).map fun (i:Nat)=>mk 1 (i:Int)
@[simp] def zrp.k1 (C:CSem) (n bytes fm:Nat) (z:List AVal) (Q:zQ) (Y1:zL) (v0 v3 v6:AVal) (h:za):Prop:=
 B.pv (V.bin .lss v6 (.int .i64 12)) fun v27=>
  B.cond v27
  (B.call C fm [(.int .i64 1),v6] h fun v32 h=>
  B.newO h (ze2 [(0,some n,v32)] (repL 1 z)) fun i33 h=>
  B.appW h n bytes v3 (.sl i33 0 0 1 n 1) fun v34 h=>
  B.pv (V.bin .add v6 (.int .i64 1)) fun v29=>
  Y1 [v34,v29] h)
  (B.pv (V.zbj v0) fun v37=>
  B.pv (V.zgp n v3 none (some v37)) fun v38=>
  Q v38 h)
@[simp] def zrp.l2 (C:CSem) (n bytes fm:Nat) (z:List AVal) (Q:zQ) (v0:AVal):zG
 | [v3,v6],h,Y1=>zrp.k1 C n bytes fm z Q Y1 v0 v3 v6 h
 | _,_,_=>False
@[simp] def zrp.k3 (C:CSem) (n bytes fm fl:Nat) (z:List AVal) (Q:zQ) (Y2:zL) (v0 v3 v4:AVal) (h:za):Prop:=
 B.pv (V.zbj v0) fun v13=>
  B.pv (V.bin .lss v4 v13) fun v14=>
  B.cond v14
  (B.pv (V.idxS n v0 v4) fun v19=>
  B.ldn h v19 n fun v20=>
  B.call C fl [v20] h fun v21 h=>
  B.pv (V.setN 0 n v21 (.agg z)) fun c5=>
  B.pv (V.zgf 0 n c5) fun v23=>
  B.newO h (ze2 [(0,some n,v23)] (repL 1 z)) fun i24 h=>
  B.appW h n bytes v3 (.sl i24 0 0 1 n 1) fun v25 h=>
  B.pv (V.bin .add v4 (.int .i64 1)) fun v16=>
  Y2 [v25,v16] h)
  (zg (zrp.l2 C n bytes fm z Q v0) [v3,(.int .i64 0)] h)
@[simp] def zrp.l4 (C:CSem) (n bytes fm fl:Nat) (z:List AVal) (Q:zQ) (v0:AVal):zG
 | [v3,v4],h,Y2=>zrp.k3 C n bytes fm fl z Q Y2 v0 v3 v4 h
 | _,_,_=>False
def zrp (C:CSem) (n bytes fm fl:Nat) (z:List AVal) (v0:AVal) (h:za) (Q:zQ):Prop:=
 B.pv (V.zbj v0) fun v8=>
  B.pv (V.bin .add v8 (.int .i64 12)) fun v9=>
  0<n /\ B.mks h bytes (some z) (.int .i64 0) v9 fun v10 h=>
  zg (zrp.l4 C n bytes fm fl z Q v0) [v10,(.int .i64 0)] h
theorem setN_whole (K:DK T Ad) (t:T) (a:Ad):V.setN 0 K.n (.agg (K.cells t a)) (.agg K.z)=some (.agg (K.cells t a)):=by
 simp [K.len t a,K.zlen]
theorem fieldN_whole (K:DK T Ad) (t:T) (a:Ad):V.zgf 0 K.n (.agg (K.cells t a))=some (.agg (K.cells t a)):=by
 have:=K.len t a
 simp [this]
 rw [<- this,List.take_length]
theorem lentD_spec {mk:Int->Int->T} {fm fl:Nat} (sm:MarkE K mk C fm) (sl:OneE K true C fl) {Q:zQ} (hx:Dl K h x L) (hlen:L.length <= 100000000)
  (hq: ∀ x' (P PM:List (T×Ad)) h',P.map (·.1)=L->PM.map (·.1)=mks12 mk->Owns h h' (.sl K.n x' (P.map K.cs) (PM.map K.cs)::(K.os true P++K.os false PM))->Q x' h'):zrp C K.n K.bytes fm fl K.z x h Q:=by
 have hlx:=hx.zbj
 have hmul: ∀ n:Nat,n <= 100000100->n*K.bytes <= 140737488355328:=fun n hn=>by
  have:=Nat.mul_le_mul hn K.small
  omega
 have e1:IntKind.i64.wrap ((L.length:Int)+12)=(L.length:Int)+12:=wrap_i64 (by omega) (by omega)
 simp -dsimp [zrp,hlx,e1]
 refine ⟨K.pos,(Owns.start h).mks (es:=K.n) K.zlen (by omega) (by omega) ?_ (by omega) fun y h1 ho=> ?_⟩
 ·have:=hmul (L.length+12) (by omega)
  have e:((L.length:Int)+12)*K.bytes=((L.length+12)*K.bytes:Nat):=by simp
  rw [e];omega
 refine zg.intro (fun n vs hh=> ∃ (k:Nat) (y:AVal) (P:List (T×Ad)) (R:List (List AVal)),k+n=L.length /\ vs=[y,.int .i64 k] /\ P.map (·.1)=L.take k /\ Owns h hh (.sl K.n y (P.map K.cs) R::K.os true P)) L.length ?_ ⟨0,y,[],_,by simp,by simp,by simp,by simpa [DK.os] using ho⟩
 rintro Y n vs hh ⟨k,y3,P,R3,hn,rfl,hP,ho3⟩ hY
 have hPl:P.length=k:=by have:=congrArg List.length hP;simp at this;omega
 simp -dsimp [hlx]
 refine B.zn (fun hc=> ?_) (fun hc=> ?_)<;>simp -dsimp at hc ⊢
 ·obtain ⟨w,hw⟩:=zfz hc
  obtain ⟨a,ea⟩:=(hx.mono ho3.le).get hw
  simp -dsimp only [ea.idx,ea.ldn,B.zd,B.zou]
  refine sl _ _ _ _ ea.at_ fun a' h4 o4=> ?_
  simp -dsimp only [setN_whole K _ a',fieldN_whole K _ a',fill_agg K _ a',B.zd]
  refine (ho3.join o4).push 0 rfl (K.len _ a') K.pos (by simp;exact hmul _ (by omega)) (by simp [maxLen];omega) fun y5 h5 o5 _=> ?_
  simp -dsimp [zkc (n:=k) (by omega)]
  refine hY (L.length-(k+1)) _ _ (by omega) ⟨k+1,y5,P++[(w,a')],[],by omega,by simp,?_,?_⟩
  ·rw [take_succ hw,List.map_append,hP];rfl
  ·rw [DK.zsw,DK.os_one,List.map_append]
   simpa using o5
 ·have hk:k=L.length:=by omega
  rw [hk,List.take_length] at hP
  refine zg.intro (fun n vs hh=> ∃ (j:Nat) (y:AVal) (PM:List (T×Ad)) (R:List (List AVal)),j+n=12 /\ vs=[y,.int .i64 j] /\ PM.map (·.1)=(List.range j).map (fun (i:Nat)=>mk 1 (i:Int)) /\ Owns h hh (.sl K.n y (P.map K.cs++PM.map K.cs) R::(K.os true P++K.os false PM))) 12 ?_
   ⟨0,y3,[],R3,by simp,by simp,by simp,by simpa [DK.os] using ho3⟩
  rintro Z n' vs h4 ⟨j,y4,PM,R4,hj,rfl,hPM,o4⟩ hZ
  have hMl:PM.length=j:=by have:=congrArg List.length hPM;simpa using this
  simp -dsimp only [zrp.l2,zrp.k1,V.zd4,B.zd]
  refine B.zn (fun hd=> ?_) (fun hd=> ?_)<;>simp -dsimp at hd
  ·refine sm _ _ _ _ fun a' h5 o5=> ?_
   simp -dsimp only [fill_agg K _ a']
   refine (o4.join o5).push 0 rfl (K.len _ a') K.pos (by simp;exact hmul _ (by omega)) (by simp [maxLen];omega) fun y6 h6 o6 _=> ?_
   simp -dsimp [zkc (n:=j) (by omega)]
   refine hZ (12-(j+1)) _ _ (by omega) ⟨j+1,y6,PM++[(mk 1 j,a')],[],by omega,by simp,?_,?_⟩
   ·rw [List.map_append,hPM,List.range_succ,List.map_append];rfl
   ·rw [DK.zsw,DK.os_one,List.map_append]
    simpa using o6
  ·have hj12:j=12:=by omega
   subst hj12
   obtain ⟨x',e2,e3,e4⟩:=(o4.slAt 0 rfl).slice K.pos (lo:=0) (hi:=L.length) (a:=none) (b:=some (.int .i64 L.length)) (.inl ⟨rfl,rfl⟩) (.inr ⟨_,rfl⟩) (by omega) (by simp;omega)
   simp -dsimp only [hlx,e2,B.zd]
   have h1:((P.map K.cs++PM.map K.cs++R4).take L.length).drop 0=P.map K.cs:=by
    rw [List.append_assoc,List.take_append_of_le_length (by simp;omega),List.take_of_length_le (by simp;omega),List.drop_zero]
   have h2:(P.map K.cs++PM.map K.cs++R4).drop L.length=PM.map K.cs++R4:=by
    rw [List.append_assoc,List.drop_append_of_le_length (by simp;omega),List.drop_of_length_le (by simp;omega),List.nil_append]
   rw [h1,h2] at e3
   have e5:SlX h4 K.n x' (P.map K.cs) (PM.map K.cs):=e3.cutR
   refine hq x' P PM h4 hP hPM ?_
   exact o4.turn 0 rfl (o':= .sl K.n x' (P.map K.cs) (PM.map K.cs)) e5 (fun id b hf hb=>o4.zpw 0 rfl id b (by show foot y4=some id;rw [<- e4];exact hf) hb) (fun j b hb _=>hb) (.inl e4)
def zth (K:DK T Ad) (mk:Int->Int->T) (h:za) (x:AVal) (L:List T):Prop:=
 ∃ P PM:List (T×Ad),P.map (·.1)=L /\ PM.map (·.1)=mks12 mk /\ SlX h K.n x (P.map K.cs) (PM.map K.cs) /\ AllAt h (K.os true P) /\ (∀ p∈P,K.ok p.1) /\ ∀ p∈PM,K.at_ h p.1 p.2
theorem zth.mono {mk:Int->Int->T} (hd:zth K mk h x L) (hle:h.le h'):zth K mk h' x L:=by
 obtain ⟨P,PM,e1,e2,s,a1,a0,a2⟩:=hd
 exact ⟨P,PM,e1,e2,s.mono hle,a1.mono hle,a0,fun p hp=>K.mono hle (a2 p hp)⟩
theorem zth.dl {mk:Int->Int->T} (hd:zth K mk h x L):Dl K h x L:=by
 obtain ⟨P,PM,e1,e2,s,a1,a0,a2⟩:=hd
 exact ⟨P,_,e1,s,fun p hp=>K.ofObs (a0 p hp) fun o ho=>a1 o (List.mem_flatMap.2 ⟨p,hp,ho⟩)⟩
theorem mks12_ok {mk:Int->Int->T} {PM:List (T×Ad)} (hmk: ∀ k i,K.ok (mk k i)) (e2:PM.map (·.1)=mks12 mk): ∀ p∈PM,K.ok p.1:=fun p hp=>by
 have:p.1∈PM.map (·.1):=List.mem_map.2 ⟨p,hp,rfl⟩
 rw [e2,mks12,List.mem_map] at this
 obtain ⟨i,_,e⟩:=this
 rw [<- e];exact hmk _ _
theorem zth.of {mk:Int->Int->T} {P PM:List (T×Ad)} (hmk: ∀ k i,K.ok (mk k i)) (hok: ∀ t∈L,K.ok t) (e1:P.map (·.1)=L) (e2:PM.map (·.1)=mks12 mk) (ho:Owns h0 h (.sl K.n x (P.map K.cs) (PM.map K.cs)::(K.os true P++K.os false PM))):zth K mk h x L:=
 ⟨P,PM,e1,e2,ho.slAt 0 rfl,fun o hm=>ho.is o (List.mem_cons_of_mem _ (List.mem_append_left _ hm)),fun p hp=>hok _ (e1 ▸ List.mem_map.2 ⟨p,hp,rfl⟩),fun p hp=>K.ofObs (mks12_ok hmk e2 p hp) fun o hm=>ho.is o (List.mem_cons_of_mem _ (List.mem_append_right _ (List.mem_flatMap.2 ⟨p,hp,hm⟩)))⟩
@[simp] def keptD.k1 (C:CSem) (n fk fm fs:Nat) (Q:zQ) (Y1:zL) (v1 v5 v6:AVal) (h:za):Prop:=
 B.pv (V.zbj v5) fun v19=>
  B.pv (V.bin .lss v6 v19) fun v20=>
  B.cond v20
  (B.pv (V.zbj v1) fun v25=>
  B.pv (V.bin .lss v6 v25) fun v26=>
  B.gd h v26 true (fun K=>K v5 h) fun v28 h=>
  B.gd h v26 true (fun K=>K v6 h) fun v29 h=>
  B.gd h v26 true (fun K=>B.pv (V.idxS n v28 v29) fun v=>K v h) fun v30 h=>
  B.gd h v26 true (fun K=>B.ldn h v30 n fun v=>K v h) fun v31 h=>
  B.gd h v26 true (fun K=>K v1 h) fun v32 h=>
  B.gd h v26 true (fun K=>K v6 h) fun v33 h=>
  B.gd h v26 true (fun K=>B.pv (V.idxS n v32 v33) fun v=>K v h) fun v34 h=>
  B.gd h v26 true (fun K=>B.ldn h v34 n fun v=>K v h) fun v35 h=>
  B.gd h v26 true (fun K=>B.call C fk [v31,v35] h K) fun v36 h=>
  B.gd h v26 true (fun K=>B.pv (V.un .not v36) fun v=>K v h) fun v37 h=>
  B.pick v26 v37 (.bool false) fun v38=>
  B.gd h v38 false (fun K=>K v6 h) fun v40 h=>
  B.gd h v38 false (fun K=>K v1 h) fun v41 h=>
  B.gd h v38 false (fun K=>B.pv (V.zbj v41) fun v=>K v h) fun v42 h=>
  B.gd h v38 false (fun K=>B.pv (V.bin .geq v40 v42) fun v=>K v h) fun v43 h=>
  B.gd h v38 false (fun K=>K v43 h) fun v44 h=>
  B.gd h v44 true (fun K=>K v5 h) fun v45 h=>
  B.gd h v44 true (fun K=>K v6 h) fun v46 h=>
  B.gd h v44 true (fun K=>B.pv (V.idxS n v45 v46) fun v=>K v h) fun v47 h=>
  B.gd h v44 true (fun K=>B.ldn h v47 n fun v=>K v h) fun v48 h=>
  B.gd h v44 true (fun K=>K v6 h) fun v49 h=>
  B.gd h v44 true (fun K=>K v1 h) fun v50 h=>
  B.gd h v44 true (fun K=>B.pv (V.zbj v50) fun v=>K v h) fun v51 h=>
  B.gd h v44 true (fun K=>B.pv (V.bin .sub v49 v51) fun v=>K v h) fun v52 h=>
  B.gd h v44 true (fun K=>B.call C fm [(.int .i64 1),v52] h (B.zm2 h [(v47,some n)] K)) fun v53 h=>
  B.gd h v44 true (fun K=>B.call C fs [v48,v53] h K) fun v54 h=>
  B.gd h v44 true (fun K=>B.pv (V.un .not v54) fun v=>K v h) fun v55 h=>
  B.gd h v38 false (fun K=>B.pick v44 v55 (.bool false) fun v=>K v h) fun v56 h=>
  B.pick v38 (.bool true) v56 fun v57=>
  B.cond v57
  (Q (.bool false) h)
  (B.pv (V.bin .add v6 (.int .i64 1)) fun v22=>
  Y1 [v22] h))
  (Q (.bool true) h)
@[simp] def keptD.l2 (C:CSem) (n fk fm fs:Nat) (Q:zQ) (v1 v5:AVal):zG
 | [v6],h,Y1=>keptD.k1 C n fk fm fs Q Y1 v1 v5 v6 h
 | _,_,_=>False
@[simp] def keptD.k3 (C:CSem) (n fk fm fs:Nat) (Q:zQ) (v0 v1:AVal) (h:za):Prop:=
 B.pv (V.zbj v1) fun v14=>
  B.pv (V.bin .add v14 (.int .i64 12)) fun v15=>
  B.pv (V.zgp n v0 none (some v15)) fun v16=>
  zg (keptD.l2 C n fk fm fs Q v1 v16) [(.int .i64 0)] h
def keptD (C:CSem) (n fk fm fs:Nat) (v0 v1:AVal) (h:za) (Q:zQ):Prop:=
 B.pv (V.zbj v0) fun v8=>
  B.pv (V.zbj v1) fun v10=>
  B.pv (V.bin .neq v8 v10) fun v11=>
  B.cond v11
  (Q (.bool false) h)
  (keptD.k3 C n fk fm fs Q v0 v1 h)
theorem keptD_spec [DecidableEq T] {mk:Int->Int->T} {fk fm fs:Nat} (hmk: ∀ k i,K.ok (mk k i)) (sk:KeptE K C fk) (sm:MarkE K mk C fm) (ss:SameE K C fs) {y:AVal} {Q:zQ} (hx:zth K mk h x L) (hy:Dl K h y M) (hlen:L.length <= 100000000)
  (hq: ∀ h',h.le h'->Q (.bool (decide (L=M))) h'):keptD C K.n fk fm fs x y h Q:=by
 have hlx:=hx.dl.zbj
 have hly:=hy.zbj
 simp -dsimp [keptD,hlx,hly]
 refine B.zn (fun hb=> ?_) (fun hb=> ?_)<;>simp -dsimp at hb ⊢
 ·have hq:=hq h (za.le_refl h)
  rw [decide_eq_false fun e=>hb (by rw [e])] at hq
  exact hq
 ·obtain ⟨P,PM,rfl,hPM,s,a1,a0,a2⟩:=hx
  have hMl:PM.length=12:=by have:=congrArg List.length hPM;simpa [mks12] using this
  rw [List.length_map] at hb hlen
  have e1:IntKind.i64.wrap ((M.length:Int)+12)=((M.length+12:Nat):Int):=by rw [wrap_i64 (by omega) (by omega)];omega
  obtain ⟨z,e2,e3,e4⟩:=s.slice K.pos (lo:=0) (hi:=M.length+12) (a:=none) (b:=some (.int .i64 ((M.length+12:Nat):Int))) (.inl ⟨rfl,rfl⟩) (.inr ⟨_,rfl⟩) (by omega) (by simp;omega)
  have h1:((P.map K.cs++PM.map K.cs).take (M.length+12)).drop 0=(P++PM).map K.cs:=by rw [List.drop_zero,List.take_of_length_le,List.map_append];simp;omega
  rw [h1] at e3
  have hlz:=e3.zbj
  simp only [List.length_map,List.length_append,hMl] at hlz
  simp only [hly,V.zfa,e1,e2,B.zd]
  refine zg.intro (fun n vs hh=> ∃ k,k+n=P.length+12 /\ vs=[.int .i64 k] /\ h.le hh /\ (P.map (·.1)).take k=M.take k) (P.length+12) ?_ ⟨0,by simp,by simp,za.le_refl h,by simp⟩
  rintro Y n vs hh ⟨k,hn,rfl,hle,he⟩ hY
  have e3:=e3.mono hle
  simp -dsimp [hlz]
  refine B.zn (fun hc=> ?_) (fun hc=> ?_)<;>simp -dsimp at hc ⊢
  ·by_cases hkL:k<P.length
   ·obtain ⟨p,hp⟩:=zfz hkL
    have hkM:k<M.length:=by omega
    obtain ⟨u,hu⟩:=zfz hkM
    obtain ⟨b,eb⟩:=(hy.mono hle).get hu
    have hpz:((P++PM).map K.cs)[k]? =some (K.cells p.1 p.2):=by rw [List.getElem?_map,List.getElem?_append_left hkL,hp];rfl
    have hkz:k<((P++PM).map K.cs).length:=by simp;omega
    have e5:=e3.elem hpz
    have e6:=e3.idxN (k:= .i64) hkz
    have hw:(P.map (·.1))[k]? =some p.1:=by rw [List.getElem?_map,hp];rfl
    simp -dsimp only [hly,V.zd4,show ((k:Int)<(M.length:Int)) by omega,decide_true,B.gd_t,B.zns,B.zde,zjn,e6,e5,eb.idx,eb.ldn,B.zd,B.zou]
    refine sk _ _ _ _ _ _ (a0 p (List.mem_of_getElem? hp)) (AllAt.mono (l:=K.obs true p.1 p.2) (fun o ho=>a1 o (List.mem_flatMap.2 ⟨p,List.mem_of_getElem? hp,ho⟩)) hle) eb.at_ ?_
    simp -dsimp only [B.gd_t,B.zde,V.zia,B.zd,B.zgg]
    by_cases hwu:p.1=u
    ·simp -dsimp only [hwu,decide_true,Bool.not_true,B.gd_f,Bool.not_false,B.zde,hly,V.zjr,show ¬ ((M.length:Int) <= (k:Int)) by omega,decide_false,B.gd_t,B.ze1,B.zhc,B.zd,B.cond_false,V.zfa,zkc (n:=k) (by omega)]
     refine hY (P.length+12-(k+1)) _ _ (by omega) ⟨k+1,by omega,rfl,hle,?_⟩
     rw [take_succ hw,take_succ hu,he,hwu]
    ·simp -dsimp only [hwu,decide_false,Bool.not_false,B.gd_f,Bool.not_true,B.ze1,B.zgg,B.cond_true,B.gd_tup]
     have hq:=hq hh hle
     rw [decide_eq_false fun e=>by rw [e,hu] at hw;cases hw;exact hwu rfl] at hq
     exact hq
   ·have hkM: ¬ k<M.length:=by omega
    obtain ⟨p,hp⟩:=zfz (L:=PM) (k:=k-P.length) (by omega)
    have hpz:((P++PM).map K.cs)[k]? =some (K.cells p.1 p.2):=by rw [List.getElem?_map,List.getElem?_append_right (by omega),hp];rfl
    have hkz:k<((P++PM).map K.cs).length:=by simp;omega
    have e5:=e3.elem hpz
    have e6:=e3.idxN (k:= .i64) hkz
    have hm:p.1=mk 1 ((k-M.length:Nat):Int):=by
     have:(PM.map (·.1))[k-P.length]? =some p.1:=by rw [List.getElem?_map,hp];rfl
     rw [hPM,mks12,List.getElem?_map,List.getElem?_range (by omega)] at this
     simp only [Option.map_some,Option.some.injEq] at this
     rw [<- this];congr 2;omega
    have e7:IntKind.i64.wrap ((k:Int)-M.length)=((k-M.length:Nat):Int):=by rw [wrap_i64 (by omega) (by omega)];omega
    simp -dsimp only [hly,V.zd4,show ¬ ((k:Int)<(M.length:Int)) by omega,decide_false,B.gd_t,B.zns,B.ze1,gv_false,B.zhc,B.gd_f,Bool.not_false,B.zde,zjn,V.zjr,show ((M.length:Int) <= (k:Int)) by omega,decide_true,e6,e5,V.zh6,e7,B.zd,B.zou]
    refine sm _ _ _ _ fun a' h5 o5=>⟨?_,?_⟩
    ·intro q hq
     rw [List.mem_singleton.1 hq]
     exact ⟨_,e5,(e3.mono o5.le).elem hpz⟩
    ·simp -dsimp only [zjn,B.gd_t,B.zde,B.zd,decide_true]
     refine ss _ _ _ _ _ _ (K.mono (za.le_trans hle o5.le) (a2 p (List.mem_of_getElem? hp))) (K.ofObs (hmk _ _) o5.is) ?_
     simp -dsimp only [hm,zjn,decide_true,decide_false,V.zia,Bool.not_true,Bool.not_false,B.gd_t,B.gd_f,B.zde,B.zgg,B.zhc,B.zd,B.cond_false,V.zfa,zkc (n:=k) (by omega)]
     refine hY (P.length+12-(k+1)) _ _ (by omega) ⟨k+1,by omega,rfl,za.le_trans hle o5.le,?_⟩
     rw [List.take_of_length_le (by simp;omega),List.take_of_length_le (by omega)] at he ⊢
     exact he
  ·have hq:=hq hh hle
   rw [List.take_of_length_le (by simp;omega),List.take_of_length_le (by omega)] at he
   rw [decide_eq_true he] at hq
   exact hq
end
end Go.Ab
namespace Go.Ab
variable {C:CSem} {N:zN}
structure Itm where
 Code:List UInt8
 Life:Int
 ze5:List Part
 zen:List (List UInt8)
 deriving DecidableEq
def few:Nat:=100000000
abbrev Itm.ok (t:Itm):Prop:=t.ze5.length <= few /\ t.zen.length <= few
def zqo (b:Bool) (x:AVal) (l:List Part):Ob:= .sl 2 x (l.map Part.cs) (bif b then zk1 else [])
def zqf (b:Bool) (x:AVal) (l:List (List UInt8)):Ob:= .sl 1 x (l.map tc) (bif b then zhn else [])
def ze8:DK Itm (AVal×AVal) where
 n:=4
 bytes:=72
 z:=[.str [],.int .i64 0,.nils,.nils]
 pos:=by omega
 small:=by omega
 zlen:=rfl
 cells t a:=[.str t.Code,.int .i64 t.Life,a.1,a.2]
 len _ _:=rfl
 at_ h t a:=(∃ R,SlX h 2 a.1 (t.ze5.map Part.cs) R) /\ (∃ R,SlX h 1 a.2 (t.zen.map tc) R) /\ t.ok
 mono hle ha:=⟨ha.1.imp fun _ r=>r.mono hle,ha.2.1.imp fun _ r=>r.mono hle,ha.2.2⟩
 ok:=Itm.ok
 at_ok ha:=ha.2.2
 obs b t a:=[zqo b a.1 t.ze5,zqf b a.2 t.zen]
 ofObs {b h t a} hk ha:=⟨⟨_,show SlX h 2 a.1 (t.ze5.map Part.cs) (bif b then zk1 else []) from ha (zqo b a.1 t.ze5) (by simp)⟩,⟨_,show SlX h 1 a.2 (t.zen.map tc) (bif b then zhn else []) from ha (zqf b a.2 t.zen) (by simp)⟩,hk⟩
abbrev iCells (t:Itm) (a:AVal×AVal):List AVal:=[.str t.Code,.int .i64 t.Life,a.1,a.2]
theorem Itm.eq_iff (t u:Itm):t=u↔((t.Code=u.Code /\ t.Life=u.Life) /\ t.ze5=u.ze5) /\ t.zen=u.zen:=by
 cases t;cases u;simp [Itm.mk.injEq,and_assoc]
def zes.Spec (C:CSem) (N:zN):Prop:=SameE ze8 C (N 110)
theorem zes.spec (i:zes.Imp C N) (s1:zd7.Spec C N) (s2:zdw.Spec C N):zes.Spec C N:=by
 intro t u a b h Q ha hb hq
 obtain ⟨⟨R1,a1⟩,⟨R2,a2⟩,a3,a4⟩:(∃ R,SlX h 2 a.1 (t.ze5.map Part.cs) R) /\ (∃ R,SlX h 1 a.2 (t.zen.map tc) R) /\ t.ok:=ha
 obtain ⟨⟨S1,b1⟩,⟨S2,b2⟩,b3,b4⟩:(∃ R,SlX h 2 b.1 (u.ze5.map Part.cs) R) /\ (∃ R,SlX h 1 b.2 (u.zen.map tc) R) /\ u.ok:=hb
 unfold few at a3 a4
 apply i
 simp +contextual -dsimp [ze8]
 refine B.zr1 (v:= .bool (decide (t.ze5=u.ze5))) (fun _ Q hq=>s1 _ _ _ _ _ _ _ _ a1 b1 (by omega) hq) ?_
 simp +contextual -dsimp
 refine B.zr1 (v:= .bool (decide (t.zen=u.zen))) (fun _ Q hq=>s2 _ _ _ _ _ _ _ _ a2 b2 (by omega) hq) ?_
 simp -dsimp
 refine zbe ?_
 have:decide (t=u)=(((decide (t.Code=u.Code)&&decide (t.Life=u.Life))&&decide (t.ze5=u.ze5))&&decide (t.zen=u.zen)):=by
  rw [Bool.eq_iff_iff]
  simp only [decide_eq_true_eq,Bool.and_eq_true]
  exact Itm.eq_iff t u
 rw [this] at hq
 exact hq
def zew.Spec (C:CSem) (N:zN):Prop:=OneE ze8 true C (N 399)
theorem zew.spec (i:zew.Imp C N) (s1:zd9.Spec C N) (s2:zd3.Spec C N):zew.Spec C N:=by
 intro t a h Q ha hq
 obtain ⟨⟨R1,a1⟩,⟨R2,a2⟩,a3,a4⟩:(∃ R,SlX h 2 a.1 (t.ze5.map Part.cs) R) /\ (∃ R,SlX h 1 a.2 (t.zen.map tc) R) /\ t.ok:=ha
 apply i
 simp -dsimp [ze8]
 refine s1 _ _ _ _ _ a1 a3 fun x1 h1 o1=> ?_
 have c1:=(o1.slAt 0 rfl).zc8
 simp -dsimp [c1]
 refine s2 _ _ _ _ _ (a2.mono o1.le) a4 fun x2 h2 o2=> ?_
 have c2:=(o2.slAt 0 rfl).zc8
 simp -dsimp [c2]
 exact zbe (hq (x1,x2) h2 (o1.join o2))
def zex.Spec (C:CSem) (N:zN):Prop:=KeptE ze8 C (N 400)
theorem zex.spec (i:zex.Imp C N) (s0:zes.Spec C N) (s1:zdx.Spec C N) (s2:zdt.Spec C N):zex.Spec C N:=by
 intro t u a b h Q hok ha hb hq
 apply i
 have ha':=ze8.ofObs hok ha
 obtain ⟨⟨S1,b1⟩,⟨S2,b2⟩,b3,b4⟩:(∃ R,SlX h 2 b.1 (u.ze5.map Part.cs) R) /\ (∃ R,SlX h 1 b.2 (u.zen.map tc) R) /\ u.ok:=hb
 have k1:SlX h 2 a.1 (t.ze5.map Part.cs) zk1:=ha (zqo true a.1 t.ze5) (by simp [ze8])
 have k2:SlX h 1 a.2 (t.zen.map tc) zhn:=ha (zqf true a.2 t.zen) (by simp [ze8])
 simp -dsimp [ze8]
 refine s0 t u a b h _ ha' ⟨⟨S1,b1⟩,⟨S2,b2⟩,b3,b4⟩ ?_
 simp +contextual -dsimp
 refine B.zr1 (v:= .bool (decide (t.ze5=u.ze5))) (fun _ Q hq=>s1 _ _ _ _ _ _ _ k1 b1 hok.1 hq) ?_
 simp +contextual -dsimp
 refine B.zr1 (v:= .bool (decide (t.zen=u.zen))) (fun _ Q hq=>s2 _ _ _ _ _ _ _ k2 b2 hok.2 hq) ?_
 simp -dsimp
 refine zbe ?_
 have:decide (t=u)=(decide (t=u)&&decide (t.ze5=u.ze5)&&decide (t.zen=u.zen)):=by
  by_cases h:t=u
  ·subst h;simp
  ·simp [h]
 rw [this] at hq
 exact hq
def zlk (k i:Int):Itm:=⟨[],mark k i,[],[]⟩
theorem zs4 (k i:Int):ze8.ok (zlk k i):=⟨by simp [zlk],by simp [zlk]⟩
def zem.Spec (C:CSem) (N:zN):Prop:=MarkE ze8 zlk C (N 109)
theorem zem.spec (i:zem.Imp C N) (s1:zgw.Spec C N):zem.Spec C N:=by
 intro k j h Q hq
 apply i
 simp -dsimp
 refine s1 _ _ _ _ ?_
 simp -dsimp
 exact zbe (hq (.nils,.nils) _ (by simpa [ze8,zlk,zqo,zqf] using ((Owns.start h).nils 2).nils 1))
def zcq.Spec (C:CSem) (N:zN):Prop:= ∀ (x:AVal) (L:List Itm) (h:za) (Q:zQ),Dl ze8 h x L->L.length <= 100000000 ->
 (∀ x' P PM h',P.map (·.1)=L->PM.map (·.1)=mks12 zlk->Owns h h' (.sl 4 x' (P.map ze8.cs) (PM.map ze8.cs)::(ze8.os true P++ze8.os false PM))->Q x' h')->C (N 391) [x] h Q
theorem zcq.spec (i:zcq.Imp C N) (s1:zem.Spec C N) (s2:zew.Spec C N):zcq.Spec C N:=fun x L h Q hx hl hq=>
 i x h Q (lentD_spec (K:=ze8) s1 s2 hx hl fun x' P PM h' e1 e2 ho=>zbe (hq x' P PM h' e1 e2 ho))
def zc6.Spec (C:CSem) (N:zN):Prop:= ∀ (x y:AVal) (L M:List Itm) (h:za) (Q:zQ),zth ze8 zlk h x L->Dl ze8 h y M->L.length <= 100000000 ->
 Q (.bool (decide (L=M))) h->C (N 392) [x,y] h Q
theorem zc6.spec (i:zc6.Imp C N) (s1:zex.Spec C N) (s2:zem.Spec C N) (s3:zes.Spec C N):zc6.Spec C N:=fun x y L M h Q hx hy hl hq=>
 i x y h Q (keptD_spec (K:=ze8) zs4 s1 s2 s3 hx hy hl fun h' hle=>dn_le hle hq)
end Go.Ab
namespace Go.Ab
abbrev zgz:List UInt8->List UInt8->Bool:=Op.bytesLess
theorem lessB_nil (a:List UInt8):zgz a []=false:=by cases a<;>rfl
theorem zpy (a b:UInt8) (as1 bs:List UInt8):zgz (a::as1) (b::bs)=(decide (a<b)||(a==b&&zgz as1 bs)):=rfl
theorem u8_tri (a b:UInt8):a<b \/ a=b \/ b<a:=by
 simp only [UInt8.lt_iff_toNat_lt, <- UInt8.toNat_inj];omega
theorem zin: ∀ a:List UInt8,zgz a a=false
 | []=>rfl
 | a::as1=>by rw [zpy,zin as1];simp
theorem zj3: ∀ {a b c:List UInt8},zgz a b=true->zgz b c=true->zgz a c=true
 | _,[],_,h,_=>by rw [lessB_nil] at h;cases h
 | _,_::_,[],_,h=>by rw [lessB_nil] at h;cases h
 | [],_::_,_::_,_,_=>rfl
 | a::as1,b::bs,c::cs,h1,h2=>by
  rw [zpy] at h1 h2 ⊢
  simp only [Bool.or_eq_true,decide_eq_true_eq,Bool.and_eq_true,beq_iff_eq] at h1 h2 ⊢
  rcases h1 with h1|⟨rfl,h1⟩
  ·rcases h2 with h2|⟨rfl,h2⟩
   ·left;simp only [UInt8.lt_iff_toNat_lt] at *;omega
   ·exact .inl h1
  ·rcases h2 with h2|⟨rfl,h2⟩
   ·exact .inl h2
   ·exact .inr ⟨rfl,zj3 h1 h2⟩
theorem zmi: ∀ {a b:List UInt8},zgz a b=false->zgz b a=false->a=b
 | [],[],_,_=>rfl
 | [],_::_,h,_=>by cases h
 | _::_,[],_,h=>by cases h
 | a::as1,b::bs,h1,h2=>by
  rw [zpy] at h1 h2
  simp only [Bool.or_eq_false_iff,decide_eq_false_iff_not,Bool.and_eq_false_iff,beq_eq_false_iff_ne] at h1 h2
  obtain rfl:a=b:=by rcases u8_tri a b with h|h|h<;>simp_all
  rw [zmi (h1.2.resolve_left fun h=>h rfl) (h2.2.resolve_left fun h=>h rfl)]
theorem zl1 {a b:List UInt8} (h:zgz a b=true):zgz b a=false:=by
 cases e:zgz b a with
 | false=>rfl
 | true=>have:=zj3 h e;rw [zin] at this;cases this
theorem zrz {a b:List UInt8} (h:zgz a b=true):a≠b:=fun e=>by subst e;rw [zin] at h;cases h
theorem zll {a b:List UInt8} (h:zgz a b=false) (hne:a≠b):zgz b a=true:=by
 cases e:zgz b a with
 | true=>rfl
 | false=>exact absurd (zmi h e) hne
abbrev cmpB:=Lib.compareBytes
theorem zqa: ∀ a b:List UInt8,cmpB a b=if zgz a b then -1 else if zgz b a then 1 else 0
 | [],[]=>rfl
 | [],_::_=>rfl
 | _::_,[]=>rfl
 | a::as1,b::bs=>by
  have ih:=zqa as1 bs
  show (if a<b then -1 else if b<a then 1 else cmpB as1 bs)=_
  rw [ih,zpy,zpy]
  rcases u8_tri a b with h|rfl|h
  ·simp [h]
  ·have hi: ¬ a<a:=by simp only [UInt8.lt_iff_toNat_lt];omega
   simp
  ·have h1: ¬ a<b:=by simp only [UInt8.lt_iff_toNat_lt] at *;omega
   have h2:a≠b:=fun e=>by subst e;exact h1 h
   have h3:(a==b)=false:=by simp [h2]
   simp [h,h1,h3]
theorem zqb {a b:List UInt8}:cmpB a b<0↔zgz a b=true:=by
 rw [zqa];split
 ·simp [*]
 ·split<;>simp [*]
theorem cmpB_zero {a b:List UInt8}:cmpB a b=0↔a=b:=by
 rw [zqa];split
 ·rename_i h;simp [zrz h]
 ·split
  ·rename_i h;simp [(zrz h).symm]
  ·rename_i h1 h2;simp [zmi (by simpa using h1) (by simpa using h2)]
theorem rise_ext {T:Type} {lt:T->T->Prop} (asym: ∀ a b,lt a b->lt b a->False) {l m:List T} (s:l.Pairwise lt) (t:m.Pairwise lt) (e: ∀ x,x∈l↔x∈m):l=m:=by
 have nd: ∀ {l:List T},l.Pairwise lt->l.Nodup:=fun h=>h.imp fun {a b} hab e=>by subst e;exact asym a a hab hab
 exact List.Perm.eq_of_pairwise (le:=lt) (fun a b _ _ h1 h2=>(asym a b h1 h2).elim) s t ((List.perm_ext_iff_of_nodup (nd s) (nd t)).2 e)
end Go.Ab
namespace Go.Ab
variable {C:CSem} {N:zN}
theorem SlX.sliceIn {T:Type} {h:za} {es:Nat} {x:AVal} {f:T->List AVal} {L:List T} {R:List (List AVal)} (hs:SlX h es x (L.map f) R) (hes:0<es) {lo hi:Nat} {a b:Option AVal} (ha:a=none /\ lo=0 \/ ∃ k,a=some (.int k lo)) (hb:b=none /\ hi=L.length \/ ∃ k,b=some (.int k hi)) (h1:lo <= hi) (h2:hi <= L.length):
  ∃ x' R',V.zgp es x a b=some x' /\ SlX h es x' (((L.take hi).drop lo).map f) R' /\ foot x'=foot x:=by
 obtain ⟨x',e1,e2,e3⟩:=hs.slice hes ha (by simpa using hb) h1 (by simp;omega)
 refine ⟨x',(L.map f++R).drop hi,e1,?_,e3⟩
 rwa [List.take_append_of_le_length (by simpa using h2), <- List.map_take, <- List.map_drop] at e2
end Go.Ab
namespace Go.Ab
theorem flat_take {α:Type} {n:Nat}: ∀ {css:List (List α)},(∀ cs∈css,cs.length=n)-> ∀ k:Nat,(css.take k).flatten=css.flatten.take (k*n)
 | [],_,k=>by simp
 | c::css,hl,0=>by simp
 | c::css,hl,k+1=>by
  have hc:c.length=n:=hl c (by simp)
  rw [List.take_succ_cons,List.flatten_cons,List.flatten_cons,flat_take (fun p hp=>hl p (by simp [hp])) k,Nat.add_mul,Nat.one_mul,show k*n+n=c.length+k*n by omega,List.take_length_add_append]
theorem flat_drop {α:Type} {n:Nat}: ∀ {css:List (List α)},(∀ cs∈css,cs.length=n)-> ∀ k:Nat,(css.drop k).flatten=css.flatten.drop (k*n)
 | [],_,k=>by simp
 | c::css,hl,0=>by simp
 | c::css,hl,k+1=>by
  have hc:c.length=n:=hl c (by simp)
  rw [List.drop_succ_cons,List.flatten_cons,flat_drop (fun p hp=>hl p (by simp [hp])) k,Nat.add_mul,Nat.one_mul,show k*n+n=c.length+k*n by omega,List.drop_length_add_append]
theorem lay_read {cells Z F:List AVal} {off lo T:Nat} (h5:(cells.drop off).take T=F) (hF:F.length=T) (hh:off+T <= cells.length) (hz:lo+Z.length <= T):
  ((cells.take (off+lo)++Z++cells.drop (off+lo+Z.length)).drop off).take T=F.take lo++Z++F.drop (lo+Z.length):=by
 subst h5
 apply List.ext_getElem?
 intro k
 by_cases hk:k<T
 ·rw [List.getElem?_take_of_lt hk,List.getElem?_drop,List.append_assoc,List.append_assoc]
  have l1:(cells.take (off+lo)).length=off+lo:=by simp;omega
  have l2:(((cells.drop off).take T).take lo).length=lo:=by simp;omega
  rw [znq _ _ _ l1,znq _ _ _ l2,show off+k-(off+lo)=k-lo by omega]
  by_cases k1:k<lo
  ·rw [if_pos (by omega),if_pos k1,List.getElem?_take_of_lt (by omega),List.getElem?_take_of_lt (by omega),List.getElem?_take_of_lt (by omega),List.getElem?_drop]
  ·rw [if_neg (by omega),if_neg k1]
   split
   ·rfl
   ·rw [List.getElem?_drop,List.getElem?_drop,List.getElem?_take_of_lt (by omega),List.getElem?_drop]
    congr 1
    omega
 ·rw [List.getElem?_take_eq_none (by omega),List.getElem?_eq_none]
  simp
  omega
section
variable {h h0:za} {es:Nat} {x:AVal} {L R:List (List AVal)} {l:List Ob}
theorem SlX.clrTail {lo:Nat} {z:List AVal} {K:zQ} (ho:SlX h es x L R) (hown: ∀ id b,foot x=some id->h id=some b->b.own=true) (hz:z.length=es) (hlo:lo <= L.length)
  (hk: ∀ h',SlX h' es x (L.take lo++List.replicate (L.length-lo) z) R->(∀ id b,foot x=some id->h' id=some b->b.own=true)->But x h h'->K (.tup []) h'):
  ∃ y,V.zgp es x (some (.int .i64 (lo:Int))) none=some y /\ A.clr h (some z) y K:=by
 rcases ho.at_ with ⟨e,e',e''⟩|⟨id,g,off,cp,b,hi,h1,h1',h2,h3,h4,hh,h5⟩
 ·subst e e'
  have:lo=0:=by simpa using hlo
  subst this
  refine ⟨x,?_,?_⟩
  ·rcases e'' with rfl|rfl<;>rfl
  ·have:=hk h (by simpa using ho) hown (fun _ _ h _=>h)
   rcases e'' with rfl|rfl<;>exact this
 ·subst h1
  refine ⟨.sl id g (off+lo*es) (L.length-lo) es (max L.length cp-lo),?_,?_⟩
  ·simp only [V.zgp,endsC_eq (.inr ⟨_,rfl⟩) (.inl ⟨rfl,rfl⟩)]
   rw [if_pos ⟨hlo,by omega⟩]
   simp
  ·simp only [A.clr]
   split
   ·rename_i h0
    refine hk h ?_ hown (fun _ _ h _=>h)
    rw [h0,List.take_of_length_le (by omega)]
    simpa using ho
   ·rename_i hne
    have hown':=hown id b rfl h2
    generalize hZ:(List.replicate (L.length-lo) z).flatten=Z
    have hzl:Z.length=(L.length-lo)*es:=by rw [<- hZ];simp [hz]
    have hTl:(L++R).length=L.length+R.length:=by simp
    have hmul:lo*es+(L.length-lo)*es=L.length*es:=by rw [<- Nat.add_mul];congr 1;omega
    have hmul2:L.length*es+R.length*es=(L.length+R.length)*es:=by rw [<- Nat.add_mul]
    have hbl:Nat.ble (0+(off+lo*es)+(L.length-lo)*es) hi=true:=by rw [Nat.ble_eq];omega
    have hput:V.putN (off+lo*es) ((L.length-lo)*es) (.agg Z) b.cells=some (b.cells.take (off+lo*es)++Z++b.cells.drop (off+lo*es+(L.length-lo)*es)):=by
     simp only [V.putN];rw [if_pos ⟨hzl,by omega⟩]
    simp only [A.stv,h2,h3,hown',hbl,Bool.true_and,cond_true,hput,A.ph]
    have rd:=lay_read (cells:=b.cells) (Z:=Z) (off:=off) (lo:=lo*es) h5 (by rw [zlo ho.len,hTl]) (by omega) (by rw [hzl];omega)
    have hnew:(L.take lo++List.replicate (L.length-lo) z++R).flatten=(L++R).flatten.take (lo*es)++Z++(L++R).flatten.drop (lo*es+Z.length):=by
     rw [List.flatten_append,List.flatten_append,hZ,hzl,hmul, <- flat_take ho.len, <- flat_drop ho.len,List.take_append_of_le_length hlo,List.drop_left]
    rw [<- hnew,hzl] at rd
    have hll:(L.take lo++List.replicate (L.length-lo) z).length=L.length:=by simp;omega
    have hlen': ∀ p∈L.take lo++List.replicate (L.length-lo) z++R,p.length=es:=fun p hp=>by
     rcases List.mem_append.1 hp with hp|hp
     ·rcases List.mem_append.1 hp with hp|hp
      ·exact ho.len p (List.mem_append_left _ (List.mem_of_mem_take hp))
      ·rw [(List.mem_replicate.1 hp).2];exact hz
     ·exact ho.len p (List.mem_append_right _ hp)
    refine hk _ ⟨hlen',.inr ⟨id,g,off,cp,_,hi,by rw [hll],by rw [hll];exact h1',zb7 ..,zh3 ..,by rw [hll];exact h4,?_,by simp only;rw [hll];exact rd⟩⟩ (fun j b1 hj hb1=> ?_) (fun j b1 e1 e2=> ?_)
    ·simp;omega
    ·cases hj
     rw [zb7] at hb1;cases hb1;rfl
    ·rw [zz]
     ·exact e1
     ·intro e;subst e;exact e2 rfl
theorem Owns.clrTail {lo:Nat} {z:List AVal} {K:zQ} (ho:Owns h0 h l) (k:Nat) (hk:l[k]? =some (.sl es x L R)) (hz:z.length=es) (hlo:lo <= L.length)
  (hK: ∀ h',Owns h0 h' (l.set k (.sl es x (L.take lo++List.replicate (L.length-lo) z) R))->But x h h'->K (.tup []) h'):
  ∃ y,V.zgp es x (some (.int .i64 (lo:Int))) none=some y /\ A.clr h (some z) y K:=
 (ho.slAt k hk).clrTail (ho.zpw k hk) hz hlo fun h' h1 h2 h3=>hK h' (ho.turn k hk h1 h2 h3 (.inl rfl)) h3
end
abbrev Ents (K T:Type):=List (K×T×Nat)
def zf0 {K T:Type} (ps:Ents K T):List K:=ps.map (·.1)
theorem zl5 {K T:Type} (p:K×T×Nat) (r:Ents K T):zf0 (p::r)=p.1::zf0 r:=rfl
section
variable {K T:Type} [DecidableEq K]
def getP:Ents K T->K->Option T
 | [],_=>none
 | p::r,k=>if p.1=k then some p.2.1 else getP r k
def putP:Ents K T->K->T->Nat->Ents K T
 | [],k,t,c=>[(k,t,c)]
 | p::r,k,t,c=>if p.1=k then (k,t,p.2.2)::r else p::putP r k t c
def clkP (ps:Ents K T) (k:K) (c:Nat):Nat:=if (getP ps k).isSome then c else c+1
def idxP:Ents K T->K->Option (Nat×T×Nat)
 | [],_=>none
 | p::r,k=>if p.1=k then some (0,p.2.1,p.2.2) else (idxP r k).map fun (i,q)=>(i+1,q)
theorem znr (k k':K) (t:T) (c:Nat): ∀ ps:Ents K T,getP (putP ps k t c) k'=if k'=k then some t else getP ps k'
 | []=>by
  simp only [putP,getP]
  by_cases h:k'=k
  ·rw [if_pos h.symm,if_pos h]
  ·rw [if_neg (Ne.symm h),if_neg h]
 | p::r=>by
  have ih:=znr k k' t c r
  simp only [putP]
  by_cases hp:p.1=k
  ·rw [if_pos hp]
   simp only [getP]
   by_cases h:k'=k
   ·rw [if_pos h.symm,if_pos h]
   ·rw [if_neg (Ne.symm h),if_neg h,if_neg (by rw [hp];exact Ne.symm h)]
  ·rw [if_neg hp]
   simp only [getP,ih]
   by_cases h:k'=k
   ·subst h;rw [if_neg hp,if_pos rfl,if_pos rfl]
   ·rw [if_neg h,if_neg h]
theorem zp5 {k:K}: ∀ {ps:Ents K T},getP ps k=none↔k∉zf0 ps
 | []=>by simp [getP,zf0]
 | p::r=>by
  have ih:=zp5 (k:=k) (ps:=r)
  simp only [getP,zf0,List.map_cons,List.mem_cons,not_or] at ih ⊢
  by_cases hp:p.1=k
  ·simp [hp]
  ·simp [hp,ih,Ne.symm hp]
theorem znp (k:K): ∀ ps:Ents K T,getP ps k=(idxP ps k).map (·.2.1)
 | []=>rfl
 | p::r=>by
  simp only [getP,idxP]
  split
  ·rfl
  ·rw [znp k r];cases idxP r k<;>rfl
theorem zr0 {k:K} {t:T} {c i:Nat} {q:T×Nat}: ∀ {ps:Ents K T},idxP ps k=some (i,q)->putP ps k t c=ps.set i (k,t,q.2) /\ i<ps.length
 | [],h=>by simp [idxP] at h
 | p::r,h=>by
  simp only [idxP] at h
  by_cases hp:p.1=k
  ·rw [if_pos hp] at h
   simp only [Option.some.injEq,Prod.mk.injEq] at h
   obtain ⟨rfl,rfl⟩:=h
   simp [putP,hp]
  ·rw [if_neg hp] at h
   cases hr:idxP r k with
   | none=>simp [hr] at h
   | some x=>
    obtain ⟨j,q'⟩:=x
    simp [hr] at h
    obtain ⟨rfl,rfl⟩:=h
    have:=zr0 (t:=t) (c:=c) hr
    simp [putP,hp,this.1,this.2]
theorem zjm {k:K} {t:T} {c:Nat}: ∀ {ps:Ents K T},idxP ps k=none->putP ps k t c=ps++[(k,t,c)]
 | [],_=>rfl
 | p::r,h=>by
  simp only [idxP] at h
  by_cases hp:p.1=k
  ·rw [if_pos hp] at h;cases h
  ·rw [if_neg hp] at h
   cases hr:idxP r k with
   | none=>simp [putP,hp,zjm hr]
   | some x=>simp [hr] at h
theorem keysP_put (k:K) (t:T) (c:Nat): ∀ ps:Ents K T,zf0 (putP ps k t c)=if k∈zf0 ps then zf0 ps else zf0 ps++[k]
 | []=>by simp [putP,zf0]
 | p::r=>by
  have ih:=keysP_put k t c r
  by_cases hp:p.1=k
  ·rw [putP,if_pos hp,zl5,zl5,if_pos (by simp [hp]),hp]
  ·rw [putP,if_neg hp,zl5,ih,zl5]
   by_cases hm:k∈zf0 r
   ·rw [if_pos hm,if_pos (by simp [hm])]
   ·rw [if_neg hm,if_neg (by simp [hm,Ne.symm hp])];rfl
theorem zsz {ps:Ents K T} (h:(zf0 ps).Nodup) (k:K) (t:T) (c:Nat):(zf0 (putP ps k t c)).Nodup:=by
 rw [keysP_put]
 split
 ·exact h
 ·rename_i hk
  rw [List.nodup_append]
  exact ⟨h,List.pairwise_singleton _ _,fun a ha b hb e=>hk (by rw [List.mem_singleton.1 hb] at e;rw [<- e];exact ha)⟩
theorem getP_mem {k:K} {t:T}: ∀ {ps:Ents K T},getP ps k=some t-> ∃ n,(k,t,n)∈ps
 | [],h=>by simp [getP] at h
 | p::r,h=>by
  simp only [getP] at h
  by_cases hp:p.1=k
  ·rw [if_pos hp] at h
   cases h
   exact ⟨p.2.2,by rw [<- hp];simp⟩
  ·rw [if_neg hp] at h
   obtain ⟨n,hn⟩:=getP_mem h
   exact ⟨n,by simp [hn]⟩
theorem mem_getP {ps:Ents K T} (hn:(zf0 ps).Nodup) {p:K×T×Nat} (hp:p∈ps):getP ps p.1=some p.2.1:=by
 induction ps with
 | nil=>cases hp
 | cons q r ih=>
  simp only [zf0,List.map_cons,List.nodup_cons] at hn
  simp only [getP]
  rcases List.mem_cons.1 hp with rfl|hp
  ·rw [if_pos rfl]
  ·rw [if_neg,ih hn.2 hp]
   intro e
   exact hn.1 (by rw [e];exact List.mem_map_of_mem hp)
end
structure KeyE (kd:KD) {K:Type} [DecidableEq K] (κ:K->AVal):Prop where
 same: ∀ a b,V.sameK kd (κ a) (κ b)=some (decide (a=b))
theorem keyS:KeyE .s (fun s:List UInt8=> .str s):=⟨fun a b=>by
 simp only [V.sameK];congr 1;rw [Bool.eq_iff_iff,beq_iff_eq,decide_eq_true_eq]⟩
def encM {K T:Type} (κ:K->AVal) (v:T->AVal) (ps:Ents K T):List (AVal×AVal×Nat):=ps.map fun p=>(κ p.1,v p.2.1,p.2.2)
section
variable {kd:KD} {K T:Type} [DecidableEq K] {κ:K->AVal} {v:T->AVal}
theorem ztc (hκ:KeyE kd κ) (k:K): ∀ (ps:Ents K T) (i:Nat),V.findK kd (κ k) (encM κ v ps) i=some ((idxP ps k).map fun (j,q)=>(i+j,v q.1,q.2))
 | [],i=>rfl
 | p::r,i=>by
  simp only [encM,List.map_cons,V.findK,hκ.same,idxP]
  by_cases hp:k=p.1
  ·rw [if_pos hp.symm];simp [hp]
  ·rw [if_neg (Ne.symm hp)]
   have ih:=ztc hκ k r (i+1)
   simp only [encM] at ih
   simp only [hp,decide_false,ih]
   cases idxP r k with
   | none=>rfl
   | some x=>obtain ⟨j,q⟩:=x;simp only [Option.map_some];congr 3;omega
theorem fset_enc (hκ:KeyE kd κ) (k:K) (t:T) (ps:Ents K T) (c:Nat):A.fset (some kd) (κ k) (v t) (encM κ v ps) c=some (encM κ v (putP ps k t c),clkP ps k c,.undef):=by
 simp only [A.fset,ztc hκ,clkP,znp]
 cases h:idxP ps k with
 | none=>simp [zjm h,encM]
 | some x=>
  obtain ⟨j,q⟩:=x
  have:=zr0 (t:=t) (c:=c) h
  simp only [Option.map_some,Option.isSome_some,if_true,Nat.zero_add,this.1,encM,List.map_set]
end
def zgy (es:List (AVal×AVal×Nat)) (c:Nat):Blk:=zie (.map es c)
theorem Owns.newBlk {h0 h:za} {l:List Ob} (ho:Owns h0 h l) {id:Nat} (hid:h id=none) {b:Blk} (hb:b.own=true):Owns h0 (upd h id b) (l++[.blk id b]):=
 ho.join ⟨zjh _ hid,fun o hm=>by rw [List.mem_singleton.1 hm];exact zb7 ..,fun o hm j hj=>by rw [List.mem_singleton.1 hm] at hj;cases hj;exact ⟨hid,fun b hb'=>by rw [zb7] at hb';cases hb';exact hb⟩,List.pairwise_singleton _ _⟩
theorem Owns.zos {h0 h:za} {l:List Ob} {K T:Type} (ho:Owns h0 h l) (κ:K->AVal) (v:T->AVal) {Q:zQ} (hq: ∀ id h',h id=none->Owns h0 h' (l++[.blk id (zgy (encM κ v []) 0)])->h.le h'->Q (.mp id) h'):B.zos h Q:=
 fun id hid=>hq id _ hid (ho.newBlk hid rfl) (zjh _ hid)
section
variable {h0 h:za} {l:List Ob} {kd:KD} {K T:Type} [DecidableEq K] {κ:K->AVal} {v:T->AVal}
theorem Owns.setBlk (ho:Owns h0 h l) (k:Nat) {id:Nat} {b b':Blk} (hk:l[k]? =some (.blk id b)) (hb:b'.own=true):Owns h0 (upd h id b') (l.set k (.blk id b')):=
 ho.turn k hk (zb7 ..) (fun j c hj hc=>by cases hj;rw [zb7] at hc;cases hc;exact hb) (fun j c e1 e2=>by rw [zz];exact e1;intro e;subst e;exact e2 rfl) (.inl rfl)
theorem zpx {id:Nat} {es:List (AVal×AVal×Nat)} {c:Nat} (hb:h id=some (zgy es c)):A.zom h (.mp id)=some (es,c):=by simp [A.zom,hb,zgy,zie]
theorem objT_blk {id:Nat} {es es':List (AVal×AVal×Nat)} {c c':Nat} {u:AVal} {f:List (AVal×AVal×Nat)->Nat->Option (List (AVal×AVal×Nat)×Nat×AVal)} {Q:zQ} (hb:h id=some (zgy es c)) (hf:f es c=some (es',c',u))
  (hq:Q u (upd h id (zgy es' c'))):A.objT h (.mp id) f Q:=by
 unfold zgy zie at *
 simp only [A.objT,hb,hf]
 exact hq
theorem lkp_blk {id:Nat} {c:Nat} {ps:Ents K T} (hκ:KeyE kd κ) (hb:h id=some (zgy (encM κ v ps) c)) (z:T) (k:K) (ok:Bool):
  A.lkp h (some kd) (some (v z)) ok (.mp id) (κ k)=some (bif ok then .tup [v ((getP ps k).getD z),.bool (getP ps k).isSome] else v ((getP ps k).getD z)):=by
 simp only [A.lkp,A.entries,zpx hb,ztc hκ,znp]
 cases idxP ps k with
 | none=>rfl
 | some x=>rfl
theorem Owns.lkp (ho:Owns h0 h l) (i:Nat) {id c:Nat} {ps:Ents K T} (hi:l[i]? =some (.blk id (zgy (encM κ v ps) c))) (hκ:KeyE kd κ) (z:T) (k:K):A.lkp h (some kd) (some (v z)) false (.mp id) (κ k)=some (v ((getP ps k).getD z)):=
 lkp_blk hκ (ho.at i hi) z k false
theorem Owns.mset (ho:Owns h0 h l) (i:Nat) {id c:Nat} {ps:Ents K T} (hi:l[i]? =some (.blk id (zgy (encM κ v ps) c))) (hκ:KeyE kd κ) (k:K) (t:T) {Q:za->Prop}
  (hq: ∀ h',Owns h0 h' (l.set i (.blk id (zgy (encM κ v (putP ps k t c)) (clkP ps k c))))->But (.mp id) h h'->(∀ j,j≠id->h' j=h j)->Q h'):B.mset h kd (.mp id) (κ k) (v t) Q:=
 objT_blk (ho.at i hi) (fset_enc hκ k t ps c) (hq _ (ho.setBlk i hi rfl) (fun j b e1 e2=>by rw [zz];exact e1;intro e;subst e;exact e2 rfl) fun j hj=>zz _ _ hj)
end
def zkn {K T:Type} (ps:Ents K T) (c:Nat):Prop:=(∀ p∈ps,p.2.2<c) /\ (ps.map (·.2.2)).Nodup
section
variable {K T:Type} {ps D:Ents K T} {c:Nat}
theorem zkn.nil (c:Nat):zkn ([]:Ents K T) c:=⟨fun _ h=>(by cases h),List.Pairwise.nil⟩
theorem zkn.put [DecidableEq K] (hb:zkn ps c) (k:K) (t:T):zkn (putP ps k t c) (clkP ps k c):=by
 unfold clkP
 rw [znp]
 cases h:idxP ps k with
 | none=>
  rw [zjm h]
  simp only [Option.map_none,Option.isSome_none,Bool.false_eq_true,if_false]
  refine ⟨fun p hp=> ?_,?_⟩
  ·rcases List.mem_append.1 hp with hp|hp
   ·have:=hb.1 p hp;omega
   ·rw [List.mem_singleton.1 hp];exact Nat.lt_succ_self _
  ·rw [List.map_append,List.nodup_append]
   refine ⟨hb.2,List.pairwise_singleton _ _,fun a ha b hb2=> ?_⟩
   obtain ⟨p,hp,rfl⟩:=List.mem_map.1 ha
   rw [List.map_singleton,List.mem_singleton] at hb2
   have:=hb.1 p hp
   subst hb2
   exact Nat.ne_of_lt this
 | some x=>
  obtain ⟨j,q⟩:=x
  have he:=zr0 (t:=t) (c:=c) h
  simp only [Option.map_some,Option.isSome_some,if_true,he.1]
  have hq:(ps.map (·.2.2))[j]? =some q.2:=by
   have: ∀ (ps:Ents K T) (j:Nat) (q:T×Nat),idxP ps k=some (j,q)->(ps.map (·.2.2))[j]? =some q.2:=by
    intro ps
    induction ps with
    | nil=>intro j q h;cases h
    | cons p r ih=>
     intro j q h
     simp only [idxP] at h
     split at h
     ·cases h;rfl
     ·cases e:idxP r k with
      | none=>rw [e] at h;cases h
      | some y=>
       obtain ⟨j',q'⟩:=y
       rw [e] at h
       simp only [Option.map_some,Option.some.injEq,Prod.mk.injEq] at h
       obtain ⟨rfl,rfl⟩:=h
       simpa using ih _ _ e
   exact this _ _ _ h
  have hm:(ps.set j (k,t,q.2)).map (·.2.2)=ps.map (·.2.2):=by
   rw [List.map_set]
   apply List.ext_getElem?
   intro i
   rw [List.getElem?_set]
   split
   ·rename_i e;subst e
    split
    ·exact hq.symm
    ·rename_i e2;simp at e2;omega
   ·rfl
  refine ⟨fun p hp=> ?_,by rw [hm];exact hb.2⟩
  have:p.2.2∈(ps.set j (k,t,q.2)).map (·.2.2):=List.mem_map.2 ⟨p,hp,rfl⟩
  rw [hm] at this
  obtain ⟨p',hp',e⟩:=List.mem_map.1 this
  rw [<- e];exact hb.1 p' hp'
theorem zkn.inj (hb:zkn ps c) {p q:K×T×Nat} (hp:p∈ps) (hq:q∈ps) (e:p.2.2=q.2.2):p=q:=by
 obtain ⟨i,hi,rfl⟩:=List.mem_iff_getElem.1 hp
 obtain ⟨j,hj,rfl⟩:=List.mem_iff_getElem.1 hq
 have:i=j:=by
  refine (List.getElem_inj (h₀:=by simpa using hi) (h₁:=by simpa using hj) hb.2).1 ?_
  simpa using e
 subst this;rfl
theorem zkn.all (hb:zkn ps c) (h1: ∀ p∈D,p∈ps) (h2:(D.map (·.2.2)).Nodup) (h3: ∀ p∈ps,p.2.2∈D.map (·.2.2)):D.Perm ps:=by
 have nd: ∀ {l:Ents K T},(l.map (·.2.2)).Nodup->l.Nodup:=fun h=>List.Pairwise.of_map (S:=(· ≠ ·)) (fun p:K×T×Nat=>p.2.2) (fun a b h e=>h (by rw [e])) h
 refine (List.perm_ext_iff_of_nodup (nd h2) (nd hb.2)).2 fun p=>⟨h1 p,fun hp=> ?_⟩
 obtain ⟨q,hq,e⟩:=List.mem_map.1 (h3 p hp)
 rwa [hb.inj (h1 q hq) hp e] at hq
end
def zht (m since:Nat) (seen:List Nat) (last:Nat):Blk:=zie (.mapIter (some m) since seen last)
section
variable {h0 h:za} {l:List Ob} {K T:Type} {κ:K->AVal} {v:T->AVal} {ps:Ents K T} {m c:Nat} {Q:zQ}
theorem Owns.nextMapB (ho:Owns h0 h l) (j:Nat) {it since last:Nat} {seen:List Nat} (hbm:h m=some (zgy (encM κ v ps) c)) (hj:l[j]? =some (.blk it (zht m since seen last))) (hb:zkn ps c) (hs:c <= since) (hsl:since <= last)
  (hdone:(∀ p∈ps,p.2.2∈seen)->Q (.tup [.bool false]) h)
  (hstep: ∀ p∈ps,p.2.2∉seen-> ∀ h',Owns h0 h' (l.set j (.blk it (zht m since (seen++[p.2.2]) c)))->(∀ k,k≠it->h' k=h k)->A.zif h' (.ptr it 0 0)=some (.tup [κ p.1,v p.2.1])->Q (.tup [.bool true,κ p.1,v p.2.1]) h'):
  B.zgj h (.ptr it 0 0) Q:=by
 have hbi:h it=some (zht m since seen last):=ho.at j hj
 have hne:m≠it:=fun e=>by
  subst e
  rw [hbm] at hbi
  have:=Option.some.inj hbi
  unfold zgy zht zie at this
  cases this
 show A.zgj h (.ptr it 0 0) Q
 have hall:((encM κ v ps).all fun e=>Nat.blt e.2.2 since)=true:=by
  rw [List.all_eq_true]
  intro e he
  obtain ⟨p,hp,rfl⟩:=List.mem_map.1 he
  have:=hb.1 p hp
  rw [Nat.blt_eq];show p.2.2<since;omega
 have hle:Nat.ble since last=true:=by rw [Nat.ble_eq];exact hsl
 have hst:A.steps h (.ptr it 0 0)=some (it,match (encM κ v ps).filter (fun e=> !seen.contains e.2.2) with
   | []=>[(zht m since seen last,.tup [.bool false])]
   | l=>l.map fun e=>({ zht m since seen last with obj:=some (.mapIter (some m) since (seen++[e.2.2]) c) },.tup [.bool true,e.1,e.2.1])):=by
  simp only [A.steps,hbi]
  unfold zht zie
  simp only [zpx hbm,hall,hle,Bool.and_self,cond_true]
  rfl
 simp only [A.zgj,hst]
 intro p hp
 have hf: ∀ e,e∈(encM κ v ps).filter (fun e=> !seen.contains e.2.2)↔ ∃ q∈ps,q.2.2∉seen /\ e=(κ q.1,v q.2.1,q.2.2):=fun e=>by
  rw [List.mem_filter]
  constructor
  ·rintro ⟨he,hc⟩
   obtain ⟨q,hq,rfl⟩:=List.mem_map.1 he
   refine ⟨q,hq,?_,rfl⟩
   simpa using hc
  ·rintro ⟨q,hq,hn,rfl⟩
   exact ⟨List.mem_map.2 ⟨q,hq,rfl⟩,by simpa using hn⟩
 cases hfl:(encM κ v ps).filter (fun e=> !seen.contains e.2.2) with
 | nil=>
  rw [hfl] at hp
  rw [List.mem_singleton.1 hp]
  have:upd h it (zht m since seen last)=h:=upd_self hbi
  rw [this]
  refine hdone fun q hq=> ?_
  by_cases hn:q.2.2∈seen
  ·exact hn
  ·have:=(hf _).2 ⟨q,hq,hn,rfl⟩
   rw [hfl] at this;cases this
 | cons e0 es0=>
  rw [hfl] at hp
  obtain ⟨e,he,rfl⟩:=List.mem_map.1 hp
  rw [<- hfl] at he
  obtain ⟨q,hq,hn,rfl⟩:=(hf _).1 he
  have hblk:({ zht m since seen last with obj:=some (.mapIter (some m) since (seen++[q.2.2]) c) }:Blk)=zht m since (seen++[q.2.2]) c:=rfl
  show Q _ (upd h it { zht m since seen last with obj:=some (.mapIter (some m) since (seen++[q.2.2]) c) })
  rw [hblk]
  refine hstep q hq hn _ (ho.setBlk j hj rfl) (fun k hk=>zz _ _ hk) ?_
  have hbm':upd h it (zht m since (seen++[q.2.2]) c) m=some (zgy (encM κ v ps) c):=by rw [zz _ _ hne];exact hbm
  have hfind:(encM κ v ps).find? (fun e=>Nat.beq e.2.2 q.2.2)=some (κ q.1,v q.2.1,q.2.2):=by
   have key: ∀ (ps:Ents K T),(ps.map (·.2.2)).Nodup->q∈ps->(encM κ v ps).find? (fun e=>Nat.beq e.2.2 q.2.2)=some (κ q.1,v q.2.1,q.2.2):=by
    intro ps
    induction ps with
    | nil=>intro _ h;cases h
    | cons a r ih=>
     intro hnd hm
     simp only [List.map_cons,List.nodup_cons] at hnd
     simp only [encM,List.map_cons,List.find?_cons]
     rcases List.mem_cons.1 hm with rfl|hm
     ·simp [Nat.beq_refl]
     ·have hne:a.2.2≠q.2.2:=fun e=>hnd.1 (by rw [e];exact List.mem_map.2 ⟨q,hm,rfl⟩)
      have:Nat.beq a.2.2 q.2.2=false:=by
       cases e:Nat.beq a.2.2 q.2.2 with
       | false=>rfl
       | true=>exact absurd (Nat.eq_of_beq_eq_true e) hne
      rw [this]
      exact ih hnd.2 hm
   exact key ps hb.2 hq
  simp only [A.zif,upd_get]
  unfold zht zie
  have hbm'':=hbm'
  unfold zht zie at hbm''
  simp only [zpx hbm'',List.getLast?_append,List.getLast?_singleton,Option.some_or,Nat.beq_refl,cond_true,hfind]
end
structure Weak {T:Type} (less:T->T->Bool):Prop where
 asym: ∀ {a b},less a b=true->less b a=false
 zor: ∀ {a b c},less a b=false->less b c=false->less a c=false
section
variable {T:Type} {less:T->T->Bool}
theorem Weak.irr (W:Weak less) (a:T):less a a=false:=by
 cases h:less a a with
 | false=>rfl
 | true=>have:=W.asym h;rw [h] at this;cases this
theorem Weak.trans (W:Weak less) {a b c:T} (h1:less a b=true) (h2:less b c=true):less a c=true:=by
 cases h:less a c with
 | true=>rfl
 | false=>have:=W.zor h (W.asym h2);rw [h1] at this;cases this
def lt' (less:T->T->Bool) (x y:T×Nat):Prop:=less x.1 y.1=true \/ (less y.1 x.1=false /\ x.2<y.2)
theorem lt'_trans (W:Weak less) {x y z:T×Nat} (h1:lt' less x y) (h2:lt' less y z):lt' less x z:=by
 unfold lt' at *
 rcases h1 with h1|⟨h1,n1⟩<;>rcases h2 with h2|⟨h2,n2⟩
 ·exact .inl (W.trans h1 h2)
 ·left
  cases h:less x.1 z.1 with
  | true=>rfl
  | false=>have:=W.zor h h2;rw [h1] at this;cases this
 ·left
  cases h:less x.1 z.1 with
  | true=>rfl
  | false=>have:=W.zor h1 h;rw [h2] at this;cases this
 ·exact .inr ⟨W.zor h2 h1,by omega⟩
theorem lt'_gt {x y:T×Nat} (hn:y.2<x.2):lt' less x y↔less x.1 y.1=true:=⟨fun h=>h.elim id fun ⟨_,h⟩=>by omega,.inl⟩
theorem lt'_le (W:Weak less) {x y:T×Nat} (hn:x.2<y.2):lt' less x y↔less y.1 x.1=false:=
 ⟨fun h=>h.elim (fun h=>W.asym h) fun ⟨h,_⟩=>h,fun h=> .inr ⟨h,hn⟩⟩
end
end Go.Ab
namespace Go.Ab
variable {C:CSem} {N:zN}
theorem add1 {a:Nat} (h:a<4611686018427387904):V.bin .add (.int .i64 (a:Int)) (.int .i64 1)=some (.int .i64 ((a+1:Nat):Int)):=by
 rw [V.zfa,wrap_i64 (by omega) (by omega)];simp
theorem sub1 {a:Nat} (h:1 <= a) (ha:a<4611686018427387904):V.bin .sub (.int .i64 (a:Int)) (.int .i64 1)=some (.int .i64 ((a-1:Nat):Int)):=by
 rw [V.zh6,wrap_i64 (by omega) (by omega)];congr 2;omega
theorem lssN {a b:Nat}:V.bin .lss (.int .i64 (a:Int)) (.int .i64 (b:Int))=some (.bool (decide (a<b))):=by rw [V.zd4];congr 3;exact propext (by omega)
theorem leqN {a b:Nat}:V.bin .leq (.int .i64 (a:Int)) (.int .i64 (b:Int))=some (.bool (decide (a <= b))):=by rw [V.bin_leq];congr 3;exact propext (by omega)
theorem gtrN {a b:Nat}:V.bin .gtr (.int .i64 (a:Int)) (.int .i64 (b:Int))=some (.bool (decide (b<a))):=by rw [V.bin_gtr];congr 3;exact propext (by omega)
structure zdc (E:zx) {X:Type} (cs:X->List AVal) (v:X->AVal):Prop where
 pos:0<E.es
 small:E.bytes <= 1000
 zlen:E.z.length=E.es
 len: ∀ t,(cs t).length=E.es
 new: ∀ t,ze2 [(0,E.kp,v t)] (repL 1 E.z)=some (cs t)
 ld: ∀ {h:za} {x:AVal} {L R:List (List AVal)} {i:Nat} {t:X} {K:AVal->Prop},SlX h E.es x L R->L[i]? =some (cs t)->K (v t)->E.ld h (elp E.es x i 0) K
 kpt: ∀ {h:za} {x:AVal} {L R:List (List AVal)} {i:Nat} {t:X},SlX h E.es x L R->L[i]? =some (cs t)->Kp h (elp E.es x i 0) E.kp
 st: ∀ {h0 h:za} {x:AVal} {L R:List (List AVal)} {i:Nat} {c:List AVal} {t:X} {K:za->Prop},Owns h0 h [.sl E.es x L R]->L[i]? =some c ->
  (∀ h',Owns h0 h' [.sl E.es x (L.set i (cs t)) R]->K h')->E.st h (elp E.es x i 0) (v t) K
theorem zdc.comp {E:zx} {X Y:Type} {cs:X->List AVal} {v:X->AVal} (S:zdc E cs v) (f:Y->X):zdc E (fun y=>cs (f y)) (fun y=>v (f y)):=
 ⟨S.pos,S.small,S.zlen,fun t=>S.len _,fun t=>S.new _,fun h1 h2 h3=>S.ld h1 h2 h3,fun h1 h2=>S.kpt h1 h2,fun h1 h2 h3=>S.st h1 h2 h3⟩
theorem seqF {X:Type} {es bytes f:Nat} {z:List AVal} {sh:List Ck} {cs:X->List AVal} (hp:0<es) (hb:bytes <= 1000) (hz:z.length=es) (hl: ∀ t,(cs t).length=es):zdc (opsF es bytes z f sh) cs (fun t=> .agg (cs t)) where
 pos:=hp
 small:=hb
 zlen:=hz
 len:=hl
 new t:=by
  have hrep:repL 1 z=z:=by unfold repL;split<;>simp
  have h1:=hl t
  show ze2 [(0,some es,AVal.agg (cs t))] (repL 1 z)=_
  rw [hrep]
  simp [h1,hz]
 ld hs hc hk:=by
  simp only [opsF,B.zou] at hs ⊢
  rw [hs.elem hc];exact hk
 kpt hs hc:=⟨_,hs.elem hc⟩
 st ho hc hk:=ho.stElem 0 rfl hc (hl _) fun h' h1 _=>hk h' h1
theorem seqS {X:Type} {bytes f:Nat} {z:AVal} {v:X->AVal} (hb:bytes <= 1000) (hc: ∀ t,(v t).zc8=true):zdc (opsS bytes z f) (fun t=>[v t]) v where
 pos:=Nat.one_pos
 small:=hb
 zlen:=rfl
 len _:=rfl
 new t:=by simp [opsS,hc,repL]
 ld hs hcc hk:=by
  simp only [opsS,B.zg0] at hs ⊢
  rw [hs.cell hcc];exact hk
 kpt hs hcc:=⟨_,hs.cell hcc⟩
 st {h0 h x L R i c t K} ho hcc hk:=by
  have hs:SlX h 1 x L R:=ho.slAt 0 rfl
  have hcl:c.length=1:=hs.len c (List.mem_append_left _ (List.mem_of_getElem? hcc))
  obtain ⟨u,rfl⟩:=List.length_eq_one_iff.1 hcl
  exact ho.st 0 rfl hcc (by show 0<1;omega) (hc _) fun h' h1 _=>hk h' h1
def Rw (E:zx) {X:Type} (cs:X->List AVal) (h0 h:za) (x:AVal) (G:List X) (R:List (List AVal)):Prop:=Owns h0 h [.sl E.es x (G.map cs) R]
section
variable {E:zx} {X:Type} {cs:X->List AVal} {v:X->AVal} {h0 h:za} {x:AVal} {G:List X} {R:List (List AVal)}
theorem Rw.idx (ho:Rw E cs h0 h x G R) {i:Nat} (hi:i<G.length):V.idxS E.es x (.int .i64 (i:Int))=some (elp E.es x i 0):=(Owns.slAt ho 0 rfl).idxN (by simpa using hi)
theorem Rw.lenE (ho:Rw E cs h0 h x G R):V.zbj x=some (.int .i64 G.length):=by have:=(Owns.slAt ho 0 rfl).zbj;simpa using this
theorem Rw.le (ho:Rw E cs h0 h x G R):h0.le h:=Owns.le ho
theorem Rw.ld (ho:Rw E cs h0 h x G R) (S:zdc E cs v) {i:Nat} {t:X} (hg:G[i]? =some t) {K:AVal->Prop} (hk:K (v t)):E.ld h (elp E.es x i 0) K:=
 S.ld (Owns.slAt ho 0 rfl) (by rw [List.getElem?_map,hg];rfl) hk
theorem Rw.st (ho:Rw E cs h0 h x G R) (S:zdc E cs v) {i:Nat} {t:X} (hi:i<G.length) {K:za->Prop} (hk: ∀ h',Rw E cs h0 h' x (G.set i t) R->K h'):E.st h (elp E.es x i 0) (v t) K:=
 S.st ho (c:=cs G[i]) (by rw [List.getElem?_map,List.getElem?_eq_getElem hi];rfl) fun h' h1=>hk h' (by unfold Rw;rwa [List.map_set])
theorem set_mid {P Q:List X} {a b:X} {i:Nat} (hi:i=P.length):(P++a::Q).set i b=P++b::Q:=by subst hi;simp
theorem get_mid {P Q:List X} {a:X} {i:Nat} (hi:i=P.length):(P++a::Q)[i]? =some a:=by subst hi;simp
theorem set_mid2 {P Q T:List X} {a b c:X} {j:Nat} (hj:j=P.length+1+Q.length):(P++a::(Q++b::T)).set j c=P++a::(Q++c::T):=by
 have:=set_mid (P:=P++a::Q) (Q:=T) (a:=b) (b:=c) (i:=j) (by simp;omega)
 simpa using this
theorem get_mid2 {P Q T:List X} {a b:X} {j:Nat} (hj:j=P.length+1+Q.length):(P++a::(Q++b::T))[j]? =some b:=by
 have:=get_mid (P:=P++a::Q) (Q:=T) (a:=b) (i:=j) (by simp;omega)
 simpa using this
theorem Rw.swapDn {P Q T:List X} {a b:X} {i j:Nat} (ho:Rw E cs h0 h x (P++a::(Q++b::T)) R) (S:zdc E cs v) (hi:i=P.length) (hj:j=P.length+1+Q.length) {K:za->Prop}
  (hk: ∀ h',Rw E cs h0 h' x (P++b::(Q++a::T)) R->K h'):E.st h (elp E.es x j 0) (v a) fun h=>E.st h (elp E.es x i 0) (v b) K:=by
 refine ho.st S (by simp;omega) fun h1 o1=> ?_
 rw [set_mid2 hj] at o1
 refine o1.st S (by simp;omega) fun h2 o2=>hk h2 ?_
 rwa [set_mid hi] at o2
end
structure zd0 (C:CSem) {X:Type} (v:X->AVal) (c:X->X->Int) (f:AVal) (h0:za):Prop where
 call: ∀ (h:za) (a b:X) (K:zQ),h0.le h->K (.int .i64 (c a b)) h->B.zhi h C f [v a,v b] K
section
variable {E:zx} {T:Type} {cs:T->List AVal} {v:T->AVal} {c:T->T->Int} {h0 h:za} {x f:AVal} {R:List (List AVal)} {Q:zQ}
def ze4 (c:T->T->Int) (a b:T):Bool:=decide (c a b<0)
theorem zs0 {X:Type} (L:List X):L=[] \/ ∃ L0 y,L=L0++[y]:=by
 rcases List.eq_nil_or_concat L with h|⟨A,b,h⟩
 ·exact .inl h
 ·exact .inr ⟨A,b,by rw [h,List.concat_eq_append]⟩
theorem zjk (S:zdc E cs v) (W:Weak (ze4 c)) {P M U:List (T×Nat)} (hlen:(P++(M++U)).length <= 100000000) (ht:M.Pairwise fun a b=>a.2<b.2)
  (hc:zd0 C v c f h0) {a b:Nat} (ha:a=P.length) (hb:b=P.length+M.length) (ho:Rw E (fun p:T×Nat=>cs p.1) h0 h x (P++(M++U)) R)
  (hq: ∀ h' M',M'.Perm M->M'.Pairwise (lt' (ze4 c))->Rw E (fun p:T×Nat=>cs p.1) h0 h' x (P++(M'++U)) R->Q (.tup []) h'):
  zbh.cps C E x (.int .i64 (a:Int)) (.int .i64 (b:Int)) f h Q:=by
 have S':=S.comp (fun p:T×Nat=>p.1)
 subst ha
 have hlen':P.length+M.length+U.length <= 100000000:=by simpa [Nat.add_assoc] using hlen
 simp -dsimp only [zbh.cps,add1 (show P.length<4611686018427387904 by omega),B.zd]
 cases M with
 | nil=>
  intro Y hY
  refine hY _ _ ?_
  simp -dsimp only [zbh.l3,lssN,B.zd]
  rw [show decide (P.length+1<b)=false by simp at hb ⊢;omega,B.cond_false]
  exact hq h [] (List.Perm.refl _) .nil ho
 | cons m M1=>
 simp only [List.length_cons] at hlen' hb
 rw [List.pairwise_cons] at ht
 refine zg.intro (fun t vs hh=> ∃ (i:Nat) (L M2:List (T×Nat)),t=M2.length /\ vs=[.int .i64 i] /\ i=P.length+L.length /\ i+M2.length=b /\ Rw E (fun p:T×Nat=>cs p.1) h0 hh x (P++(L++(M2++U))) R /\
  (L++M2).Perm (m::M1) /\ L.Pairwise (lt' (ze4 c)) /\ M2.Pairwise (fun a b=>a.2<b.2) /\ ∀ p∈L,∀ q∈M2,p.2<q.2) M1.length ?_
  ⟨P.length+1,[m],M1,rfl,rfl,by simp,by omega,by simpa using ho,List.Perm.refl _,List.pairwise_singleton ..,ht.2,by simpa using ht.1⟩
 rintro Y t vs hh ⟨i,L,M2,rfl,rfl,hi,hib,o,hp,hs,ht2,htt⟩ hY
 simp -dsimp only [zbh.l3,lssN,B.zd]
 cases M2 with
 | nil=>
  rw [show decide (i<b)=false by simp at hib ⊢;omega,B.cond_false]
  rw [List.append_nil] at hp
  exact hq hh L hp hs o
 | cons x0 M2=>
  simp only [List.length_cons] at hib
  rw [show decide (i<b)=true by simp;omega,B.cond_true]
  rw [List.pairwise_cons] at ht2
  have hll:P.length+(L.length+(M2.length+1))=b:=by omega
  refine zg.intro (fun t vs h2=> ∃ (L1 L2:List (T×Nat)),t=L1.length /\ vs=[.int .i64 ((P.length+L1.length:Nat):Int)] /\ L=L1++L2 /\ Rw E (fun p:T×Nat=>cs p.1) h0 h2 x (P++(L1++x0::(L2++(M2++U)))) R /\
   ∀ q∈L2,lt' (ze4 c) x0 q) L.length ?_ ⟨L,[],rfl,by rw [hi],by simp,by simpa using o,by simp⟩
  rintro Z t vs h2 ⟨L1,L2,rfl,rfl,rfl,o2,hx⟩ hZ
  rw [List.pairwise_append] at hs
  have fin:(L1=[] \/ ∃ L0 y,L1=L0++[y] /\ lt' (ze4 c) y x0)->Y [.int .i64 ((i+1:Nat):Int)] h2:=fun hz=>by
   have hlow: ∀ p∈L1,lt' (ze4 c) p x0:=by
    rcases hz with rfl|⟨L0,y,rfl,hy⟩
    ·simp
    ·intro p hpm
     rcases List.mem_append.1 hpm with h1|h1
     ·exact lt'_trans W ((List.pairwise_append.1 hs.1).2.2 p h1 y (by simp)) hy
     ·rw [List.mem_singleton.1 h1];exact hy
   refine hY M2.length _ _ (by simp) ⟨i+1,L1++x0::L2,M2,rfl,rfl,by simp at hi ⊢;omega,by omega,by simpa using o2,?_,?_,ht2.2,?_⟩
   ·refine List.Perm.trans ?_ hp
    simp only [List.append_assoc,List.cons_append]
    refine List.Perm.append_left _ ?_
    exact (List.perm_middle (l₁:=L2) (l₂:=M2) (a:=x0)).symm
   ·rw [List.pairwise_append,List.pairwise_cons]
    refine ⟨hs.1,⟨hx,hs.2.1⟩,fun p h1 q h2=> ?_⟩
    rcases List.mem_cons.1 h2 with rfl|h2
    ·exact hlow p h1
    ·exact hs.2.2 p h1 q h2
   ·intro p h1 q h2
    rcases List.mem_append.1 h1 with h1|h1
    ·exact htt p (List.mem_append_left _ h1) q (List.mem_cons_of_mem _ h2)
    ·rcases List.mem_cons.1 h1 with rfl|h1
     ·exact ht2.1 q h2
     ·exact htt p (List.mem_append_right _ h1) q (List.mem_cons_of_mem _ h2)
  have hll2:i=P.length+(L1.length+L2.length):=by simpa using hi
  simp -dsimp only [zbh.l2,zbh.k1,gtrN,B.zd]
  obtain rfl|⟨L0,y,rfl⟩:=zs0 L1
  ·simp -dsimp [add1 (show i<4611686018427387904 by omega)]
   exact fin (.inl rfl)
  ·have hyx:y.2<x0.2:=htt y (by simp) x0 (by simp)
   have o2':=o2
   simp only [List.append_assoc,List.cons_append,List.nil_append] at o2'
   simp only [List.length_append,List.length_singleton] at hll2 hlen' hll
   have hj:P.length+(L0++[y]).length=P.length+L0.length+1:=by simp [Nat.add_assoc]
   rw [show decide (P.length<P.length+(L0++[y]).length)=true by simp]
   rw [hj]
   simp -dsimp only [B.gd_t,B.zns,B.zde,zjn,sub1 (show 1 <= P.length+L0.length+1 by omega) (by omega),Nat.add_sub_cancel,o2.idx (i:=P.length+L0.length+1) (by simp;omega),o2.idx (i:=P.length+L0.length) (by simp),B.zd]
   have o3:Rw E (fun p:T×Nat=>cs p.1) h0 h2 x ((P++L0)++y::([]++x0::(L2++(M2++U)))) R:=by simpa using o2
   have gy:((P++L0)++y::([]++x0::(L2++(M2++U))))[P.length+L0.length]? =some y:=get_mid (by simp)
   have gx:((P++L0)++y::([]++x0::(L2++(M2++U))))[P.length+L0.length+1]? =some x0:=get_mid2 (by simp)
   refine o3.ld S' gx ?_
   refine o3.ld S' gy ?_
   refine hc.call _ _ _ _ o2.le ?_
   simp -dsimp only [B.gd_t,B.zns,B.zde,zjn,V.zd4,B.zd,B.zgg]
   refine B.zn (fun hb2=> ?_) (fun hb2=> ?_)
   ·simp -dsimp only [sub1 (show 1 <= P.length+L0.length+1 by omega) (by omega),Nat.add_sub_cancel,o2.idx (i:=P.length+L0.length+1) (by simp;omega),o2.idx (i:=P.length+L0.length) (by simp),B.zd]
    refine o3.ld S' gy ?_
    refine o3.ld S' gx ?_
    refine o3.swapDn S' (by simp) (by simp) fun h4 o4=> ?_
    refine hZ L0.length _ _ (by simp) ⟨L0,y::L2,rfl,rfl,by simp,by simpa using o4,?_⟩
    intro q hq2
    rcases List.mem_cons.1 hq2 with rfl|hq2
    ·exact (lt'_gt hyx).2 hb2
    ·exact hx q hq2
   ·simp -dsimp only [add1 (show i<4611686018427387904 by omega),B.zd]
    exact fin (.inr ⟨L0,y,rfl,(lt'_le W hyx).2 hb2⟩)
end
end Go.Ab
namespace Go.Ab
variable {C:CSem} {N:zN}
section
variable {E:zx} {T:Type} {cs:T->List AVal} {v:T->AVal}
def AskSpec (C:CSem) (v:T->AVal) (f:AVal) (p:T->Bool) (h:za):Prop:= ∀ (t:T) (h':za) (K:zQ),h.le h'->K (.bool (p t)) h'->B.zhi h' C f [v t] K
def idxI (p:T->Bool) (L:List T):Int:=match L.findIdx? p with|some i=>(i:Int)|none=> -1
theorem findIdx_first {α:Type} {p:α->Bool} {L:List α} {k:Nat} (hk:k<L.length) (h: ∀ i,i<k-> ∀ a,L[i]? =some a->p a=false) (hp:p L[k]=true):L.findIdx? p=some k:=by
 rw [List.findIdx?_eq_some_iff_getElem]
 exact ⟨hk,hp,fun j hj=>by simp [h j hj _ (List.getElem?_eq_getElem (by omega))]⟩
theorem ztp (S:zdc E cs v) {x f:AVal} {p:T->Bool} {L:List T} {R:List (List AVal)} {h:za} {Q:zQ} (hx:SlX h E.es x (L.map cs) R) (hlen:L.length<4611686018427387904) (hf:AskSpec C v f p h)
  (hq:Q (.int .i64 (idxI p L)) h):zce.cps C E x f h Q:=by
 have e1:=hx.zbj
 rw [List.length_map] at e1
 simp -dsimp only [zce.cps,e1,B.zd]
 refine zg.intro (fun t vs hh=>hh=h /\ ∃ k:Nat,k+t=L.length /\ vs=[.int .i64 (k:Int)] /\ ∀ i,i<k-> ∀ a,L[i]? =some a->p a=false) L.length ?_ ⟨rfl,0,by omega,rfl,fun i hi=>by omega⟩
 rintro Y t vs h ⟨rfl,k,ht,rfl,hno⟩ hY
 simp -dsimp only [zce.l2,zce.k1,lssN,B.zd]
 refine B.zn (fun hb=> ?_) (fun hb=> ?_)<;>simp only [decide_eq_true_eq,decide_eq_false_iff_not] at hb
 ·have hg:(L.map cs)[k]? =some (cs L[k]):=by rw [List.getElem?_map,List.getElem?_eq_getElem hb];rfl
  have hidx:V.idxS E.es x (.int .i64 (k:Int))=some (elp E.es x k 0):=hx.idxN (by simpa using hb)
  simp -dsimp only [hidx,B.zd]
  refine S.ld hx hg ?_
  refine hf _ _ _ (za.le_refl _) ?_
  refine B.zn (fun hc=> ?_) (fun hc=> ?_)
  ·have:idxI p L=(k:Int):=by rw [idxI,findIdx_first hb hno hc]
   rw [this] at hq;exact hq
  ·simp -dsimp only [add1 (show k<4611686018427387904 by omega),B.zd]
   refine hY (L.length-(k+1)) _ _ (by omega) ⟨rfl,k+1,by omega,rfl,fun i hi a ha=> ?_⟩
   by_cases e:i=k
   ·subst e;rw [List.getElem?_eq_getElem hb] at ha;cases ha;exact hc
   ·exact hno i (by omega) a ha
 ·have:idxI p L= -1:=by
   have:L.findIdx? p=none:=by
    rw [List.findIdx?_eq_none_iff]
    intro a ha
    obtain ⟨j,hj,rfl⟩:=List.getElem_of_mem ha
    exact hno j (by omega) _ (List.getElem?_eq_getElem hj)
   rw [idxI,this]
  rw [this] at hq;exact hq
end
end Go.Ab
namespace Go.Ab
variable {C:CSem}
structure zcp {X:Type} (a b:Nat) (G G':List X):Prop where
 perm:G'.Perm G
 out: ∀ i,i<a \/ b <= i->G'[i]? =G[i]?
theorem zcp.refl {X:Type} (a b:Nat) (G:List X):zcp a b G G:=⟨.refl _,fun _ _=>rfl⟩
theorem zcp.trans {X:Type} {a b:Nat} {G G' G'':List X} (x:zcp a b G G') (y:zcp a b G' G''):zcp a b G G'':=⟨y.perm.trans x.perm,fun i hi=>(y.out i hi).trans (x.out i hi)⟩
theorem zcp.mono {X:Type} {a b a' b':Nat} {G G':List X} (x:zcp a b G G') (ha:a' <= a) (hb:b <= b'):zcp a' b' G G':=⟨x.perm,fun i hi=>x.out i (by omega)⟩
theorem zcp.len {X:Type} {a b:Nat} {G G':List X} (x:zcp a b G G'):G'.length=G.length:=x.perm.length_eq
theorem zcp.same {X:Type} {a b:Nat} {G G':List X} (w:zcp a b G G') {k:Nat} (hk:k<a \/ b <= k) (h1:k<G'.length) (h2:k<G.length):G'[k]=G[k]:=by
 have:=w.out k hk
 rw [List.getElem?_eq_getElem h1,List.getElem?_eq_getElem h2] at this
 exact Option.some.inj this
def swp {X:Type} (G:List X) (i j:Nat) (hi:i<G.length) (hj:j<G.length):List X:=(G.set i G[j]).set j G[i]
theorem swp_perm {X:Type} {G:List X} {i j:Nat} (hi:i<G.length) (hj:j<G.length):(swp G i j hi hj).Perm G:=by
 unfold swp
 exact List.set_set_perm hi hj
theorem swp_get {X:Type} {G:List X} {i j:Nat} (hi:i<G.length) (hj:j<G.length) (k:Nat):(swp G i j hi hj)[k]? =if k=j then some G[i] else if k=i then some G[j] else G[k]? :=by
 unfold swp
 rw [List.getElem?_set]
 by_cases e:j=k
 ·subst e;simp [hj]
 ·rw [if_neg e,if_neg (Ne.symm e),List.getElem?_set]
  by_cases e2:i=k
  ·subst e2;simp [hi]
  ·rw [if_neg e2,if_neg (Ne.symm e2)]
theorem zef {X:Type} {G:List X} {i j a b:Nat} (hi:i<G.length) (hj:j<G.length) (h1:a <= i) (h2:i<b) (h3:a <= j) (h4:j<b):zcp a b G (swp G i j hi hj):=⟨swp_perm hi hj,fun k hk=>by
 rw [swp_get,if_neg (by omega),if_neg (by omega)]⟩
section
variable {E:zx} {X:Type} {cs:X->List AVal} {v:X->AVal} {h0 h:za} {x f:AVal} {G:List X} {R:List (List AVal)} {c:X->X->Int}
theorem Rw.swap (ho:Rw E cs h0 h x G R) (S:zdc E cs v) {i j:Nat} (hi:i<G.length) (hj:j<G.length) {K:za->Prop} (hk: ∀ h',Rw E cs h0 h' x (swp G i j hi hj) R->K h'):
  E.st h (elp E.es x i 0) (v G[j]) fun h=>E.st h (elp E.es x j 0) (v G[i]) K:=by
 refine ho.st S (t:=G[j]) hi fun h1 o1=> ?_
 exact o1.st S (t:=G[i]) (by simpa using hj) fun h2 o2=>hk h2 o2
theorem ziz (S:zdc E cs v) (hx:SlX h0 E.es x (G.map cs) R) (hc:zd0 C v c f h0) {p:AVal} {n:Int} (ho:Owns h0 h [.box p [.int .i64 n]]) {i j:Nat} (hi:i<G.length) (hj:j<G.length) {Q:zQ}
  (hq: ∀ (i' j':Nat) (n':Int) h',(i'=i \/ i'=j)->(j'=i \/ j'=j)->Owns h0 h' [.box p [.int .i64 n']]->Q (.tup [.int .i64 (i':Int),.int .i64 (j':Int)]) h'):zfg.cps C E x (.int .i64 (i:Int)) (.int .i64 (j:Int)) p f h Q:=by
 have hxx:=hx.mono ho.le
 have ii:V.idxS E.es x (.int .i64 (i:Int))=some (elp E.es x i 0):=hxx.idxN (by simpa using hi)
 have ij:V.idxS E.es x (.int .i64 (j:Int))=some (elp E.es x j 0):=hxx.idxN (by simpa using hj)
 have gi:(G.map cs)[i]? =some (cs G[i]):=by rw [List.getElem?_map,List.getElem?_eq_getElem hi];rfl
 have gj:(G.map cs)[j]? =some (cs G[j]):=by rw [List.getElem?_map,List.getElem?_eq_getElem hj];rfl
 obtain ⟨id,rfl,hb⟩:=ho.zqc 0 rfl
 have ld:A.ldv h (.ptr id 0 0)=some (.int .i64 n):=by rw [zl3 hb];rfl
 simp -dsimp only [zfg.cps,zfg.k1,ij,B.zd]
 refine S.ld hxx gj ?_
 simp -dsimp only [ii,B.zd]
 refine S.ld hxx gi ?_
 refine hc.call _ _ _ _ ho.le ?_
 simp -dsimp only [V.zd4,B.zd]
 refine B.zn (fun hd=> ?_) (fun hd=> ?_)
 ·simp -dsimp only [B.zi5,B.zg0,ld,V.zfa,B.zd]
  refine ho.ztt 0 (off:=0) rfl rfl (by simp) fun h2 o2 _=> ?_
  exact hq j i _ h2 (.inr rfl) (.inl rfl) (by simpa using o2)
 ·exact hq i j n h (.inl rfl) (.inr rfl) ho
abbrev O2I (C:CSem) (E:zx) (f1:Nat):Prop:= ∀ (v0 v1 v2 v3 v4:AVal) (h:za) (Q:zQ),zfg.cps C E v0 v1 v2 v3 v4 h (dn Q)->C f1 [v0,v1,v2,v3,v4] h Q
abbrev MedI (C:CSem) (E:zx) (f1 f2:Nat):Prop:= ∀ (v0 v1 v2 v3 v4 v5:AVal) (h:za) (Q:zQ),zfh.cps C E f1 v0 v1 v2 v3 v4 v5 h (dn Q)->C f2 [v0,v1,v2,v3,v4,v5] h Q
abbrev AdjI (C:CSem) (E:zx) (f2 f3:Nat):Prop:= ∀ (v0 v1 v2 v3:AVal) (h:za) (Q:zQ),zea.cps C E f2 v0 v1 v2 v3 h (dn Q)->C f3 [v0,v1,v2,v3] h Q
theorem zi0 {f1:Nat} (io:O2I C E f1) (S:zdc E cs v) (hx:SlX h0 E.es x (G.map cs) R) (hc:zd0 C v c f h0) {p:AVal} {n:Int} (ho:Owns h0 h [.box p [.int .i64 n]]) {i j k:Nat} (hi:i<G.length) (hj:j<G.length) (hk:k<G.length) {Q:zQ}
  (hq: ∀ (m:Nat) (n':Int) h',(m=i \/ m=j \/ m=k)->Owns h0 h' [.box p [.int .i64 n']]->Q (.int .i64 (m:Int)) h'):zfh.cps C E f1 x (.int .i64 (i:Int)) (.int .i64 (j:Int)) (.int .i64 (k:Int)) p f h Q:=by
 simp -dsimp only [zfh.cps,zfh.k1]
 refine io _ _ _ _ _ _ _ (ziz S hx hc ho hi hj fun a b n1 h1 ha hb o1=>zbe ?_)
 simp -dsimp only [V.zg8,List.getElem?_cons_zero,List.getElem?_cons_succ,B.zd]
 have la:a<G.length:=by rcases ha with rfl|rfl<;>assumption
 have lb:b<G.length:=by rcases hb with rfl|rfl<;>assumption
 refine io _ _ _ _ _ _ _ (ziz S hx hc o1 lb hk fun a2 b2 n2 h2 ha2 hb2 o2=>zbe ?_)
 simp -dsimp only [V.zg8,List.getElem?_cons_zero,List.getElem?_cons_succ,B.zd]
 have la2:a2<G.length:=by rcases ha2 with rfl|rfl<;>assumption
 refine io _ _ _ _ _ _ _ (ziz S hx hc o2 la la2 fun a3 b3 n3 h3 ha3 hb3 o3=>zbe ?_)
 simp -dsimp only [V.zg8,List.getElem?_cons_zero,List.getElem?_cons_succ,B.zd]
 refine hq b3 n3 h3 ?_ o3
 omega
theorem zfr {f1 f2:Nat} (io:O2I C E f1) (im:MedI C E f1 f2) (S:zdc E cs v) (hx:SlX h0 E.es x (G.map cs) R) (hc:zd0 C v c f h0) {p:AVal} {n:Int} (ho:Owns h0 h [.box p [.int .i64 n]]) {i:Nat} (hi:0<i) (hi2:i+1<G.length) (hl:G.length<4611686018427387904) {Q:zQ}
  (hq: ∀ (m:Nat) (n':Int) h',i-1 <= m->m <= i+1->Owns h0 h' [.box p [.int .i64 n']]->Q (.int .i64 (m:Int)) h'):zea.cps C E f2 x (.int .i64 (i:Int)) p f h Q:=by
 have e1:V.bin .sub (.int .i64 (i:Int)) (.int .i64 1)=some (.int .i64 ((i-1:Nat):Int)):=by
  rw [V.zh6,wrap_i64 (by omega) (by omega)];congr 2;omega
 simp -dsimp only [zea.cps,zea.k1,e1,add1 (show i<4611686018427387904 by omega),B.zd]
 exact im _ _ _ _ _ _ _ _ (zi0 io S hx hc ho (by omega) (by omega) hi2 fun m n' h' hm o'=>zbe (hq m n' h' (by omega) (by omega) o'))
theorem zjy (S:zdc E cs v) (hl:G.length<4611686018427387904) (ho:Rw E cs h0 h x G R) {a b:Nat} (hab:a<b) (hb:b <= G.length) {Q:zQ} (hq: ∀ h' G',zcp a b G G'->Rw E cs h0 h' x G' R->Q (.tup []) h'):
  zcv.cps C E x (.int .i64 (a:Int)) (.int .i64 (b:Int)) f h Q:=by
 have e1:V.bin .sub (.int .i64 (b:Int)) (.int .i64 1)=some (.int .i64 ((b-1:Nat):Int)):=by
  rw [V.zh6,wrap_i64 (by omega) (by omega)];congr 2;omega
 simp -dsimp only [zcv.cps,e1,B.zd]
 refine zg.intro (fun t vs hh=> ∃ (i j:Nat) (G':List X),t=j /\ vs=[.int .i64 (i:Int),.int .i64 (j:Int)] /\ a <= i /\ j<b /\ zcp a b G G' /\ Rw E cs h0 hh x G' R) (b-1) ?_ ⟨a,b-1,G,rfl,rfl,Nat.le_refl _,by omega,zcp.refl _ _ _,ho⟩
 rintro Y j vs hh ⟨i,_,G',rfl,rfl,hi,hj,W,o⟩ hY
 simp -dsimp only [zcv.l2,zcv.k1,lssN,B.zd]
 have hlen:=W.len
 refine B.zn (fun hc=> ?_) (fun hc=>hq hh G' W o)
 rw [decide_eq_true_eq] at hc
 have li:i<G'.length:=by omega
 have lj:j<G'.length:=by omega
 simp -dsimp only [o.idx lj,B.zd]
 refine o.ld S (List.getElem?_eq_getElem lj) ?_
 simp -dsimp only [o.idx li,B.zd]
 refine o.ld S (List.getElem?_eq_getElem li) ?_
 have ij:=o.idx lj
 refine o.st S (t:=G'[j]) li fun h1 o1=> ?_
 simp -dsimp only [ij,B.zd]
 refine o1.st S (t:=G'[i]) (by simpa using lj) fun h2 o2=> ?_
 have e2:V.bin .sub (.int .i64 (j:Int)) (.int .i64 1)=some (.int .i64 ((j-1:Nat):Int)):=by
  rw [V.zh6,wrap_i64 (by omega) (by omega)];congr 2;omega
 simp -dsimp only [add1 (show i<4611686018427387904 by omega),e2,B.zd]
 exact hY (j-1) _ _ (by omega) ⟨i+1,j-1,_,rfl,rfl,by omega,by omega,W.trans (zef li lj hi (by omega) (by omega) hj),o2⟩
theorem quo4 {a:Nat} (h:a<4611686018427387904):V.bin .quo (.int .i64 (a:Int)) (.int .i64 4)=some (.int .i64 ((a / 4:Nat):Int)):=by
 rw [V.zmr _ _ _ (by omega),show (a:Int).tdiv 4=((a / 4:Nat):Int) from rfl,wrap_i64 (by omega) (by omega)]
theorem mulN {a b:Nat} (h:a*b<4611686018427387904):V.bin .mul (.int .i64 (a:Int)) (.int .i64 (b:Int))=some (.int .i64 ((a*b:Nat):Int)):=by
 rw [V.bin_mul,show (a:Int)*(b:Int)=((a*b:Nat):Int) by simp,wrap_i64 (by omega) (by omega)]
theorem zj6 {a b:Nat} (h:a+b<4611686018427387904):V.bin .add (.int .i64 (a:Int)) (.int .i64 (b:Int))=some (.int .i64 ((a+b:Nat):Int)):=by
 rw [V.zfa,show (a:Int)+(b:Int)=((a+b:Nat):Int) by simp,wrap_i64 (by omega) (by omega)]
theorem zg4 {a b:Nat} (h:b <= a) (h2:a<4611686018427387904):V.bin .sub (.int .i64 (a:Int)) (.int .i64 (b:Int))=some (.int .i64 ((a-b:Nat):Int)):=by
 rw [V.zh6,show (a:Int)-(b:Int)=((a-b:Nat):Int) by omega,wrap_i64 (by omega) (by omega)]
theorem geqN {a b:Nat}:V.bin .geq (.int .i64 (a:Int)) (.int .i64 (b:Int))=some (.bool (decide (b <= a))):=by rw [V.zjr];congr 3;exact propext (by omega)
theorem zkd {f1 f2 f3:Nat} (io:O2I C E f1) (im:MedI C E f1 f2) (ia:AdjI C E f2 f3) (S:zdc E cs v) (hx:SlX h E.es x (G.map cs) R) (h0le:h0.le h) (hc:zd0 C v c f h0) (hl:G.length <= 100000000) {a b:Nat} (hab:a+8 <= b) (hb:b <= G.length) {Q:zQ}
  (hq: ∀ (m:Nat) (hint:Int) h',a <= m->m<b->h.le h'->Q (.tup [.int .i64 (m:Int),.int .i64 hint]) h'):zp.cps C E f2 f3 x (.int .i64 (a:Int)) (.int .i64 (b:Int)) f h Q:=by
 have e1:=zg4 (a:=b) (b:=a) (by omega) (by omega)
 simp -dsimp only [zp.cps,e1,B.zd]
 intro id hid
 have o:=(Owns.start h).zq9 hid [.int .i64 0]
 simp only [List.nil_append] at o
 have q4:=quo4 (a:=b-a) (by omega)
 have m1:=mulN (a:=(b-a) / 4) (b:=1) (by omega)
 have m2:=mulN (a:=(b-a) / 4) (b:=2) (by omega)
 have m3:=mulN (a:=(b-a) / 4) (b:=3) (by omega)
 have a1:=zj6 (a:=a) (b:=(b-a) / 4*1) (by omega)
 have a2:=zj6 (a:=a) (b:=(b-a) / 4*2) (by omega)
 have a3:=zj6 (a:=a) (b:=(b-a) / 4*3) (by omega)
 have g8:V.bin .geq (.int .i64 ((b-a:Nat):Int)) (.int .i64 8)=some (.bool true):=by rw [V.zjr,decide_eq_true (by omega)]
 have hc':zd0 C v c f h:=⟨fun h2 s t K hle hk=>hc.call h2 s t K (za.le_trans h0le hle) hk⟩
 simp -dsimp only [zp.k6,zp.k5,zp.k4,zp.k3,q4,B.zd]
 have m1':V.bin .mul (.int .i64 (((b-a) / 4:Nat):Int)) (.int .i64 1)=some (.int .i64 (((b-a) / 4*1:Nat):Int)):=m1
 have m2':V.bin .mul (.int .i64 (((b-a) / 4:Nat):Int)) (.int .i64 2)=some (.int .i64 (((b-a) / 4*2:Nat):Int)):=m2
 have m3':V.bin .mul (.int .i64 (((b-a) / 4:Nat):Int)) (.int .i64 3)=some (.int .i64 (((b-a) / 4*3:Nat):Int)):=m3
 simp -dsimp only [q4,m1',m2',m3',a1,a2,a3,g8,B.cond_true,zp.k5,zp.k4,zp.k3,zp.k2,B.zd]
 have fin: ∀ (m:Nat) (n':Int) h',a <= m->m<b->Owns h h' [.box (.ptr id 0 0) [.int .i64 n']]->zp.k1 C E f2 f3 Q (.ptr id 0 0) (.int .i64 (m:Int)) h':=fun m n' h' k1 k2 o'=>by
  obtain ⟨id',e,hb'⟩:=o'.zqc 0 rfl
  cases e
  have ld:A.ldv h' (.ptr id 0 0)=some (.int .i64 n'):=by rw [zl3 hb'];rfl
  simp -dsimp only [zp.k1,B.zg0,ld,V.zhf,B.zd]
  refine B.zn (fun _=>hq m _ h' k1 k2 o'.le) (fun _=> ?_)
  refine B.zn (fun _=>hq m _ h' k1 k2 o'.le) (fun _=>hq m _ h' k1 k2 o'.le)
 have g50:V.bin .geq (.int .i64 ((b-a:Nat):Int)) (.int .i64 50)=some (.bool (decide (50 <= b-a))):=geqN (b:=50)
 simp -dsimp only [g50,B.zd]
 refine B.zn (fun hd=> ?_) (fun hd=> ?_)
 ·rw [decide_eq_true_eq] at hd
  refine ia _ _ _ _ _ _ (zfr io im S hx hc' o (by omega) (by omega) (by omega) fun i n1 h1 i1 i2 o1=>zbe ?_)
  refine ia _ _ _ _ _ _ (zfr io im S hx hc' o1 (by omega) (by omega) (by omega) fun j n2 h2 j1 j2 o2=>zbe ?_)
  refine ia _ _ _ _ _ _ (zfr io im S hx hc' o2 (by omega) (by omega) (by omega) fun k n3 h3 k1 k2 o3=>zbe ?_)
  refine im _ _ _ _ _ _ _ _ (zi0 io S hx hc' o3 (by omega) (by omega) (by omega) fun m n4 h4 hm o4=>zbe ?_)
  exact fin m n4 h4 (by omega) (by omega) o4
 ·refine im _ _ _ _ _ _ _ _ (zi0 io S hx hc' o (by omega) (by omega) (by omega) fun m n4 h4 hm o4=>zbe ?_)
  exact fin m n4 h4 (by omega) (by omega) o4
end
end Go.Ab
namespace Go.Ab
@[simp] def zdj.k1 (C:CSem) (E:zx) (C0:CSem) (fL:Nat) (Q:zQ) (Y1:zL) (Y2:zL) (v0 v1 v2 v3 v8 v9:AVal) (h:za):Prop:=
 B.pv (V.bin .gtr v9 v1) fun v20=>
  B.gd h v20 true (fun K=>K v0 h) fun v23 h=>
  B.gd h v20 true (fun K=>K v9 h) fun v24 h=>
  B.gd h v20 true (fun K=>B.pv (V.idxS E.es v23 v24) fun v=>K v h) fun v25 h=>
  B.gd h v20 true (fun K=>E.ld h v25 fun v=>K v h) fun v26 h=>
  B.gd h v20 true (fun K=>K v0 h) fun v27 h=>
  B.gd h v20 true (fun K=>K v9 h) fun v28 h=>
  B.gd h v20 true (fun K=>B.pv (V.bin .sub v28 (.int .i64 1)) fun v=>K v h) fun v29 h=>
  B.gd h v20 true (fun K=>B.pv (V.idxS E.es v27 v29) fun v=>K v h) fun v30 h=>
  B.gd h v20 true (fun K=>E.ld h v30 fun v=>K v h) fun v31 h=>
  B.gd h v20 true (fun K=>B.call C0 fL [v26,v31] h K) fun v33 h=>
  B.pick v20 v33 (.bool false) fun v34=>
  B.cond v34
  (B.pv (V.bin .sub v9 (.int .i64 1)) fun v41=>
  B.pv (V.bin .sub v9 (.int .i64 1)) fun v44=>
  B.pv (V.idxS E.es v0 v44) fun v45=>
  E.ld h v45 fun v46=>
  B.pv (V.idxS E.es v0 v9) fun v49=>
  E.ld h v49 fun v50=>
  B.pv (V.idxS E.es v0 v9) fun v51=>
  E.st h v51 v46 fun h=>
  B.pv (V.idxS E.es v0 v41) fun v52=>
  E.st h v52 v50 fun h=>
  B.pv (V.bin .sub v9 (.int .i64 1)) fun v36=>
  Y2 [v36] h)
  (B.pv (V.bin .add v8 (.int .i64 1)) fun v16=>
  Y1 [v16] h)
@[simp] def zdj.l2 (C:CSem) (E:zx) (C0:CSem) (fL:Nat) (Q:zQ) (Y1:zL) (v0 v1 v2 v3 v8:AVal):zG
 | [v9],h,Y2=>zdj.k1 C E C0 fL Q Y1 Y2 v0 v1 v2 v3 v8 v9 h
 | _,_,_=>False
@[simp] def zdj.l3 (C:CSem) (E:zx) (C0:CSem) (fL:Nat) (Q:zQ) (v0 v1 v2 v3:AVal):zG
 | [v8],h,Y1=>B.pv (V.bin .lss v8 v2) fun v14=>
  B.cond v14
  (zg (zdj.l2 C E C0 fL Q Y1 v0 v1 v2 v3 v8) [v8] h)
  (Q (.tup []) h)
 | _,_,_=>False
@[simp] def zdj.cps (C:CSem) (E:zx) (C0:CSem) (fL:Nat) (v0 v1 v2 v3:AVal) (h:za) (Q:zQ):Prop:=
 B.pv (V.bin .add v1 (.int .i64 1)) fun v11=>
  zg (zdj.l3 C E C0 fL Q v0 v1 v2 v3) [v11] h
@[simp] def zbt.k1 (C:CSem) (E:zx) (C0:CSem) (fL:Nat) (f1 f2 f3 f4 f5 f6 f7 f8 f9:Nat) (Q:zQ) (Y1:zL) (v0 v1 v2 v3 v4 v10 v11 v12 v13:AVal) (h:za):Prop:=
 B.pv (V.bin .gtr v1 (.int .i64 0)) fun v82=>
  B.gd h v82 true (fun K=>K v0 h) fun v85 h=>
  B.gd h v82 true (fun K=>K v1 h) fun v86 h=>
  B.gd h v82 true (fun K=>B.pv (V.bin .sub v86 (.int .i64 1)) fun v=>K v h) fun v87 h=>
  B.gd h v82 true (fun K=>B.pv (V.idxS E.es v85 v87) fun v=>K v h) fun v88 h=>
  B.gd h v82 true (fun K=>E.ld h v88 fun v=>K v h) fun v89 h=>
  B.gd h v82 true (fun K=>K v0 h) fun v90 h=>
  B.gd h v82 true (fun K=>K v13 h) fun v91 h=>
  B.gd h v82 true (fun K=>B.pv (V.idxS E.es v90 v91) fun v=>K v h) fun v92 h=>
  B.gd h v82 true (fun K=>E.ld h v92 fun v=>K v h) fun v93 h=>
  B.gd h v82 true (fun K=>B.call C0 fL [v89,v93] h K) fun v95 h=>
  B.gd h v82 true (fun K=>B.pv (V.un .not v95) fun v=>K v h) fun v96 h=>
  B.pick v82 v96 (.bool false) fun v97=>
  B.cond v97
  (B.call C f1 [v0,v1,v2,v13,v4] h fun v103 h=>
  Y1 [v103,v2,v3,v10,v11] h)
  (B.call C f2 [v0,v1,v2,v13,v4] h fun v111 h=>
  B.pv (V.ext 0 v111) fun v112=>
  B.pv (V.ext 1 v111) fun v113=>
  B.pv (V.bin .sub v112 v1) fun v117=>
  B.pv (V.bin .sub v2 v112) fun v120=>
  B.pv (V.bin .quo v12 (.int .i64 8)) fun v122=>
  B.pv (V.bin .lss v117 v120) fun v125=>
  B.cond v125
  (B.pv (V.bin .geq v117 v122) fun v128=>
  B.call C f3 [v0,v1,v112,v3,v4] h fun v134 h=>
  B.pv (V.bin .add v112 (.int .i64 1)) fun v136=>
  Y1 [v136,v2,v3,v128,v113] h)
  (B.pv (V.bin .geq v120 v122) fun v139=>
  B.pv (V.bin .add v112 (.int .i64 1)) fun v142=>
  B.call C f3 [v0,v142,v2,v3,v4] h fun v146 h=>
  Y1 [v1,v112,v3,v139,v113] h))
@[simp] def zbt.k2 (C:CSem) (E:zx) (C0:CSem) (fL:Nat) (f1 f2 f3 f4 f5 f6 f7 f8 f9:Nat) (Q:zQ) (Y1:zL) (v0 v1 v2 v3 v4 v10 v11 v12 v13 v14:AVal) (h:za):Prop:=
 B.gd h v10 true (fun K=>K v11 h) fun v70 h=>
  B.pick v10 v70 (.bool false) fun v71=>
  B.gd h v71 true (fun K=>K v14 h) fun v73 h=>
  B.gd h v71 true (fun K=>B.pv (V.bin .eql v73 (.int .i64 1)) fun v=>K v h) fun v74 h=>
  B.pick v71 v74 (.bool false) fun v75=>
  B.cond v75
  (B.call C f4 [v0,v1,v2,v4] h fun v80 h=>
  B.cond v80
  (Q (.tup []) h)
  (zbt.k1 C E C0 fL f1 f2 f3 f4 f5 f6 f7 f8 f9 Q Y1 v0 v1 v2 v3 v4 v10 v11 v12 v13 h))
  (zbt.k1 C E C0 fL f1 f2 f3 f4 f5 f6 f7 f8 f9 Q Y1 v0 v1 v2 v3 v4 v10 v11 v12 v13 h)
@[simp] def zbt.k3 (C:CSem) (E:zx) (C0:CSem) (fL:Nat) (f1 f2 f3 f4 f5 f6 f7 f8 f9:Nat) (Q:zQ) (Y1:zL) (v0 v1 v2 v3 v4 v10 v11 v12 v13 v14:AVal) (h:za):Prop:=
 B.pv (V.bin .eql v14 (.int .i64 2)) fun v56=>
  B.cond v56
  (B.call C f5 [v0,v1,v2,v4] h fun v61 h=>
  B.pv (V.bin .sub v2 (.int .i64 1)) fun v63=>
  B.pv (V.bin .sub v13 v1) fun v66=>
  B.pv (V.bin .sub v63 v66) fun v67=>
  zbt.k2 C E C0 fL f1 f2 f3 f4 f5 f6 f7 f8 f9 Q Y1 v0 v1 v2 v3 v4 v10 v11 v12 v67 (.int .i64 1) h)
  (zbt.k2 C E C0 fL f1 f2 f3 f4 f5 f6 f7 f8 f9 Q Y1 v0 v1 v2 v3 v4 v10 v11 v12 v13 v14 h)
@[simp] def zbt.k4 (C:CSem) (E:zx) (C0:CSem) (fL:Nat) (f1 f2 f3 f4 f5 f6 f7 f8 f9:Nat) (Q:zQ) (Y1:zL) (v0 v1 v2 v3 v4 v10 v11 v12:AVal) (h:za):Prop:=
 B.call C f6 [v0,v1,v2,v4] h fun v52 h=>
  B.pv (V.ext 0 v52) fun v53=>
  B.pv (V.ext 1 v52) fun v54=>
  zbt.k3 C E C0 fL f1 f2 f3 f4 f5 f6 f7 f8 f9 Q Y1 v0 v1 v2 v3 v4 v10 v11 v12 v53 v54 h
@[simp] def zbt.k5 (C:CSem) (E:zx) (C0:CSem) (fL:Nat) (f1 f2 f3 f4 f5 f6 f7 f8 f9:Nat) (Q:zQ) (Y1:zL) (v0 v1 v2 v3 v4 v10 v11 v12:AVal) (h:za):Prop:=
 B.pv (V.un .not v10) fun v39=>
  B.cond v39
  (B.call C f7 [v0,v1,v2,v4] h fun v44 h=>
  B.pv (V.bin .sub v3 (.int .i64 1)) fun v46=>
  zbt.k4 C E C0 fL f1 f2 f3 f4 f5 f6 f7 f8 f9 Q Y1 v0 v1 v2 v46 v4 v10 v11 v12 h)
  (zbt.k4 C E C0 fL f1 f2 f3 f4 f5 f6 f7 f8 f9 Q Y1 v0 v1 v2 v3 v4 v10 v11 v12 h)
@[simp] def zbt.k6 (C:CSem) (E:zx) (C0:CSem) (fL:Nat) (f1 f2 f3 f4 f5 f6 f7 f8 f9:Nat) (Q:zQ) (Y1:zL) (v0 v1 v2 v3 v4 v10 v11 v12:AVal) (h:za):Prop:=
 B.pv (V.bin .eql v3 (.int .i64 0)) fun v32=>
  B.cond v32
  (B.call C f8 [v0,v1,v2,v4] h fun v37 h=>
  Q (.tup []) h)
  (zbt.k5 C E C0 fL f1 f2 f3 f4 f5 f6 f7 f8 f9 Q Y1 v0 v1 v2 v3 v4 v10 v11 v12 h)
@[simp] def zbt.k7 (C:CSem) (E:zx) (C0:CSem) (fL:Nat) (f1 f2 f3 f4 f5 f6 f7 f8 f9:Nat) (Q:zQ) (Y1:zL) (v0 v1 v2 v3 v4 v10 v11 v12:AVal) (h:za):Prop:=
 B.pv (V.bin .leq v12 (.int .i64 12)) fun v25=>
  B.cond v25
  (B.call C f9 [v0,v1,v2,v4] h fun v30 h=>
  Q (.tup []) h)
  (zbt.k6 C E C0 fL f1 f2 f3 f4 f5 f6 f7 f8 f9 Q Y1 v0 v1 v2 v3 v4 v10 v11 v12 h)
@[simp] def zbt.l8 (C:CSem) (E:zx) (C0:CSem) (fL:Nat) (f1 f2 f3 f4 f5 f6 f7 f8 f9:Nat) (Q:zQ) (v0 v4:AVal):zG
 | [v1,v2,v3,v10,v11],h,Y1=>B.pv (V.bin .sub v2 v1) fun v23=>
  zbt.k7 C E C0 fL f1 f2 f3 f4 f5 f6 f7 f8 f9 Q Y1 v0 v1 v2 v3 v4 v10 v11 v23 h
 | _,_,_=>False
@[simp] def zbt.cps (C:CSem) (E:zx) (C0:CSem) (fL:Nat) (f1 f2 f3 f4 f5 f6 f7 f8 f9:Nat) (v0 v1 v2 v3 v4:AVal) (h:za) (Q:zQ):Prop:=
 zg (zbt.l8 C E C0 fL f1 f2 f3 f4 f5 f6 f7 f8 f9 Q v0 v4) [v1,v2,v3,(.bool true),(.bool true)] h
@[simp] def zdr.k1 (C:CSem) (E:zx) (C0:CSem) (fL:Nat) (f1:Nat) (Q:zQ) (Y1:zL) (v0 v3 v8 v9 v12:AVal) (h:za):Prop:=
 B.pv (V.bin .geq v12 (.int .i64 0)) fun v33=>
  B.cond v33
  (B.pv (V.bin .add v8 v12) fun v41=>
  B.pv (V.bin .add v8 v12) fun v45=>
  B.pv (V.idxS E.es v0 v45) fun v46=>
  E.ld h v46 fun v47=>
  B.pv (V.idxS E.es v0 v8) fun v50=>
  E.ld h v50 fun v51=>
  B.pv (V.idxS E.es v0 v8) fun v52=>
  E.st h v52 v47 fun h=>
  B.pv (V.idxS E.es v0 v41) fun v53=>
  E.st h v53 v51 fun h=>
  B.call C f1 [v0,v9,v12,v8,v3] h fun v59 h=>
  B.pv (V.bin .sub v12 (.int .i64 1)) fun v35=>
  Y1 [v35] h)
  (Q (.tup []) h)
@[simp] def zdr.l2 (C:CSem) (E:zx) (C0:CSem) (fL:Nat) (f1:Nat) (Q:zQ) (v0 v3 v8 v9:AVal):zG
 | [v12],h,Y1=>zdr.k1 C E C0 fL f1 Q Y1 v0 v3 v8 v9 v12 h
 | _,_,_=>False
@[simp] def zdr.k3 (C:CSem) (E:zx) (C0:CSem) (fL:Nat) (f1:Nat) (Q:zQ) (Y2:zL) (v0 v3 v8 v9 v10 v11:AVal) (h:za):Prop:=
 B.pv (V.bin .geq v11 (.int .i64 0)) fun v21=>
  B.cond v21
  (B.call C f1 [v0,v11,v10,v8,v3] h fun v29 h=>
  B.pv (V.bin .sub v11 (.int .i64 1)) fun v23=>
  Y2 [v23] h)
  (B.pv (V.bin .sub v10 (.int .i64 1)) fun v31=>
  zg (zdr.l2 C E C0 fL f1 Q v0 v3 v8 v9) [v31] h)
@[simp] def zdr.l4 (C:CSem) (E:zx) (C0:CSem) (fL:Nat) (f1:Nat) (Q:zQ) (v0 v3 v8 v9 v10:AVal):zG
 | [v11],h,Y2=>zdr.k3 C E C0 fL f1 Q Y2 v0 v3 v8 v9 v10 v11 h
 | _,_,_=>False
@[simp] def zdr.k5 (C:CSem) (E:zx) (C0:CSem) (fL:Nat) (f1:Nat) (Q:zQ) (v0 v3 v8 v9 v10:AVal) (h:za):Prop:=
 B.pv (V.bin .sub v10 (.int .i64 1)) fun v18=>
  B.pv (V.bin .quo v18 (.int .i64 2)) fun v19=>
  zg (zdr.l4 C E C0 fL f1 Q v0 v3 v8 v9 v10) [v19] h
@[simp] def zdr.cps (C:CSem) (E:zx) (C0:CSem) (fL:Nat) (f1:Nat) (v0 v1 v2 v3:AVal) (h:za) (Q:zQ):Prop:=
 B.pv (V.bin .sub v2 v1) fun v16=>
  zdr.k5 C E C0 fL f1 Q v0 v3 v1 (.int .i64 0) v16 h
@[simp] def zbd.k1 (C:CSem) (E:zx) (C0:CSem) (fL:Nat) (f1 f2:Nat) (Q:zQ) (Y1:zL) (v0 v1 v8 v9 v10 v11 v12:AVal) (h:za):Prop:=
 B.pv (V.bin .add v1 v12) fun v54=>
  B.pv (V.bin .add v1 v12) fun v58=>
  B.pv (V.idxS E.es v0 v58) fun v59=>
  E.ld h v59 fun v60=>
  B.pv (V.idxS E.es v0 v11) fun v63=>
  E.ld h v63 fun v64=>
  B.pv (V.idxS E.es v0 v11) fun v65=>
  E.st h v65 v60 fun h=>
  B.pv (V.idxS E.es v0 v54) fun v66=>
  E.st h v66 v64 fun h=>
  B.pv (V.bin .add v11 (.int .i64 1)) fun v37=>
  Y1 [v37] h
@[simp] def zbd.k2 (C:CSem) (E:zx) (C0:CSem) (fL:Nat) (f1 f2:Nat) (Q:zQ) (Y1:zL) (v0 v1 v8 v9 v10 v11 v12:AVal) (h:za):Prop:=
 B.pv (V.bin .geq v12 v8) fun v45=>
  B.cond v45
  (B.pv (V.bin .sub v12 v8) fun v48=>
  zbd.k1 C E C0 fL f1 f2 Q Y1 v0 v1 v8 v9 v10 v11 v48 h)
  (zbd.k1 C E C0 fL f1 f2 Q Y1 v0 v1 v8 v9 v10 v11 v12 h)
@[simp] def zbd.k3 (C:CSem) (E:zx) (C0:CSem) (fL:Nat) (f1 f2:Nat) (Q:zQ) (Y1:zL) (v0 v1 v8 v9 v10 v11:AVal) (h:za):Prop:=
 B.call C0 f1 [v9] h fun v38 h=>
  B.pv (V.bin .sub v10 (.int .u64 1)) fun v40=>
  B.pv (V.bin .and v38 v40) fun v41=>
  B.pv (V.toInt .i64 v41) fun v42=>
  zbd.k2 C E C0 fL f1 f2 Q Y1 v0 v1 v8 v9 v10 v11 v42 h
@[simp] def zbd.k4 (C:CSem) (E:zx) (C0:CSem) (fL:Nat) (f1 f2:Nat) (Q:zQ) (Y1:zL) (v0 v1 v8 v9 v10 v11:AVal) (h:za):Prop:=
 B.pv (V.bin .quo v8 (.int .i64 4)) fun v31=>
  B.pv (V.bin .mul v31 (.int .i64 2)) fun v32=>
  B.pv (V.bin .add v1 v32) fun v33=>
  B.pv (V.bin .add v33 (.int .i64 1)) fun v34=>
  B.pv (V.bin .leq v11 v34) fun v35=>
  B.cond v35
  (zbd.k3 C E C0 fL f1 f2 Q Y1 v0 v1 v8 v9 v10 v11 h)
  (Q (.tup []) h)
@[simp] def zbd.l5 (C:CSem) (E:zx) (C0:CSem) (fL:Nat) (f1 f2:Nat) (Q:zQ) (v0 v1 v8 v9 v10:AVal):zG
 | [v11],h,Y1=>zbd.k4 C E C0 fL f1 f2 Q Y1 v0 v1 v8 v9 v10 v11 h
 | _,_,_=>False
@[simp] def zbd.k6 (C:CSem) (E:zx) (C0:CSem) (fL:Nat) (f1 f2:Nat) (Q:zQ) (v0 v1 v8 v9 v10:AVal) (h:za):Prop:=
 B.pv (V.bin .quo v8 (.int .i64 4)) fun v24=>
  B.pv (V.bin .mul v24 (.int .i64 2)) fun v25=>
  B.pv (V.bin .add v1 v25) fun v26=>
  B.pv (V.bin .sub v26 (.int .i64 1)) fun v27=>
  zg (zbd.l5 C E C0 fL f1 f2 Q v0 v1 v8 v9 v10) [v27] h
@[simp] def zbd.k7 (C:CSem) (E:zx) (C0:CSem) (fL:Nat) (f1 f2:Nat) (Q:zQ) (v0 v1 v8:AVal) (h:za):Prop:=
 B.pv (V.toInt .u64 v8) fun v19=>
  B.newO h (some [.int .u64 0]) fun i9 h=>
  B.st h (.ptr i9 0 0) v19 fun h=>
  B.call C0 f2 [v8] h fun v21 h=>
  zbd.k6 C E C0 fL f1 f2 Q v0 v1 v8 (.ptr i9 0 0) v21 h
@[simp] def zbd.k8 (C:CSem) (E:zx) (C0:CSem) (fL:Nat) (f1 f2:Nat) (Q:zQ) (v0 v1 v2:AVal) (h:za):Prop:=
 B.pv (V.bin .sub v2 v1) fun v15=>
  B.pv (V.bin .geq v15 (.int .i64 8)) fun v17=>
  B.cond v17 (zbd.k7 C E C0 fL f1 f2 Q v0 v1 v15 h) (Q (.tup []) h)
@[simp] def zbd.cps (C:CSem) (E:zx) (C0:CSem) (fL:Nat) (f1 f2:Nat) (v0 v1 v2 v3:AVal) (h:za) (Q:zQ):Prop:=
 zbd.k8 C E C0 fL f1 f2 Q v0 v1 v2 h
@[simp] def zbv.k1 (C:CSem) (E:zx) (C0:CSem) (fL:Nat) (f1 f2:Nat) (Q:zQ) (v11 v13:AVal) (h:za):Prop:=
 B.ld h v11 fun v55=>
  B.pv (V.bin .eql v55 (.int .i64 0)) fun v58=>
  B.cond v58
  (Q (.tup [v13,(.int .i64 1)]) h)
  (B.pv (V.bin .eql v55 (.int .i64 12)) fun v61=>
  B.cond v61
  (Q (.tup [v13,(.int .i64 2)]) h)
  (Q (.tup [v13,(.int .i64 0)]) h))
@[simp] def zbv.k2 (C:CSem) (E:zx) (C0:CSem) (fL:Nat) (f1 f2:Nat) (Q:zQ) (v0 v3 v10 v11 v12 v13 v14:AVal) (h:za):Prop:=
 B.pv (V.bin .geq v10 (.int .i64 50)) fun v36=>
  B.cond v36
  (B.call C f2 [v0,v12,v11,v3] h fun v40 h=>
  B.call C f2 [v0,v13,v11,v3] h fun v44 h=>
  B.call C f2 [v0,v14,v11,v3] h fun v48 h=>
  B.call C f1 [v0,v40,v44,v48,v11,v3] h fun v54 h=>
  zbv.k1 C E C0 fL f1 f2 Q v11 v54 h)
  (B.call C f1 [v0,v12,v13,v14,v11,v3] h fun v54 h=>
  zbv.k1 C E C0 fL f1 f2 Q v11 v54 h)
@[simp] def zbv.k3 (C:CSem) (E:zx) (C0:CSem) (fL:Nat) (f1 f2:Nat) (Q:zQ) (v0 v3 v10 v11 v12 v13 v14:AVal) (h:za):Prop:=
 B.pv (V.bin .geq v10 (.int .i64 8)) fun v34=>
  B.cond v34 (zbv.k2 C E C0 fL f1 f2 Q v0 v3 v10 v11 v12 v13 v14 h) (zbv.k1 C E C0 fL f1 f2 Q v11 v13 h)
@[simp] def zbv.k4 (C:CSem) (E:zx) (C0:CSem) (fL:Nat) (f1 f2:Nat) (Q:zQ) (v0 v1 v3 v10 v11 v12 v13:AVal) (h:za):Prop:=
 B.pv (V.bin .quo v10 (.int .i64 4)) fun v30=>
  B.pv (V.bin .mul v30 (.int .i64 3)) fun v31=>
  B.pv (V.bin .add v1 v31) fun v32=>
  zbv.k3 C E C0 fL f1 f2 Q v0 v3 v10 v11 v12 v13 v32 h
@[simp] def zbv.k5 (C:CSem) (E:zx) (C0:CSem) (fL:Nat) (f1 f2:Nat) (Q:zQ) (v0 v1 v3 v10 v11 v12:AVal) (h:za):Prop:=
 B.pv (V.bin .quo v10 (.int .i64 4)) fun v25=>
  B.pv (V.bin .mul v25 (.int .i64 2)) fun v26=>
  B.pv (V.bin .add v1 v26) fun v27=>
  zbv.k4 C E C0 fL f1 f2 Q v0 v1 v3 v10 v11 v12 v27 h
@[simp] def zbv.k6 (C:CSem) (E:zx) (C0:CSem) (fL:Nat) (f1 f2:Nat) (Q:zQ) (v0 v1 v3 v10 v11:AVal) (h:za):Prop:=
 B.pv (V.bin .quo v10 (.int .i64 4)) fun v20=>
  B.pv (V.bin .mul v20 (.int .i64 1)) fun v21=>
  B.pv (V.bin .add v1 v21) fun v22=>
  zbv.k5 C E C0 fL f1 f2 Q v0 v1 v3 v10 v11 v22 h
@[simp] def zbv.cps (C:CSem) (E:zx) (C0:CSem) (fL:Nat) (f1 f2:Nat) (v0 v1 v2 v3:AVal) (h:za) (Q:zQ):Prop:=
 B.pv (V.bin .sub v2 v1) fun v17=>
  B.newO h (some [.int .i64 0]) fun i11 h=>
  zbv.k6 C E C0 fL f1 f2 Q v0 v1 v3 v17 (.ptr i11 0 0) h
@[simp] def zet.k1 (C:CSem) (E:zx) (C0:CSem) (fL:Nat) (Q:zQ) (Y1:zL) (v0 v8 v9:AVal) (h:za):Prop:=
 B.pv (V.bin .lss v8 v9) fun v15=>
  B.cond v15
  (B.pv (V.idxS E.es v0 v9) fun v22=>
  E.ld h v22 fun v23=>
  B.pv (V.idxS E.es v0 v8) fun v26=>
  E.ld h v26 fun v27=>
  B.pv (V.idxS E.es v0 v8) fun v28=>
  E.st h v28 v23 fun h=>
  B.pv (V.idxS E.es v0 v9) fun v29=>
  E.st h v29 v27 fun h=>
  B.pv (V.bin .add v8 (.int .i64 1)) fun v31=>
  B.pv (V.bin .sub v9 (.int .i64 1)) fun v33=>
  Y1 [v31,v33] h)
  (Q (.tup []) h)
@[simp] def zet.l2 (C:CSem) (E:zx) (C0:CSem) (fL:Nat) (Q:zQ) (v0:AVal):zG
 | [v8,v9],h,Y1=>zet.k1 C E C0 fL Q Y1 v0 v8 v9 h
 | _,_,_=>False
@[simp] def zet.cps (C:CSem) (E:zx) (C0:CSem) (fL:Nat) (v0 v1 v2 v3:AVal) (h:za) (Q:zQ):Prop:=
 B.pv (V.bin .sub v2 (.int .i64 1)) fun v12=>
  zg (zet.l2 C E C0 fL Q v0) [v1,v12] h
@[simp] def zh.k1 (C:CSem) (E:zx) (C0:CSem) (fL:Nat) (Q:zQ) (Y1:zL) (Y2:zL) (v0 v1 v2 v3 v9 v10 v12:AVal) (h:za):Prop:=
 B.pv (V.bin .lss v12 v2) fun v109=>
  B.cond v109
  (B.pv (V.idxS E.es v0 v12) fun v115=>
  E.ld h v115 fun v116=>
  B.pv (V.bin .sub v12 (.int .i64 1)) fun v119=>
  B.pv (V.idxS E.es v0 v119) fun v120=>
  E.ld h v120 fun v121=>
  B.call C0 fL [v116,v121] h fun v123 h=>
  B.pv (V.un .not v123) fun v124=>
  B.cond v124
  (B.pv (V.bin .add v10 (.int .i64 1)) fun v18=>
  Y1 [v9,v18] h)
  (B.pv (V.bin .sub v12 (.int .i64 1)) fun v129=>
  B.pv (V.bin .sub v12 (.int .i64 1)) fun v132=>
  B.pv (V.idxS E.es v0 v132) fun v133=>
  E.ld h v133 fun v134=>
  B.pv (V.idxS E.es v0 v12) fun v137=>
  E.ld h v137 fun v138=>
  B.pv (V.idxS E.es v0 v12) fun v139=>
  E.st h v139 v134 fun h=>
  B.pv (V.idxS E.es v0 v129) fun v140=>
  E.st h v140 v138 fun h=>
  B.pv (V.bin .add v12 (.int .i64 1)) fun v111=>
  Y2 [v111] h))
  (B.pv (V.bin .add v10 (.int .i64 1)) fun v18=>
  Y1 [v9,v18] h)
@[simp] def zh.l2 (C:CSem) (E:zx) (C0:CSem) (fL:Nat) (Q:zQ) (Y1:zL) (v0 v1 v2 v3 v9 v10:AVal):zG
 | [v12],h,Y2=>zh.k1 C E C0 fL Q Y1 Y2 v0 v1 v2 v3 v9 v10 v12 h
 | _,_,_=>False
@[simp] def zh.k3 (C:CSem) (E:zx) (C0:CSem) (fL:Nat) (Q:zQ) (Y1:zL) (v0 v1 v2 v3 v9 v10:AVal) (h:za):Prop:=
 B.pv (V.bin .sub v2 v9) fun v103=>
  B.pv (V.bin .geq v103 (.int .i64 2)) fun v104=>
  B.cond v104 (B.pv (V.bin .add v9 (.int .i64 1)) fun v106=>
  zg (zh.l2 C E C0 fL Q Y1 v0 v1 v2 v3 v9 v10) [v106] h) (B.pv (V.bin .add v10 (.int .i64 1)) fun v18=>
  Y1 [v9,v18] h)
@[simp] def zh.k4 (C:CSem) (E:zx) (C0:CSem) (fL:Nat) (Q:zQ) (Y1:zL) (Y3:zL) (v0 v1 v2 v3 v9 v10 v11:AVal) (h:za):Prop:=
 B.pv (V.bin .geq v11 (.int .i64 1)) fun v69=>
  B.cond v69
  (B.pv (V.idxS E.es v0 v11) fun v75=>
  E.ld h v75 fun v76=>
  B.pv (V.bin .sub v11 (.int .i64 1)) fun v79=>
  B.pv (V.idxS E.es v0 v79) fun v80=>
  E.ld h v80 fun v81=>
  B.call C0 fL [v76,v81] h fun v83 h=>
  B.pv (V.un .not v83) fun v84=>
  B.cond v84
  (zh.k3 C E C0 fL Q Y1 v0 v1 v2 v3 v9 v10 h)
  (B.pv (V.bin .sub v11 (.int .i64 1)) fun v89=>
  B.pv (V.bin .sub v11 (.int .i64 1)) fun v92=>
  B.pv (V.idxS E.es v0 v92) fun v93=>
  E.ld h v93 fun v94=>
  B.pv (V.idxS E.es v0 v11) fun v97=>
  E.ld h v97 fun v98=>
  B.pv (V.idxS E.es v0 v11) fun v99=>
  E.st h v99 v94 fun h=>
  B.pv (V.idxS E.es v0 v89) fun v100=>
  E.st h v100 v98 fun h=>
  B.pv (V.bin .sub v11 (.int .i64 1)) fun v71=>
  Y3 [v71] h))
  (zh.k3 C E C0 fL Q Y1 v0 v1 v2 v3 v9 v10 h)
@[simp] def zh.l5 (C:CSem) (E:zx) (C0:CSem) (fL:Nat) (Q:zQ) (Y1:zL) (v0 v1 v2 v3 v9 v10:AVal):zG
 | [v11],h,Y3=>zh.k4 C E C0 fL Q Y1 Y3 v0 v1 v2 v3 v9 v10 v11 h
 | _,_,_=>False
@[simp] def zh.k6 (C:CSem) (E:zx) (C0:CSem) (fL:Nat) (Q:zQ) (Y1:zL) (v0 v1 v2 v3 v9 v10:AVal) (h:za):Prop:=
 B.pv (V.bin .sub v9 v1) fun v64=>
  B.pv (V.bin .geq v64 (.int .i64 2)) fun v65=>
  B.cond v65 (B.pv (V.bin .sub v9 (.int .i64 1)) fun v67=>
  zg (zh.l5 C E C0 fL Q Y1 v0 v1 v2 v3 v9 v10) [v67] h) (zh.k3 C E C0 fL Q Y1 v0 v1 v2 v3 v9 v10 h)
@[simp] def zh.k7 (C:CSem) (E:zx) (C0:CSem) (fL:Nat) (Q:zQ) (Y1:zL) (v0 v1 v2 v3 v9 v10:AVal) (h:za):Prop:=
 B.pv (V.bin .sub v9 (.int .i64 1)) fun v50=>
  B.pv (V.bin .sub v9 (.int .i64 1)) fun v53=>
  B.pv (V.idxS E.es v0 v53) fun v54=>
  E.ld h v54 fun v55=>
  B.pv (V.idxS E.es v0 v9) fun v58=>
  E.ld h v58 fun v59=>
  B.pv (V.idxS E.es v0 v9) fun v60=>
  E.st h v60 v55 fun h=>
  B.pv (V.idxS E.es v0 v50) fun v61=>
  E.st h v61 v59 fun h=>
  zh.k6 C E C0 fL Q Y1 v0 v1 v2 v3 v9 v10 h
@[simp] def zh.k8 (C:CSem) (E:zx) (C0:CSem) (fL:Nat) (Q:zQ) (Y1:zL) (v0 v1 v2 v3 v9 v10:AVal) (h:za):Prop:=
 B.pv (V.bin .sub v2 v1) fun v44=>
  B.pv (V.bin .lss v44 (.int .i64 50)) fun v45=>
  B.cond v45
  (Q (.bool false) h)
  (zh.k7 C E C0 fL Q Y1 v0 v1 v2 v3 v9 v10 h)
@[simp] def zh.k9 (C:CSem) (E:zx) (C0:CSem) (fL:Nat) (Q:zQ) (Y1:zL) (Y4:zL) (v0 v1 v2 v3 v9 v10:AVal) (h:za):Prop:=
 B.pv (V.bin .lss v9 v2) fun v21=>
  B.gd h v21 true (fun K=>K v0 h) fun v24 h=>
  B.gd h v21 true (fun K=>K v9 h) fun v25 h=>
  B.gd h v21 true (fun K=>B.pv (V.idxS E.es v24 v25) fun v=>K v h) fun v26 h=>
  B.gd h v21 true (fun K=>E.ld h v26 fun v=>K v h) fun v27 h=>
  B.gd h v21 true (fun K=>K v0 h) fun v28 h=>
  B.gd h v21 true (fun K=>K v9 h) fun v29 h=>
  B.gd h v21 true (fun K=>B.pv (V.bin .sub v29 (.int .i64 1)) fun v=>K v h) fun v30 h=>
  B.gd h v21 true (fun K=>B.pv (V.idxS E.es v28 v30) fun v=>K v h) fun v31 h=>
  B.gd h v21 true (fun K=>E.ld h v31 fun v=>K v h) fun v32 h=>
  B.gd h v21 true (fun K=>B.call C0 fL [v27,v32] h K) fun v34 h=>
  B.gd h v21 true (fun K=>B.pv (V.un .not v34) fun v=>K v h) fun v35 h=>
  B.pick v21 v35 (.bool false) fun v36=>
  B.cond v36
  (B.pv (V.bin .add v9 (.int .i64 1)) fun v38=>
  Y4 [v38] h)
  (B.pv (V.bin .eql v9 v2) fun v41=>
  B.cond v41
  (Q (.bool true) h)
  (zh.k8 C E C0 fL Q Y1 v0 v1 v2 v3 v9 v10 h))
@[simp] def zh.l10 (C:CSem) (E:zx) (C0:CSem) (fL:Nat) (Q:zQ) (Y1:zL) (v0 v1 v2 v3 v10:AVal):zG
 | [v9],h,Y4=>zh.k9 C E C0 fL Q Y1 Y4 v0 v1 v2 v3 v9 v10 h
 | _,_,_=>False
@[simp] def zh.k11 (C:CSem) (E:zx) (C0:CSem) (fL:Nat) (Q:zQ) (Y1:zL) (v0 v1 v2 v3 v9 v10:AVal) (h:za):Prop:=
 B.pv (V.bin .lss v10 (.int .i64 5)) fun v16=>
  B.cond v16
  (zg (zh.l10 C E C0 fL Q Y1 v0 v1 v2 v3 v10) [v9] h)
  (Q (.bool false) h)
@[simp] def zh.l12 (C:CSem) (E:zx) (C0:CSem) (fL:Nat) (Q:zQ) (v0 v1 v2 v3:AVal):zG
 | [v9,v10],h,Y1=>zh.k11 C E C0 fL Q Y1 v0 v1 v2 v3 v9 v10 h
 | _,_,_=>False
@[simp] def zh.cps (C:CSem) (E:zx) (C0:CSem) (fL:Nat) (v0 v1 v2 v3:AVal) (h:za) (Q:zQ):Prop:=
 B.pv (V.bin .add v1 (.int .i64 1)) fun v14=>
  zg (zh.l12 C E C0 fL Q v0 v1 v2 v3) [v14,(.int .i64 0)] h
@[simp] def zba.k1 (C:CSem) (E:zx) (C0:CSem) (fL:Nat) (Q:zQ) (Y1:zL) (v0 v1 v4 v11 v12:AVal) (h:za):Prop:=
 B.pv (V.bin .gtr v11 v12) fun v70=>
  B.cond v70
  (Q v11 h)
  (B.pv (V.idxS E.es v0 v12) fun v77=>
  E.ld h v77 fun v78=>
  B.pv (V.idxS E.es v0 v11) fun v81=>
  E.ld h v81 fun v82=>
  B.pv (V.idxS E.es v0 v11) fun v83=>
  E.st h v83 v78 fun h=>
  B.pv (V.idxS E.es v0 v12) fun v84=>
  E.st h v84 v82 fun h=>
  B.pv (V.bin .add v11 (.int .i64 1)) fun v86=>
  B.pv (V.bin .sub v12 (.int .i64 1)) fun v88=>
  Y1 [v86,v88] h)
@[simp] def zba.k2 (C:CSem) (E:zx) (C0:CSem) (fL:Nat) (Q:zQ) (Y1:zL) (Y2:zL) (v0 v1 v4 v11 v12:AVal) (h:za):Prop:=
 B.pv (V.bin .leq v11 v12) fun v52=>
  B.gd h v52 true (fun K=>K v0 h) fun v55 h=>
  B.gd h v52 true (fun K=>K v1 h) fun v56 h=>
  B.gd h v52 true (fun K=>B.pv (V.idxS E.es v55 v56) fun v=>K v h) fun v57 h=>
  B.gd h v52 true (fun K=>E.ld h v57 fun v=>K v h) fun v58 h=>
  B.gd h v52 true (fun K=>K v0 h) fun v59 h=>
  B.gd h v52 true (fun K=>K v12 h) fun v60 h=>
  B.gd h v52 true (fun K=>B.pv (V.idxS E.es v59 v60) fun v=>K v h) fun v61 h=>
  B.gd h v52 true (fun K=>E.ld h v61 fun v=>K v h) fun v62 h=>
  B.gd h v52 true (fun K=>B.call C0 fL [v58,v62] h K) fun v64 h=>
  B.pick v52 v64 (.bool false) fun v65=>
  B.cond v65
  (B.pv (V.bin .sub v12 (.int .i64 1)) fun v67=>
  Y2 [v67] h)
  (zba.k1 C E C0 fL Q Y1 v0 v1 v4 v11 v12 h)
@[simp] def zba.l3 (C:CSem) (E:zx) (C0:CSem) (fL:Nat) (Q:zQ) (Y1:zL) (v0 v1 v4 v11:AVal):zG
 | [v12],h,Y2=>zba.k2 C E C0 fL Q Y1 Y2 v0 v1 v4 v11 v12 h
 | _,_,_=>False
@[simp] def zba.k4 (C:CSem) (E:zx) (C0:CSem) (fL:Nat) (Q:zQ) (Y1:zL) (Y3:zL) (v0 v1 v4 v11 v12:AVal) (h:za):Prop:=
 B.pv (V.bin .leq v11 v12) fun v33=>
  B.gd h v33 true (fun K=>K v0 h) fun v36 h=>
  B.gd h v33 true (fun K=>K v1 h) fun v37 h=>
  B.gd h v33 true (fun K=>B.pv (V.idxS E.es v36 v37) fun v=>K v h) fun v38 h=>
  B.gd h v33 true (fun K=>E.ld h v38 fun v=>K v h) fun v39 h=>
  B.gd h v33 true (fun K=>K v0 h) fun v40 h=>
  B.gd h v33 true (fun K=>K v11 h) fun v41 h=>
  B.gd h v33 true (fun K=>B.pv (V.idxS E.es v40 v41) fun v=>K v h) fun v42 h=>
  B.gd h v33 true (fun K=>E.ld h v42 fun v=>K v h) fun v43 h=>
  B.gd h v33 true (fun K=>B.call C0 fL [v39,v43] h K) fun v45 h=>
  B.gd h v33 true (fun K=>B.pv (V.un .not v45) fun v=>K v h) fun v46 h=>
  B.pick v33 v46 (.bool false) fun v47=>
  B.cond v47
  (B.pv (V.bin .add v11 (.int .i64 1)) fun v49=>
  Y3 [v49] h)
  (zg (zba.l3 C E C0 fL Q Y1 v0 v1 v4 v11) [v12] h)
@[simp] def zba.l5 (C:CSem) (E:zx) (C0:CSem) (fL:Nat) (Q:zQ) (Y1:zL) (v0 v1 v4 v12:AVal):zG
 | [v11],h,Y3=>zba.k4 C E C0 fL Q Y1 Y3 v0 v1 v4 v11 v12 h
 | _,_,_=>False
@[simp] def zba.l6 (C:CSem) (E:zx) (C0:CSem) (fL:Nat) (Q:zQ) (v0 v1 v4:AVal):zG
 | [v11,v12],h,Y1=>zg (zba.l5 C E C0 fL Q Y1 v0 v1 v4 v12) [v11] h
 | _,_,_=>False
@[simp] def zba.k7 (C:CSem) (E:zx) (C0:CSem) (fL:Nat) (Q:zQ) (v0 v1 v2 v4:AVal) (h:za):Prop:=
 B.pv (V.bin .add v1 (.int .i64 1)) fun v28=>
  B.pv (V.bin .sub v2 (.int .i64 1)) fun v30=>
  zg (zba.l6 C E C0 fL Q v0 v1 v4) [v28,v30] h
@[simp] def zba.k8 (C:CSem) (E:zx) (C0:CSem) (fL:Nat) (Q:zQ) (v0 v1 v2 v3 v4:AVal) (h:za):Prop:=
 B.pv (V.idxS E.es v0 v3) fun v19=>
  E.ld h v19 fun v20=>
  B.pv (V.idxS E.es v0 v1) fun v23=>
  E.ld h v23 fun v24=>
  B.pv (V.idxS E.es v0 v1) fun v25=>
  E.st h v25 v20 fun h=>
  B.pv (V.idxS E.es v0 v3) fun v26=>
  E.st h v26 v24 fun h=>
  zba.k7 C E C0 fL Q v0 v1 v2 v4 h
@[simp] def zba.cps (C:CSem) (E:zx) (C0:CSem) (fL:Nat) (v0 v1 v2 v3 v4:AVal) (h:za) (Q:zQ):Prop:=
 zba.k8 C E C0 fL Q v0 v1 v2 v3 v4 h
@[simp] def zq.k1 (C:CSem) (E:zx) (C0:CSem) (fL:Nat) (Q:zQ) (v0 v1 v13:AVal) (h:za):Prop:=
 B.pv (V.idxS E.es v0 v1) fun v169=>
  E.ld h v169 fun v170=>
  B.pv (V.idxS E.es v0 v13) fun v173=>
  E.ld h v173 fun v174=>
  B.pv (V.idxS E.es v0 v13) fun v175=>
  E.st h v175 v170 fun h=>
  B.pv (V.idxS E.es v0 v1) fun v176=>
  E.st h v176 v174 fun h=>
  Q (.tup [v13,(.bool false)]) h
@[simp] def zq.k2 (C:CSem) (E:zx) (C0:CSem) (fL:Nat) (Q:zQ) (Y1:zL) (v0 v1 v4 v12 v13:AVal) (h:za):Prop:=
 B.pv (V.bin .gtr v12 v13) fun v144=>
  B.cond v144
  (zq.k1 C E C0 fL Q v0 v1 v13 h)
  (B.pv (V.idxS E.es v0 v13) fun v151=>
  E.ld h v151 fun v152=>
  B.pv (V.idxS E.es v0 v12) fun v155=>
  E.ld h v155 fun v156=>
  B.pv (V.idxS E.es v0 v12) fun v157=>
  E.st h v157 v152 fun h=>
  B.pv (V.idxS E.es v0 v13) fun v158=>
  E.st h v158 v156 fun h=>
  B.pv (V.bin .add v12 (.int .i64 1)) fun v160=>
  B.pv (V.bin .sub v13 (.int .i64 1)) fun v162=>
  Y1 [v160,v162] h)
@[simp] def zq.k3 (C:CSem) (E:zx) (C0:CSem) (fL:Nat) (Q:zQ) (Y1:zL) (Y2:zL) (v0 v1 v4 v12 v13:AVal) (h:za):Prop:=
 B.pv (V.bin .leq v12 v13) fun v125=>
  B.gd h v125 true (fun K=>K v0 h) fun v128 h=>
  B.gd h v125 true (fun K=>K v13 h) fun v129 h=>
  B.gd h v125 true (fun K=>B.pv (V.idxS E.es v128 v129) fun v=>K v h) fun v130 h=>
  B.gd h v125 true (fun K=>E.ld h v130 fun v=>K v h) fun v131 h=>
  B.gd h v125 true (fun K=>K v0 h) fun v132 h=>
  B.gd h v125 true (fun K=>K v1 h) fun v133 h=>
  B.gd h v125 true (fun K=>B.pv (V.idxS E.es v132 v133) fun v=>K v h) fun v134 h=>
  B.gd h v125 true (fun K=>E.ld h v134 fun v=>K v h) fun v135 h=>
  B.gd h v125 true (fun K=>B.call C0 fL [v131,v135] h K) fun v137 h=>
  B.gd h v125 true (fun K=>B.pv (V.un .not v137) fun v=>K v h) fun v138 h=>
  B.pick v125 v138 (.bool false) fun v139=>
  B.cond v139
  (B.pv (V.bin .sub v13 (.int .i64 1)) fun v141=>
  Y2 [v141] h)
  (zq.k2 C E C0 fL Q Y1 v0 v1 v4 v12 v13 h)
@[simp] def zq.l4 (C:CSem) (E:zx) (C0:CSem) (fL:Nat) (Q:zQ) (Y1:zL) (v0 v1 v4 v12:AVal):zG
 | [v13],h,Y2=>zq.k3 C E C0 fL Q Y1 Y2 v0 v1 v4 v12 v13 h
 | _,_,_=>False
@[simp] def zq.k5 (C:CSem) (E:zx) (C0:CSem) (fL:Nat) (Q:zQ) (Y1:zL) (Y3:zL) (v0 v1 v4 v12 v13:AVal) (h:za):Prop:=
 B.pv (V.bin .leq v12 v13) fun v107=>
  B.gd h v107 true (fun K=>K v0 h) fun v110 h=>
  B.gd h v107 true (fun K=>K v12 h) fun v111 h=>
  B.gd h v107 true (fun K=>B.pv (V.idxS E.es v110 v111) fun v=>K v h) fun v112 h=>
  B.gd h v107 true (fun K=>E.ld h v112 fun v=>K v h) fun v113 h=>
  B.gd h v107 true (fun K=>K v0 h) fun v114 h=>
  B.gd h v107 true (fun K=>K v1 h) fun v115 h=>
  B.gd h v107 true (fun K=>B.pv (V.idxS E.es v114 v115) fun v=>K v h) fun v116 h=>
  B.gd h v107 true (fun K=>E.ld h v116 fun v=>K v h) fun v117 h=>
  B.gd h v107 true (fun K=>B.call C0 fL [v113,v117] h K) fun v119 h=>
  B.pick v107 v119 (.bool false) fun v120=>
  B.cond v120
  (B.pv (V.bin .add v12 (.int .i64 1)) fun v122=>
  Y3 [v122] h)
  (zg (zq.l4 C E C0 fL Q Y1 v0 v1 v4 v12) [v13] h)
@[simp] def zq.l6 (C:CSem) (E:zx) (C0:CSem) (fL:Nat) (Q:zQ) (Y1:zL) (v0 v1 v4 v13:AVal):zG
 | [v12],h,Y3=>zq.k5 C E C0 fL Q Y1 Y3 v0 v1 v4 v12 v13 h
 | _,_,_=>False
@[simp] def zq.l7 (C:CSem) (E:zx) (C0:CSem) (fL:Nat) (Q:zQ) (v0 v1 v4:AVal):zG
 | [v12,v13],h,Y1=>zg (zq.l6 C E C0 fL Q Y1 v0 v1 v4 v13) [v12] h
 | _,_,_=>False
@[simp] def zq.k8 (C:CSem) (E:zx) (C0:CSem) (fL:Nat) (Q:zQ) (v0 v1 v4 v12 v13:AVal) (h:za):Prop:=
 B.pv (V.bin .add v12 (.int .i64 1)) fun v102=>
  B.pv (V.bin .sub v13 (.int .i64 1)) fun v104=>
  zg (zq.l7 C E C0 fL Q v0 v1 v4) [v102,v104] h
@[simp] def zq.k9 (C:CSem) (E:zx) (C0:CSem) (fL:Nat) (Q:zQ) (v0 v1 v4 v12 v13:AVal) (h:za):Prop:=
 B.pv (V.idxS E.es v0 v13) fun v93=>
  E.ld h v93 fun v94=>
  B.pv (V.idxS E.es v0 v12) fun v97=>
  E.ld h v97 fun v98=>
  B.pv (V.idxS E.es v0 v12) fun v99=>
  E.st h v99 v94 fun h=>
  B.pv (V.idxS E.es v0 v13) fun v100=>
  E.st h v100 v98 fun h=>
  zq.k8 C E C0 fL Q v0 v1 v4 v12 v13 h
@[simp] def zq.k10 (C:CSem) (E:zx) (C0:CSem) (fL:Nat) (Q:zQ) (v0 v1 v4 v12 v13:AVal) (h:za):Prop:=
 B.pv (V.bin .gtr v12 v13) fun v71=>
  B.cond v71
  (B.pv (V.idxS E.es v0 v1) fun v78=>
  E.ld h v78 fun v79=>
  B.pv (V.idxS E.es v0 v13) fun v82=>
  E.ld h v82 fun v83=>
  B.pv (V.idxS E.es v0 v13) fun v84=>
  E.st h v84 v79 fun h=>
  B.pv (V.idxS E.es v0 v1) fun v85=>
  E.st h v85 v83 fun h=>
  Q (.tup [v13,(.bool true)]) h)
  (zq.k9 C E C0 fL Q v0 v1 v4 v12 v13 h)
@[simp] def zq.k11 (C:CSem) (E:zx) (C0:CSem) (fL:Nat) (Q:zQ) (Y4:zL) (v0 v1 v4 v12 v13:AVal) (h:za):Prop:=
 B.pv (V.bin .leq v12 v13) fun v52=>
  B.gd h v52 true (fun K=>K v0 h) fun v55 h=>
  B.gd h v52 true (fun K=>K v13 h) fun v56 h=>
  B.gd h v52 true (fun K=>B.pv (V.idxS E.es v55 v56) fun v=>K v h) fun v57 h=>
  B.gd h v52 true (fun K=>E.ld h v57 fun v=>K v h) fun v58 h=>
  B.gd h v52 true (fun K=>K v0 h) fun v59 h=>
  B.gd h v52 true (fun K=>K v1 h) fun v60 h=>
  B.gd h v52 true (fun K=>B.pv (V.idxS E.es v59 v60) fun v=>K v h) fun v61 h=>
  B.gd h v52 true (fun K=>E.ld h v61 fun v=>K v h) fun v62 h=>
  B.gd h v52 true (fun K=>B.call C0 fL [v58,v62] h K) fun v64 h=>
  B.gd h v52 true (fun K=>B.pv (V.un .not v64) fun v=>K v h) fun v65 h=>
  B.pick v52 v65 (.bool false) fun v66=>
  B.cond v66
  (B.pv (V.bin .sub v13 (.int .i64 1)) fun v68=>
  Y4 [v68] h)
  (zq.k10 C E C0 fL Q v0 v1 v4 v12 v13 h)
@[simp] def zq.l12 (C:CSem) (E:zx) (C0:CSem) (fL:Nat) (Q:zQ) (v0 v1 v4 v12:AVal):zG
 | [v13],h,Y4=>zq.k11 C E C0 fL Q Y4 v0 v1 v4 v12 v13 h
 | _,_,_=>False
@[simp] def zq.k13 (C:CSem) (E:zx) (C0:CSem) (fL:Nat) (Q:zQ) (Y5:zL) (v0 v1 v4 v12 v13:AVal) (h:za):Prop:=
 B.pv (V.bin .leq v12 v13) fun v34=>
  B.gd h v34 true (fun K=>K v0 h) fun v37 h=>
  B.gd h v34 true (fun K=>K v12 h) fun v38 h=>
  B.gd h v34 true (fun K=>B.pv (V.idxS E.es v37 v38) fun v=>K v h) fun v39 h=>
  B.gd h v34 true (fun K=>E.ld h v39 fun v=>K v h) fun v40 h=>
  B.gd h v34 true (fun K=>K v0 h) fun v41 h=>
  B.gd h v34 true (fun K=>K v1 h) fun v42 h=>
  B.gd h v34 true (fun K=>B.pv (V.idxS E.es v41 v42) fun v=>K v h) fun v43 h=>
  B.gd h v34 true (fun K=>E.ld h v43 fun v=>K v h) fun v44 h=>
  B.gd h v34 true (fun K=>B.call C0 fL [v40,v44] h K) fun v46 h=>
  B.pick v34 v46 (.bool false) fun v47=>
  B.cond v47
  (B.pv (V.bin .add v12 (.int .i64 1)) fun v49=>
  Y5 [v49] h)
  (zg (zq.l12 C E C0 fL Q v0 v1 v4 v12) [v13] h)
@[simp] def zq.l14 (C:CSem) (E:zx) (C0:CSem) (fL:Nat) (Q:zQ) (v0 v1 v4 v13:AVal):zG
 | [v12],h,Y5=>zq.k13 C E C0 fL Q Y5 v0 v1 v4 v12 v13 h
 | _,_,_=>False
@[simp] def zq.k15 (C:CSem) (E:zx) (C0:CSem) (fL:Nat) (Q:zQ) (v0 v1 v2 v4:AVal) (h:za):Prop:=
 B.pv (V.bin .add v1 (.int .i64 1)) fun v29=>
  B.pv (V.bin .sub v2 (.int .i64 1)) fun v31=>
  zg (zq.l14 C E C0 fL Q v0 v1 v4 v31) [v29] h
@[simp] def zq.k16 (C:CSem) (E:zx) (C0:CSem) (fL:Nat) (Q:zQ) (v0 v1 v2 v3 v4:AVal) (h:za):Prop:=
 B.pv (V.idxS E.es v0 v3) fun v20=>
  E.ld h v20 fun v21=>
  B.pv (V.idxS E.es v0 v1) fun v24=>
  E.ld h v24 fun v25=>
  B.pv (V.idxS E.es v0 v1) fun v26=>
  E.st h v26 v21 fun h=>
  B.pv (V.idxS E.es v0 v3) fun v27=>
  E.st h v27 v25 fun h=>
  zq.k15 C E C0 fL Q v0 v1 v2 v4 h
@[simp] def zq.cps (C:CSem) (E:zx) (C0:CSem) (fL:Nat) (v0 v1 v2 v3 v4:AVal) (h:za) (Q:zQ):Prop:=
 zq.k16 C E C0 fL Q v0 v1 v2 v3 v4 h
@[simp] def zdq.k1 (C:CSem) (E:zx) (C0:CSem) (fL:Nat) (Q:zQ) (Y1:zL) (v0 v2 v3 v4 v10 v11:AVal) (h:za):Prop:=
 B.pv (V.bin .add v3 v10) fun v47=>
  B.pv (V.idxS E.es v0 v47) fun v48=>
  E.ld h v48 fun v49=>
  B.pv (V.bin .add v3 v11) fun v53=>
  B.pv (V.idxS E.es v0 v53) fun v54=>
  E.ld h v54 fun v55=>
  B.call C0 fL [v49,v55] h fun v57 h=>
  B.pv (V.un .not v57) fun v58=>
  B.cond v58
  (Q (.tup []) h)
  (B.pv (V.bin .add v3 v10) fun v62=>
  B.pv (V.bin .add v3 v11) fun v66=>
  B.pv (V.bin .add v3 v11) fun v70=>
  B.pv (V.idxS E.es v0 v70) fun v71=>
  E.ld h v71 fun v72=>
  B.pv (V.bin .add v3 v10) fun v76=>
  B.pv (V.idxS E.es v0 v76) fun v77=>
  E.ld h v77 fun v78=>
  B.pv (V.idxS E.es v0 v62) fun v79=>
  E.st h v79 v72 fun h=>
  B.pv (V.idxS E.es v0 v66) fun v80=>
  E.st h v80 v78 fun h=>
  Y1 [v11] h)
@[simp] def zdq.k2 (C:CSem) (E:zx) (C0:CSem) (fL:Nat) (Q:zQ) (Y1:zL) (v0 v2 v3 v4 v10 v11:AVal) (h:za):Prop:=
 B.pv (V.bin .add v11 (.int .i64 1)) fun v20=>
  B.pv (V.bin .lss v20 v2) fun v22=>
  B.gd h v22 true (fun K=>K v0 h) fun v25 h=>
  B.gd h v22 true (fun K=>K v3 h) fun v26 h=>
  B.gd h v22 true (fun K=>K v11 h) fun v27 h=>
  B.gd h v22 true (fun K=>B.pv (V.bin .add v26 v27) fun v=>K v h) fun v28 h=>
  B.gd h v22 true (fun K=>B.pv (V.idxS E.es v25 v28) fun v=>K v h) fun v29 h=>
  B.gd h v22 true (fun K=>E.ld h v29 fun v=>K v h) fun v30 h=>
  B.gd h v22 true (fun K=>K v0 h) fun v31 h=>
  B.gd h v22 true (fun K=>K v3 h) fun v32 h=>
  B.gd h v22 true (fun K=>K v11 h) fun v33 h=>
  B.gd h v22 true (fun K=>B.pv (V.bin .add v32 v33) fun v=>K v h) fun v34 h=>
  B.gd h v22 true (fun K=>B.pv (V.bin .add v34 (.int .i64 1)) fun v=>K v h) fun v35 h=>
  B.gd h v22 true (fun K=>B.pv (V.idxS E.es v31 v35) fun v=>K v h) fun v36 h=>
  B.gd h v22 true (fun K=>E.ld h v36 fun v=>K v h) fun v37 h=>
  B.gd h v22 true (fun K=>B.call C0 fL [v30,v37] h K) fun v39 h=>
  B.pick v22 v39 (.bool false) fun v40=>
  B.cond v40
  (B.pv (V.bin .add v11 (.int .i64 1)) fun v42=>
  zdq.k1 C E C0 fL Q Y1 v0 v2 v3 v4 v10 v42 h)
  (zdq.k1 C E C0 fL Q Y1 v0 v2 v3 v4 v10 v11 h)
@[simp] def zdq.k3 (C:CSem) (E:zx) (C0:CSem) (fL:Nat) (Q:zQ) (Y1:zL) (v0 v2 v3 v4 v10:AVal) (h:za):Prop:=
 B.pv (V.bin .mul (.int .i64 2) v10) fun v14=>
  B.pv (V.bin .add v14 (.int .i64 1)) fun v15=>
  B.pv (V.bin .geq v15 v2) fun v18=>
  B.cond v18
  (Q (.tup []) h)
  (zdq.k2 C E C0 fL Q Y1 v0 v2 v3 v4 v10 v15 h)
@[simp] def zdq.l4 (C:CSem) (E:zx) (C0:CSem) (fL:Nat) (Q:zQ) (v0 v2 v3 v4:AVal):zG
 | [v10],h,Y1=>zdq.k3 C E C0 fL Q Y1 v0 v2 v3 v4 v10 h
 | _,_,_=>False
@[simp] def zdq.cps (C:CSem) (E:zx) (C0:CSem) (fL:Nat) (v0 v1 v2 v3 v4:AVal) (h:za) (Q:zQ):Prop:=
 zg (zdq.l4 C E C0 fL Q v0 v2 v3 v4) [v1] h
@[simp] def zfd.k1 (C:CSem) (E:zx) (C0:CSem) (fL:Nat) (f1:Nat) (Q:zQ) (v0 v1 v2 v3:AVal) (h:za):Prop:=
 B.pv (V.bin .sub v1 (.int .i64 1)) fun v11=>
  B.pv (V.bin .add v1 (.int .i64 1)) fun v14=>
  B.call C f1 [v0,v11,v1,v14,v2,v3] h fun v17 h=>
  Q v17 h
@[simp] def zfd.cps (C:CSem) (E:zx) (C0:CSem) (fL:Nat) (f1:Nat) (v0 v1 v2 v3:AVal) (h:za) (Q:zQ):Prop:=
 zfd.k1 C E C0 fL f1 Q v0 v1 v2 v3 h
@[simp] def zg6.k1 (C:CSem) (E:zx) (C0:CSem) (fL:Nat) (f1:Nat) (Q:zQ) (v0 v1 v2 v3 v4 v5:AVal) (h:za):Prop:=
 B.call C f1 [v0,v1,v2,v4,v5] h fun v19 h=>
  B.pv (V.ext 0 v19) fun v20=>
  B.pv (V.ext 1 v19) fun v21=>
  B.call C f1 [v0,v21,v3,v4,v5] h fun v28 h=>
  B.pv (V.ext 0 v28) fun v29=>
  B.pv (V.ext 1 v28) fun v30=>
  B.call C f1 [v0,v20,v29,v4,v5] h fun v37 h=>
  B.pv (V.ext 0 v37) fun v38=>
  B.pv (V.ext 1 v37) fun v39=>
  Q v39 h
@[simp] def zg6.cps (C:CSem) (E:zx) (C0:CSem) (fL:Nat) (f1:Nat) (v0 v1 v2 v3 v4 v5:AVal) (h:za) (Q:zQ):Prop:=
 zg6.k1 C E C0 fL f1 Q v0 v1 v2 v3 v4 v5 h
@[simp] def zg5.k1 (C:CSem) (E:zx) (C0:CSem) (fL:Nat) (Q:zQ) (v0 v1 v2 v3 v4:AVal) (h:za):Prop:=
 B.pv (V.idxS E.es v0 v2) fun v15=>
  E.ld h v15 fun v16=>
  B.pv (V.idxS E.es v0 v1) fun v19=>
  E.ld h v19 fun v20=>
  B.call C0 fL [v16,v20] h fun v22 h=>
  B.cond v22
  (B.nilCheck v3 fun v24=>
  B.ld h v24 fun v25=>
  B.pv (V.bin .add v25 (.int .i64 1)) fun v26=>
  B.nilCheck v3 fun v27=>
  B.st h v27 v26 fun h=>
  Q (.tup [v2,v1]) h)
  (Q (.tup [v1,v2]) h)
@[simp] def zg5.cps (C:CSem) (E:zx) (C0:CSem) (fL:Nat) (v0 v1 v2 v3 v4:AVal) (h:za) (Q:zQ):Prop:=
 zg5.k1 C E C0 fL Q v0 v1 v2 v3 v4 h
end Go.Ab
