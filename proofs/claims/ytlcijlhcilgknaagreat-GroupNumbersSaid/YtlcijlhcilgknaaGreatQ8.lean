/- What is proved: a part of the way to the statement: SrtT. No conditions. -/
import Derived.Test.YtlcijlhcilgknaaGreatQ6
import Derived.Test.YtlcijlhcilgknaaGreatQ7
import Derived.Test.YtlcijlhcilgknaaGreatQ2
import Derived.KernelRfl
import Derived.Test.YtlcijlhcilgknaaGreatQ3
set_option linter.unusedVariables false
set_option linter.unusedSimpArgs false
set_option maxRecDepth 100000
namespace Go.Ab
open List
@[simp] def zd0.k1(C:zh)(E:z8)(C0:zh)(fL:Nat)(Q:zQ)(Y1:zL)(Y2:zL)(v0 v1 v2 v3 v8 v9:za)(h:zb):Prop:=B.pv (V.bin .gtr v9 v1) λv20=>B.gd h v20 true (λK=>K v0 h) λv23 h=>B.gd h v20 true (λK=>K v9 h) λv24 h=>B.gd h v20 true (λK=>B.pv (V.zb3 E.es v23 v24) λv=>K v h) λv25 h=>B.gd h v20 true (λK=>E.ld h v25 λv=>K v h) λv26 h=>B.gd h v20 true (λK=>K v0 h) λv27 h=>B.gd h v20 true (λK=>K v9 h) λv28 h=>B.gd h v20 true (λK=>B.pv (V.bin .sub v28 (.int .i64 1)) λv=>K v h) λv29 h=>B.gd h v20 true (λK=>B.pv (V.zb3 E.es v27 v29) λv=>K v h) λv30 h=>B.gd h v20 true (λK=>E.ld h v30 λv=>K v h) λv31 h=>B.gd h v20 true (λK=>B.call C0 fL [v26,v31] h K) λv33 h=>B.pick v20 v33 (.bool false) λv34=>B.cond v34 (B.pv (V.bin .sub v9 (.int .i64 1)) λv41=>B.pv (V.bin .sub v9 (.int .i64 1)) λv44=>B.pv (V.zb3 E.es v0 v44) λv45=>E.ld h v45 λv46=>B.pv (V.zb3 E.es v0 v9) λv49=>E.ld h v49 λv50=>B.pv (V.zb3 E.es v0 v9) λv51=>E.st h v51 v46 λh=>B.pv (V.zb3 E.es v0 v41) λv52=>E.st h v52 v50 λh=>B.pv (V.bin .sub v9 (.int .i64 1)) λv36=>Y2 [v36] h) (B.pv (V.bin .add v8 (.int .i64 1)) λv16=>Y1 [v16] h)
@[simp] def zd0.l2(C:zh)(E:z8)(C0:zh)(fL:Nat)(Q:zQ)(Y1:zL)(v0 v1 v2 v3 v8:za):zG|[v9],h,Y2=>zd0.k1 C E C0 fL Q Y1 Y2 v0 v1 v2 v3 v8 v9 h|_,_,_=>False
@[simp] def zd0.l3(C:zh)(E:z8)(C0:zh)(fL:Nat)(Q:zQ)(v0 v1 v2 v3:za):zG|[v8],h,Y1=>B.pv (V.bin .lss v8 v2) λv14=>B.cond v14 (zd (zd0.l2 C E C0 fL Q Y1 v0 v1 v2 v3 v8) [v8] h) (Q (.tup []) h)|_,_,_=>False
@[simp] def zd0.cps(C:zh)(E:z8)(C0:zh)(fL:Nat)(v0 v1 v2 v3:za)(h:zb)(Q:zQ):Prop:=B.pv (V.bin .add v1 (.int .i64 1)) λv11=>zd (zd0.l3 C E C0 fL Q v0 v1 v2 v3) [v11] h
@[simp] def zb4.k1(C:zh)(E:z8)(C0:zh)(fL:Nat)(f1 f2 f3 f4 f5 f6 f7 f8 f9:Nat)(Q:zQ)(Y1:zL)(v0 v1 v2 v3 v4 v10 v11 v12 v13:za)(h:zb):Prop:=B.pv (V.bin .gtr v1 (.int .i64 0)) λv82=>B.gd h v82 true (λK=>K v0 h) λv85 h=>B.gd h v82 true (λK=>K v1 h) λv86 h=>B.gd h v82 true (λK=>B.pv (V.bin .sub v86 (.int .i64 1)) λv=>K v h) λv87 h=>B.gd h v82 true (λK=>B.pv (V.zb3 E.es v85 v87) λv=>K v h) λv88 h=>B.gd h v82 true (λK=>E.ld h v88 λv=>K v h) λv89 h=>B.gd h v82 true (λK=>K v0 h) λv90 h=>B.gd h v82 true (λK=>K v13 h) λv91 h=>B.gd h v82 true (λK=>B.pv (V.zb3 E.es v90 v91) λv=>K v h) λv92 h=>B.gd h v82 true (λK=>E.ld h v92 λv=>K v h) λv93 h=>B.gd h v82 true (λK=>B.call C0 fL [v89,v93] h K) λv95 h=>B.gd h v82 true (λK=>B.pv (V.un .not v95) λv=>K v h) λv96 h=>B.pick v82 v96 (.bool false) λv97=>B.cond v97 (B.call C f1 [v0,v1,v2,v13,v4] h λv103 h=>Y1 [v103,v2,v3,v10,v11] h) (B.call C f2 [v0,v1,v2,v13,v4] h λv111 h=>B.pv (V.ext 0 v111) λv112=>B.pv (V.ext 1 v111) λv113=>B.pv (V.bin .sub v112 v1) λv117=>B.pv (V.bin .sub v2 v112) λv120=>B.pv (V.bin .quo v12 (.int .i64 8)) λv122=>B.pv (V.bin .lss v117 v120) λv125=>B.cond v125 (B.pv (V.bin .geq v117 v122) λv128=>B.call C f3 [v0,v1,v112,v3,v4] h λv134 h=>B.pv (V.bin .add v112 (.int .i64 1)) λv136=>Y1 [v136,v2,v3,v128,v113] h) (B.pv (V.bin .geq v120 v122) λv139=>B.pv (V.bin .add v112 (.int .i64 1)) λv142=>B.call C f3 [v0,v142,v2,v3,v4] h λv146 h=>Y1 [v1,v112,v3,v139,v113] h))
@[simp] def zb4.k2(C:zh)(E:z8)(C0:zh)(fL:Nat)(f1 f2 f3 f4 f5 f6 f7 f8 f9:Nat)(Q:zQ)(Y1:zL)(v0 v1 v2 v3 v4 v10 v11 v12 v13 v14:za)(h:zb):Prop:=B.gd h v10 true (λK=>K v11 h) λv70 h=>B.pick v10 v70 (.bool false) λv71=>B.gd h v71 true (λK=>K v14 h) λv73 h=>B.gd h v71 true (λK=>B.pv (V.bin .eql v73 (.int .i64 1)) λv=>K v h) λv74 h=>B.pick v71 v74 (.bool false) λv75=>B.cond v75 (B.call C f4 [v0,v1,v2,v4] h λv80 h=>B.cond v80 (Q (.tup []) h) (zb4.k1 C E C0 fL f1 f2 f3 f4 f5 f6 f7 f8 f9 Q Y1 v0 v1 v2 v3 v4 v10 v11 v12 v13 h)) (zb4.k1 C E C0 fL f1 f2 f3 f4 f5 f6 f7 f8 f9 Q Y1 v0 v1 v2 v3 v4 v10 v11 v12 v13 h)
@[simp] def zb4.k3(C:zh)(E:z8)(C0:zh)(fL:Nat)(f1 f2 f3 f4 f5 f6 f7 f8 f9:Nat)(Q:zQ)(Y1:zL)(v0 v1 v2 v3 v4 v10 v11 v12 v13 v14:za)(h:zb):Prop:=B.pv (V.bin .eql v14 (.int .i64 2)) λv56=>B.cond v56 (B.call C f5 [v0,v1,v2,v4] h λv61 h=>B.pv (V.bin .sub v2 (.int .i64 1)) λv63=>B.pv (V.bin .sub v13 v1) λv66=>B.pv (V.bin .sub v63 v66) λv67=>zb4.k2 C E C0 fL f1 f2 f3 f4 f5 f6 f7 f8 f9 Q Y1 v0 v1 v2 v3 v4 v10 v11 v12 v67 (.int .i64 1) h) (zb4.k2 C E C0 fL f1 f2 f3 f4 f5 f6 f7 f8 f9 Q Y1 v0 v1 v2 v3 v4 v10 v11 v12 v13 v14 h)
@[simp] def zb4.k4(C:zh)(E:z8)(C0:zh)(fL:Nat)(f1 f2 f3 f4 f5 f6 f7 f8 f9:Nat)(Q:zQ)(Y1:zL)(v0 v1 v2 v3 v4 v10 v11 v12:za)(h:zb):Prop:=B.call C f6 [v0,v1,v2,v4] h λv52 h=>B.pv (V.ext 0 v52) λv53=>B.pv (V.ext 1 v52) λv54=>zb4.k3 C E C0 fL f1 f2 f3 f4 f5 f6 f7 f8 f9 Q Y1 v0 v1 v2 v3 v4 v10 v11 v12 v53 v54 h
@[simp] def zb4.k5(C:zh)(E:z8)(C0:zh)(fL:Nat)(f1 f2 f3 f4 f5 f6 f7 f8 f9:Nat)(Q:zQ)(Y1:zL)(v0 v1 v2 v3 v4 v10 v11 v12:za)(h:zb):Prop:=B.pv (V.un .not v10) λv39=>B.cond v39 (B.call C f7 [v0,v1,v2,v4] h λv44 h=>B.pv (V.bin .sub v3 (.int .i64 1)) λv46=>zb4.k4 C E C0 fL f1 f2 f3 f4 f5 f6 f7 f8 f9 Q Y1 v0 v1 v2 v46 v4 v10 v11 v12 h) (zb4.k4 C E C0 fL f1 f2 f3 f4 f5 f6 f7 f8 f9 Q Y1 v0 v1 v2 v3 v4 v10 v11 v12 h)
@[simp] def zb4.k6(C:zh)(E:z8)(C0:zh)(fL:Nat)(f1 f2 f3 f4 f5 f6 f7 f8 f9:Nat)(Q:zQ)(Y1:zL)(v0 v1 v2 v3 v4 v10 v11 v12:za)(h:zb):Prop:=B.pv (V.bin .eql v3 (.int .i64 0)) λv32=>B.cond v32 (B.call C f8 [v0,v1,v2,v4] h λv37 h=>Q (.tup []) h) (zb4.k5 C E C0 fL f1 f2 f3 f4 f5 f6 f7 f8 f9 Q Y1 v0 v1 v2 v3 v4 v10 v11 v12 h)
@[simp] def zb4.k7(C:zh)(E:z8)(C0:zh)(fL:Nat)(f1 f2 f3 f4 f5 f6 f7 f8 f9:Nat)(Q:zQ)(Y1:zL)(v0 v1 v2 v3 v4 v10 v11 v12:za)(h:zb):Prop:=B.pv (V.bin .leq v12 (.int .i64 12)) λv25=>B.cond v25 (B.call C f9 [v0,v1,v2,v4] h λv30 h=>Q (.tup []) h) (zb4.k6 C E C0 fL f1 f2 f3 f4 f5 f6 f7 f8 f9 Q Y1 v0 v1 v2 v3 v4 v10 v11 v12 h)
@[simp] def zb4.l8(C:zh)(E:z8)(C0:zh)(fL:Nat)(f1 f2 f3 f4 f5 f6 f7 f8 f9:Nat)(Q:zQ)(v0 v4:za):zG|[v1,v2,v3,v10,v11],h,Y1=>B.pv (V.bin .sub v2 v1) λv23=>zb4.k7 C E C0 fL f1 f2 f3 f4 f5 f6 f7 f8 f9 Q Y1 v0 v1 v2 v3 v4 v10 v11 v23 h|_,_,_=>False
@[simp] def zb4.cps(C:zh)(E:z8)(C0:zh)(fL:Nat)(f1 f2 f3 f4 f5 f6 f7 f8 f9:Nat)(v0 v1 v2 v3 v4:za)(h:zb)(Q:zQ):Prop:=zd (zb4.l8 C E C0 fL f1 f2 f3 f4 f5 f6 f7 f8 f9 Q v0 v4) [v1,v2,v3,(.bool true),(.bool true)] h
@[simp] def zea.k1(C:zh)(E:z8)(C0:zh)(fL:Nat)(f1:Nat)(Q:zQ)(Y1:zL)(v0 v3 v8 v9 v12:za)(h:zb):Prop:=B.pv (V.bin .geq v12 (.int .i64 0)) λv33=>B.cond v33 (B.pv (V.bin .add v8 v12) λv41=>B.pv (V.bin .add v8 v12) λv45=>B.pv (V.zb3 E.es v0 v45) λv46=>E.ld h v46 λv47=>B.pv (V.zb3 E.es v0 v8) λv50=>E.ld h v50 λv51=>B.pv (V.zb3 E.es v0 v8) λv52=>E.st h v52 v47 λh=>B.pv (V.zb3 E.es v0 v41) λv53=>E.st h v53 v51 λh=>B.call C f1 [v0,v9,v12,v8,v3] h λv59 h=>B.pv (V.bin .sub v12 (.int .i64 1)) λv35=>Y1 [v35] h) (Q (.tup []) h)
@[simp] def zea.l2(C:zh)(E:z8)(C0:zh)(fL:Nat)(f1:Nat)(Q:zQ)(v0 v3 v8 v9:za):zG|[v12],h,Y1=>zea.k1 C E C0 fL f1 Q Y1 v0 v3 v8 v9 v12 h|_,_,_=>False
@[simp] def zea.k3(C:zh)(E:z8)(C0:zh)(fL:Nat)(f1:Nat)(Q:zQ)(Y2:zL)(v0 v3 v8 v9 v10 v11:za)(h:zb):Prop:=B.pv (V.bin .geq v11 (.int .i64 0)) λv21=>B.cond v21 (B.call C f1 [v0,v11,v10,v8,v3] h λv29 h=>B.pv (V.bin .sub v11 (.int .i64 1)) λv23=>Y2 [v23] h) (B.pv (V.bin .sub v10 (.int .i64 1)) λv31=>zd (zea.l2 C E C0 fL f1 Q v0 v3 v8 v9) [v31] h)
@[simp] def zea.l4(C:zh)(E:z8)(C0:zh)(fL:Nat)(f1:Nat)(Q:zQ)(v0 v3 v8 v9 v10:za):zG|[v11],h,Y2=>zea.k3 C E C0 fL f1 Q Y2 v0 v3 v8 v9 v10 v11 h|_,_,_=>False
@[simp] def zea.k5(C:zh)(E:z8)(C0:zh)(fL:Nat)(f1:Nat)(Q:zQ)(v0 v3 v8 v9 v10:za)(h:zb):Prop:=B.pv (V.bin .sub v10 (.int .i64 1)) λv18=>B.pv (V.bin .quo v18 (.int .i64 2)) λv19=>zd (zea.l4 C E C0 fL f1 Q v0 v3 v8 v9 v10) [v19] h
@[simp] def zea.cps(C:zh)(E:z8)(C0:zh)(fL:Nat)(f1:Nat)(v0 v1 v2 v3:za)(h:zb)(Q:zQ):Prop:=B.pv (V.bin .sub v2 v1) λv16=>zea.k5 C E C0 fL f1 Q v0 v3 v1 (.int .i64 0) v16 h
@[simp] def zbo.k1(C:zh)(E:z8)(C0:zh)(fL:Nat)(f1 f2:Nat)(Q:zQ)(Y1:zL)(v0 v1 v8 v9 v10 v11 v12:za)(h:zb):Prop:=B.pv (V.bin .add v1 v12) λv54=>B.pv (V.bin .add v1 v12) λv58=>B.pv (V.zb3 E.es v0 v58) λv59=>E.ld h v59 λv60=>B.pv (V.zb3 E.es v0 v11) λv63=>E.ld h v63 λv64=>B.pv (V.zb3 E.es v0 v11) λv65=>E.st h v65 v60 λh=>B.pv (V.zb3 E.es v0 v54) λv66=>E.st h v66 v64 λh=>B.pv (V.bin .add v11 (.int .i64 1)) λv37=>Y1 [v37] h
@[simp] def zbo.k2(C:zh)(E:z8)(C0:zh)(fL:Nat)(f1 f2:Nat)(Q:zQ)(Y1:zL)(v0 v1 v8 v9 v10 v11 v12:za)(h:zb):Prop:=B.pv (V.bin .geq v12 v8) λv45=>B.cond v45 (B.pv (V.bin .sub v12 v8) λv48=>zbo.k1 C E C0 fL f1 f2 Q Y1 v0 v1 v8 v9 v10 v11 v48 h) (zbo.k1 C E C0 fL f1 f2 Q Y1 v0 v1 v8 v9 v10 v11 v12 h)
@[simp] def zbo.k3(C:zh)(E:z8)(C0:zh)(fL:Nat)(f1 f2:Nat)(Q:zQ)(Y1:zL)(v0 v1 v8 v9 v10 v11:za)(h:zb):Prop:=B.call C0 f1 [v9] h λv38 h=>B.pv (V.bin .sub v10 (.int .u64 1)) λv40=>B.pv (V.bin .and v38 v40) λv41=>B.pv (V.toInt .i64 v41) λv42=>zbo.k2 C E C0 fL f1 f2 Q Y1 v0 v1 v8 v9 v10 v11 v42 h
@[simp] def zbo.k4(C:zh)(E:z8)(C0:zh)(fL:Nat)(f1 f2:Nat)(Q:zQ)(Y1:zL)(v0 v1 v8 v9 v10 v11:za)(h:zb):Prop:=B.pv (V.bin .quo v8 (.int .i64 4)) λv31=>B.pv (V.bin .mul v31 (.int .i64 2)) λv32=>B.pv (V.bin .add v1 v32) λv33=>B.pv (V.bin .add v33 (.int .i64 1)) λv34=>B.pv (V.bin .leq v11 v34) λv35=>B.cond v35 (zbo.k3 C E C0 fL f1 f2 Q Y1 v0 v1 v8 v9 v10 v11 h) (Q (.tup []) h)
@[simp] def zbo.l5(C:zh)(E:z8)(C0:zh)(fL:Nat)(f1 f2:Nat)(Q:zQ)(v0 v1 v8 v9 v10:za):zG|[v11],h,Y1=>zbo.k4 C E C0 fL f1 f2 Q Y1 v0 v1 v8 v9 v10 v11 h|_,_,_=>False
@[simp] def zbo.k6(C:zh)(E:z8)(C0:zh)(fL:Nat)(f1 f2:Nat)(Q:zQ)(v0 v1 v8 v9 v10:za)(h:zb):Prop:=B.pv (V.bin .quo v8 (.int .i64 4)) λv24=>B.pv (V.bin .mul v24 (.int .i64 2)) λv25=>B.pv (V.bin .add v1 v25) λv26=>B.pv (V.bin .sub v26 (.int .i64 1)) λv27=>zd (zbo.l5 C E C0 fL f1 f2 Q v0 v1 v8 v9 v10) [v27] h
@[simp] def zbo.k7(C:zh)(E:z8)(C0:zh)(fL:Nat)(f1 f2:Nat)(Q:zQ)(v0 v1 v8:za)(h:zb):Prop:=B.pv (V.toInt .u64 v8) λv19=>B.zg1 h (some [.int .u64 0]) λi9 h=>B.st h (.ptr i9 0 0) v19 λh=>B.call C0 f2 [v8] h λv21 h=>zbo.k6 C E C0 fL f1 f2 Q v0 v1 v8 (.ptr i9 0 0) v21 h
@[simp] def zbo.k8(C:zh)(E:z8)(C0:zh)(fL:Nat)(f1 f2:Nat)(Q:zQ)(v0 v1 v2:za)(h:zb):Prop:=B.pv (V.bin .sub v2 v1) λv15=>B.pv (V.bin .geq v15 (.int .i64 8)) λv17=>B.cond v17 (zbo.k7 C E C0 fL f1 f2 Q v0 v1 v15 h) (Q (.tup []) h)
@[simp] def zbo.cps(C:zh)(E:z8)(C0:zh)(fL:Nat)(f1 f2:Nat)(v0 v1 v2 v3:za)(h:zb)(Q:zQ):Prop:=zbo.k8 C E C0 fL f1 f2 Q v0 v1 v2 h
@[simp] def zb6.k1(C:zh)(E:z8)(C0:zh)(fL:Nat)(f1 f2:Nat)(Q:zQ)(v11 v13:za)(h:zb):Prop:=B.ld h v11 λv55=>B.pv (V.bin .eql v55 (.int .i64 0)) λv58=>B.cond v58 (Q (.tup [v13,(.int .i64 1)]) h) (B.pv (V.bin .eql v55 (.int .i64 12)) λv61=>B.cond v61 (Q (.tup [v13,(.int .i64 2)]) h) (Q (.tup [v13,(.int .i64 0)]) h))
@[simp] def zb6.k2(C:zh)(E:z8)(C0:zh)(fL:Nat)(f1 f2:Nat)(Q:zQ)(v0 v3 v10 v11 v12 v13 v14:za)(h:zb):Prop:=B.pv (V.bin .geq v10 (.int .i64 50)) λv36=>B.cond v36 (B.call C f2 [v0,v12,v11,v3] h λv40 h=>B.call C f2 [v0,v13,v11,v3] h λv44 h=>B.call C f2 [v0,v14,v11,v3] h λv48 h=>B.call C f1 [v0,v40,v44,v48,v11,v3] h λv54 h=>zb6.k1 C E C0 fL f1 f2 Q v11 v54 h) (B.call C f1 [v0,v12,v13,v14,v11,v3] h λv54 h=>zb6.k1 C E C0 fL f1 f2 Q v11 v54 h)
@[simp] def zb6.k3(C:zh)(E:z8)(C0:zh)(fL:Nat)(f1 f2:Nat)(Q:zQ)(v0 v3 v10 v11 v12 v13 v14:za)(h:zb):Prop:=B.pv (V.bin .geq v10 (.int .i64 8)) λv34=>B.cond v34 (zb6.k2 C E C0 fL f1 f2 Q v0 v3 v10 v11 v12 v13 v14 h) (zb6.k1 C E C0 fL f1 f2 Q v11 v13 h)
@[simp] def zb6.k4(C:zh)(E:z8)(C0:zh)(fL:Nat)(f1 f2:Nat)(Q:zQ)(v0 v1 v3 v10 v11 v12 v13:za)(h:zb):Prop:=B.pv (V.bin .quo v10 (.int .i64 4)) λv30=>B.pv (V.bin .mul v30 (.int .i64 3)) λv31=>B.pv (V.bin .add v1 v31) λv32=>zb6.k3 C E C0 fL f1 f2 Q v0 v3 v10 v11 v12 v13 v32 h
@[simp] def zb6.k5(C:zh)(E:z8)(C0:zh)(fL:Nat)(f1 f2:Nat)(Q:zQ)(v0 v1 v3 v10 v11 v12:za)(h:zb):Prop:=B.pv (V.bin .quo v10 (.int .i64 4)) λv25=>B.pv (V.bin .mul v25 (.int .i64 2)) λv26=>B.pv (V.bin .add v1 v26) λv27=>zb6.k4 C E C0 fL f1 f2 Q v0 v1 v3 v10 v11 v12 v27 h
@[simp] def zb6.k6(C:zh)(E:z8)(C0:zh)(fL:Nat)(f1 f2:Nat)(Q:zQ)(v0 v1 v3 v10 v11:za)(h:zb):Prop:=B.pv (V.bin .quo v10 (.int .i64 4)) λv20=>B.pv (V.bin .mul v20 (.int .i64 1)) λv21=>B.pv (V.bin .add v1 v21) λv22=>zb6.k5 C E C0 fL f1 f2 Q v0 v1 v3 v10 v11 v22 h
@[simp] def zb6.cps(C:zh)(E:z8)(C0:zh)(fL:Nat)(f1 f2:Nat)(v0 v1 v2 v3:za)(h:zb)(Q:zQ):Prop:=B.pv (V.bin .sub v2 v1) λv17=>B.zg1 h (some [.int .i64 0]) λi11 h=>zb6.k6 C E C0 fL f1 f2 Q v0 v1 v3 v17 (.ptr i11 0 0) h
@[simp] def zf0.k1(C:zh)(E:z8)(C0:zh)(fL:Nat)(Q:zQ)(Y1:zL)(v0 v8 v9:za)(h:zb):Prop:=B.pv (V.bin .lss v8 v9) λv15=>B.cond v15 (B.pv (V.zb3 E.es v0 v9) λv22=>E.ld h v22 λv23=>B.pv (V.zb3 E.es v0 v8) λv26=>E.ld h v26 λv27=>B.pv (V.zb3 E.es v0 v8) λv28=>E.st h v28 v23 λh=>B.pv (V.zb3 E.es v0 v9) λv29=>E.st h v29 v27 λh=>B.pv (V.bin .add v8 (.int .i64 1)) λv31=>B.pv (V.bin .sub v9 (.int .i64 1)) λv33=>Y1 [v31,v33] h) (Q (.tup []) h)
@[simp] def zf0.l2(C:zh)(E:z8)(C0:zh)(fL:Nat)(Q:zQ)(v0:za):zG|[v8,v9],h,Y1=>zf0.k1 C E C0 fL Q Y1 v0 v8 v9 h|_,_,_=>False
@[simp] def zf0.cps(C:zh)(E:z8)(C0:zh)(fL:Nat)(v0 v1 v2 v3:za)(h:zb)(Q:zQ):Prop:=B.pv (V.bin .sub v2 (.int .i64 1)) λv12=>zd (zf0.l2 C E C0 fL Q v0) [v1,v12] h
@[simp] def zk.k1(C:zh)(E:z8)(C0:zh)(fL:Nat)(Q:zQ)(Y1:zL)(Y2:zL)(v0 v1 v2 v3 v9 v10 v12:za)(h:zb):Prop:=B.pv (V.bin .lss v12 v2) λv109=>B.cond v109 (B.pv (V.zb3 E.es v0 v12) λv115=>E.ld h v115 λv116=>B.pv (V.bin .sub v12 (.int .i64 1)) λv119=>B.pv (V.zb3 E.es v0 v119) λv120=>E.ld h v120 λv121=>B.call C0 fL [v116,v121] h λv123 h=>B.pv (V.un .not v123) λv124=>B.cond v124 (B.pv (V.bin .add v10 (.int .i64 1)) λv18=>Y1 [v9,v18] h) (B.pv (V.bin .sub v12 (.int .i64 1)) λv129=>B.pv (V.bin .sub v12 (.int .i64 1)) λv132=>B.pv (V.zb3 E.es v0 v132) λv133=>E.ld h v133 λv134=>B.pv (V.zb3 E.es v0 v12) λv137=>E.ld h v137 λv138=>B.pv (V.zb3 E.es v0 v12) λv139=>E.st h v139 v134 λh=>B.pv (V.zb3 E.es v0 v129) λv140=>E.st h v140 v138 λh=>B.pv (V.bin .add v12 (.int .i64 1)) λv111=>Y2 [v111] h)) (B.pv (V.bin .add v10 (.int .i64 1)) λv18=>Y1 [v9,v18] h)
@[simp] def zk.l2(C:zh)(E:z8)(C0:zh)(fL:Nat)(Q:zQ)(Y1:zL)(v0 v1 v2 v3 v9 v10:za):zG|[v12],h,Y2=>zk.k1 C E C0 fL Q Y1 Y2 v0 v1 v2 v3 v9 v10 v12 h|_,_,_=>False
@[simp] def zk.k3(C:zh)(E:z8)(C0:zh)(fL:Nat)(Q:zQ)(Y1:zL)(v0 v1 v2 v3 v9 v10:za)(h:zb):Prop:=B.pv (V.bin .sub v2 v9) λv103=>B.pv (V.bin .geq v103 (.int .i64 2)) λv104=>B.cond v104 (B.pv (V.bin .add v9 (.int .i64 1)) λv106=>zd (zk.l2 C E C0 fL Q Y1 v0 v1 v2 v3 v9 v10) [v106] h) (B.pv (V.bin .add v10 (.int .i64 1)) λv18=>Y1 [v9,v18] h)
@[simp] def zk.k4(C:zh)(E:z8)(C0:zh)(fL:Nat)(Q:zQ)(Y1:zL)(Y3:zL)(v0 v1 v2 v3 v9 v10 v11:za)(h:zb):Prop:=B.pv (V.bin .geq v11 (.int .i64 1)) λv69=>B.cond v69 (B.pv (V.zb3 E.es v0 v11) λv75=>E.ld h v75 λv76=>B.pv (V.bin .sub v11 (.int .i64 1)) λv79=>B.pv (V.zb3 E.es v0 v79) λv80=>E.ld h v80 λv81=>B.call C0 fL [v76,v81] h λv83 h=>B.pv (V.un .not v83) λv84=>B.cond v84 (zk.k3 C E C0 fL Q Y1 v0 v1 v2 v3 v9 v10 h) (B.pv (V.bin .sub v11 (.int .i64 1)) λv89=>B.pv (V.bin .sub v11 (.int .i64 1)) λv92=>B.pv (V.zb3 E.es v0 v92) λv93=>E.ld h v93 λv94=>B.pv (V.zb3 E.es v0 v11) λv97=>E.ld h v97 λv98=>B.pv (V.zb3 E.es v0 v11) λv99=>E.st h v99 v94 λh=>B.pv (V.zb3 E.es v0 v89) λv100=>E.st h v100 v98 λh=>B.pv (V.bin .sub v11 (.int .i64 1)) λv71=>Y3 [v71] h)) (zk.k3 C E C0 fL Q Y1 v0 v1 v2 v3 v9 v10 h)
@[simp] def zk.l5(C:zh)(E:z8)(C0:zh)(fL:Nat)(Q:zQ)(Y1:zL)(v0 v1 v2 v3 v9 v10:za):zG|[v11],h,Y3=>zk.k4 C E C0 fL Q Y1 Y3 v0 v1 v2 v3 v9 v10 v11 h|_,_,_=>False
@[simp] def zk.k6(C:zh)(E:z8)(C0:zh)(fL:Nat)(Q:zQ)(Y1:zL)(v0 v1 v2 v3 v9 v10:za)(h:zb):Prop:=B.pv (V.bin .sub v9 v1) λv64=>B.pv (V.bin .geq v64 (.int .i64 2)) λv65=>B.cond v65 (B.pv (V.bin .sub v9 (.int .i64 1)) λv67=>zd (zk.l5 C E C0 fL Q Y1 v0 v1 v2 v3 v9 v10) [v67] h) (zk.k3 C E C0 fL Q Y1 v0 v1 v2 v3 v9 v10 h)
@[simp] def zk.k7(C:zh)(E:z8)(C0:zh)(fL:Nat)(Q:zQ)(Y1:zL)(v0 v1 v2 v3 v9 v10:za)(h:zb):Prop:=B.pv (V.bin .sub v9 (.int .i64 1)) λv50=>B.pv (V.bin .sub v9 (.int .i64 1)) λv53=>B.pv (V.zb3 E.es v0 v53) λv54=>E.ld h v54 λv55=>B.pv (V.zb3 E.es v0 v9) λv58=>E.ld h v58 λv59=>B.pv (V.zb3 E.es v0 v9) λv60=>E.st h v60 v55 λh=>B.pv (V.zb3 E.es v0 v50) λv61=>E.st h v61 v59 λh=>zk.k6 C E C0 fL Q Y1 v0 v1 v2 v3 v9 v10 h
@[simp] def zk.k8(C:zh)(E:z8)(C0:zh)(fL:Nat)(Q:zQ)(Y1:zL)(v0 v1 v2 v3 v9 v10:za)(h:zb):Prop:=B.pv (V.bin .sub v2 v1) λv44=>B.pv (V.bin .lss v44 (.int .i64 50)) λv45=>B.cond v45 (Q (.bool false) h) (zk.k7 C E C0 fL Q Y1 v0 v1 v2 v3 v9 v10 h)
@[simp] def zk.k9(C:zh)(E:z8)(C0:zh)(fL:Nat)(Q:zQ)(Y1:zL)(Y4:zL)(v0 v1 v2 v3 v9 v10:za)(h:zb):Prop:=B.pv (V.bin .lss v9 v2) λv21=>B.gd h v21 true (λK=>K v0 h) λv24 h=>B.gd h v21 true (λK=>K v9 h) λv25 h=>B.gd h v21 true (λK=>B.pv (V.zb3 E.es v24 v25) λv=>K v h) λv26 h=>B.gd h v21 true (λK=>E.ld h v26 λv=>K v h) λv27 h=>B.gd h v21 true (λK=>K v0 h) λv28 h=>B.gd h v21 true (λK=>K v9 h) λv29 h=>B.gd h v21 true (λK=>B.pv (V.bin .sub v29 (.int .i64 1)) λv=>K v h) λv30 h=>B.gd h v21 true (λK=>B.pv (V.zb3 E.es v28 v30) λv=>K v h) λv31 h=>B.gd h v21 true (λK=>E.ld h v31 λv=>K v h) λv32 h=>B.gd h v21 true (λK=>B.call C0 fL [v27,v32] h K) λv34 h=>B.gd h v21 true (λK=>B.pv (V.un .not v34) λv=>K v h) λv35 h=>B.pick v21 v35 (.bool false) λv36=>B.cond v36 (B.pv (V.bin .add v9 (.int .i64 1)) λv38=>Y4 [v38] h) (B.pv (V.bin .eql v9 v2) λv41=>B.cond v41 (Q (.bool true) h) (zk.k8 C E C0 fL Q Y1 v0 v1 v2 v3 v9 v10 h))
@[simp] def zk.l10(C:zh)(E:z8)(C0:zh)(fL:Nat)(Q:zQ)(Y1:zL)(v0 v1 v2 v3 v10:za):zG|[v9],h,Y4=>zk.k9 C E C0 fL Q Y1 Y4 v0 v1 v2 v3 v9 v10 h|_,_,_=>False
@[simp] def zk.k11(C:zh)(E:z8)(C0:zh)(fL:Nat)(Q:zQ)(Y1:zL)(v0 v1 v2 v3 v9 v10:za)(h:zb):Prop:=B.pv (V.bin .lss v10 (.int .i64 5)) λv16=>B.cond v16 (zd (zk.l10 C E C0 fL Q Y1 v0 v1 v2 v3 v10) [v9] h) (Q (.bool false) h)
@[simp] def zk.l12(C:zh)(E:z8)(C0:zh)(fL:Nat)(Q:zQ)(v0 v1 v2 v3:za):zG|[v9,v10],h,Y1=>zk.k11 C E C0 fL Q Y1 v0 v1 v2 v3 v9 v10 h|_,_,_=>False
@[simp] def zk.cps(C:zh)(E:z8)(C0:zh)(fL:Nat)(v0 v1 v2 v3:za)(h:zb)(Q:zQ):Prop:=B.pv (V.bin .add v1 (.int .i64 1)) λv14=>zd (zk.l12 C E C0 fL Q v0 v1 v2 v3) [v14,(.int .i64 0)] h
@[simp] def zbh.k1(C:zh)(E:z8)(C0:zh)(fL:Nat)(Q:zQ)(Y1:zL)(v0 v1 v4 v11 v12:za)(h:zb):Prop:=B.pv (V.bin .gtr v11 v12) λv70=>B.cond v70 (Q v11 h) (B.pv (V.zb3 E.es v0 v12) λv77=>E.ld h v77 λv78=>B.pv (V.zb3 E.es v0 v11) λv81=>E.ld h v81 λv82=>B.pv (V.zb3 E.es v0 v11) λv83=>E.st h v83 v78 λh=>B.pv (V.zb3 E.es v0 v12) λv84=>E.st h v84 v82 λh=>B.pv (V.bin .add v11 (.int .i64 1)) λv86=>B.pv (V.bin .sub v12 (.int .i64 1)) λv88=>Y1 [v86,v88] h)
@[simp] def zbh.k2(C:zh)(E:z8)(C0:zh)(fL:Nat)(Q:zQ)(Y1:zL)(Y2:zL)(v0 v1 v4 v11 v12:za)(h:zb):Prop:=B.pv (V.bin .leq v11 v12) λv52=>B.gd h v52 true (λK=>K v0 h) λv55 h=>B.gd h v52 true (λK=>K v1 h) λv56 h=>B.gd h v52 true (λK=>B.pv (V.zb3 E.es v55 v56) λv=>K v h) λv57 h=>B.gd h v52 true (λK=>E.ld h v57 λv=>K v h) λv58 h=>B.gd h v52 true (λK=>K v0 h) λv59 h=>B.gd h v52 true (λK=>K v12 h) λv60 h=>B.gd h v52 true (λK=>B.pv (V.zb3 E.es v59 v60) λv=>K v h) λv61 h=>B.gd h v52 true (λK=>E.ld h v61 λv=>K v h) λv62 h=>B.gd h v52 true (λK=>B.call C0 fL [v58,v62] h K) λv64 h=>B.pick v52 v64 (.bool false) λv65=>B.cond v65 (B.pv (V.bin .sub v12 (.int .i64 1)) λv67=>Y2 [v67] h) (zbh.k1 C E C0 fL Q Y1 v0 v1 v4 v11 v12 h)
@[simp] def zbh.l3(C:zh)(E:z8)(C0:zh)(fL:Nat)(Q:zQ)(Y1:zL)(v0 v1 v4 v11:za):zG|[v12],h,Y2=>zbh.k2 C E C0 fL Q Y1 Y2 v0 v1 v4 v11 v12 h|_,_,_=>False
@[simp] def zbh.k4(C:zh)(E:z8)(C0:zh)(fL:Nat)(Q:zQ)(Y1:zL)(Y3:zL)(v0 v1 v4 v11 v12:za)(h:zb):Prop:=B.pv (V.bin .leq v11 v12) λv33=>B.gd h v33 true (λK=>K v0 h) λv36 h=>B.gd h v33 true (λK=>K v1 h) λv37 h=>B.gd h v33 true (λK=>B.pv (V.zb3 E.es v36 v37) λv=>K v h) λv38 h=>B.gd h v33 true (λK=>E.ld h v38 λv=>K v h) λv39 h=>B.gd h v33 true (λK=>K v0 h) λv40 h=>B.gd h v33 true (λK=>K v11 h) λv41 h=>B.gd h v33 true (λK=>B.pv (V.zb3 E.es v40 v41) λv=>K v h) λv42 h=>B.gd h v33 true (λK=>E.ld h v42 λv=>K v h) λv43 h=>B.gd h v33 true (λK=>B.call C0 fL [v39,v43] h K) λv45 h=>B.gd h v33 true (λK=>B.pv (V.un .not v45) λv=>K v h) λv46 h=>B.pick v33 v46 (.bool false) λv47=>B.cond v47 (B.pv (V.bin .add v11 (.int .i64 1)) λv49=>Y3 [v49] h) (zd (zbh.l3 C E C0 fL Q Y1 v0 v1 v4 v11) [v12] h)
@[simp] def zbh.l5(C:zh)(E:z8)(C0:zh)(fL:Nat)(Q:zQ)(Y1:zL)(v0 v1 v4 v12:za):zG|[v11],h,Y3=>zbh.k4 C E C0 fL Q Y1 Y3 v0 v1 v4 v11 v12 h|_,_,_=>False
@[simp] def zbh.l6(C:zh)(E:z8)(C0:zh)(fL:Nat)(Q:zQ)(v0 v1 v4:za):zG|[v11,v12],h,Y1=>zd (zbh.l5 C E C0 fL Q Y1 v0 v1 v4 v12) [v11] h|_,_,_=>False
@[simp] def zbh.k7(C:zh)(E:z8)(C0:zh)(fL:Nat)(Q:zQ)(v0 v1 v2 v4:za)(h:zb):Prop:=B.pv (V.bin .add v1 (.int .i64 1)) λv28=>B.pv (V.bin .sub v2 (.int .i64 1)) λv30=>zd (zbh.l6 C E C0 fL Q v0 v1 v4) [v28,v30] h
@[simp] def zbh.k8(C:zh)(E:z8)(C0:zh)(fL:Nat)(Q:zQ)(v0 v1 v2 v3 v4:za)(h:zb):Prop:=B.pv (V.zb3 E.es v0 v3) λv19=>E.ld h v19 λv20=>B.pv (V.zb3 E.es v0 v1) λv23=>E.ld h v23 λv24=>B.pv (V.zb3 E.es v0 v1) λv25=>E.st h v25 v20 λh=>B.pv (V.zb3 E.es v0 v3) λv26=>E.st h v26 v24 λh=>zbh.k7 C E C0 fL Q v0 v1 v2 v4 h
@[simp] def zbh.cps(C:zh)(E:z8)(C0:zh)(fL:Nat)(v0 v1 v2 v3 v4:za)(h:zb)(Q:zQ):Prop:=zbh.k8 C E C0 fL Q v0 v1 v2 v3 v4 h
@[simp] def zw.k1(C:zh)(E:z8)(C0:zh)(fL:Nat)(Q:zQ)(v0 v1 v13:za)(h:zb):Prop:=B.pv (V.zb3 E.es v0 v1) λv169=>E.ld h v169 λv170=>B.pv (V.zb3 E.es v0 v13) λv173=>E.ld h v173 λv174=>B.pv (V.zb3 E.es v0 v13) λv175=>E.st h v175 v170 λh=>B.pv (V.zb3 E.es v0 v1) λv176=>E.st h v176 v174 λh=>Q (.tup [v13,(.bool false)]) h
@[simp] def zw.k2(C:zh)(E:z8)(C0:zh)(fL:Nat)(Q:zQ)(Y1:zL)(v0 v1 v4 v12 v13:za)(h:zb):Prop:=B.pv (V.bin .gtr v12 v13) λv144=>B.cond v144 (zw.k1 C E C0 fL Q v0 v1 v13 h) (B.pv (V.zb3 E.es v0 v13) λv151=>E.ld h v151 λv152=>B.pv (V.zb3 E.es v0 v12) λv155=>E.ld h v155 λv156=>B.pv (V.zb3 E.es v0 v12) λv157=>E.st h v157 v152 λh=>B.pv (V.zb3 E.es v0 v13) λv158=>E.st h v158 v156 λh=>B.pv (V.bin .add v12 (.int .i64 1)) λv160=>B.pv (V.bin .sub v13 (.int .i64 1)) λv162=>Y1 [v160,v162] h)
@[simp] def zw.k3(C:zh)(E:z8)(C0:zh)(fL:Nat)(Q:zQ)(Y1:zL)(Y2:zL)(v0 v1 v4 v12 v13:za)(h:zb):Prop:=B.pv (V.bin .leq v12 v13) λv125=>B.gd h v125 true (λK=>K v0 h) λv128 h=>B.gd h v125 true (λK=>K v13 h) λv129 h=>B.gd h v125 true (λK=>B.pv (V.zb3 E.es v128 v129) λv=>K v h) λv130 h=>B.gd h v125 true (λK=>E.ld h v130 λv=>K v h) λv131 h=>B.gd h v125 true (λK=>K v0 h) λv132 h=>B.gd h v125 true (λK=>K v1 h) λv133 h=>B.gd h v125 true (λK=>B.pv (V.zb3 E.es v132 v133) λv=>K v h) λv134 h=>B.gd h v125 true (λK=>E.ld h v134 λv=>K v h) λv135 h=>B.gd h v125 true (λK=>B.call C0 fL [v131,v135] h K) λv137 h=>B.gd h v125 true (λK=>B.pv (V.un .not v137) λv=>K v h) λv138 h=>B.pick v125 v138 (.bool false) λv139=>B.cond v139 (B.pv (V.bin .sub v13 (.int .i64 1)) λv141=>Y2 [v141] h) (zw.k2 C E C0 fL Q Y1 v0 v1 v4 v12 v13 h)
@[simp] def zw.l4(C:zh)(E:z8)(C0:zh)(fL:Nat)(Q:zQ)(Y1:zL)(v0 v1 v4 v12:za):zG|[v13],h,Y2=>zw.k3 C E C0 fL Q Y1 Y2 v0 v1 v4 v12 v13 h|_,_,_=>False
@[simp] def zw.k5(C:zh)(E:z8)(C0:zh)(fL:Nat)(Q:zQ)(Y1:zL)(Y3:zL)(v0 v1 v4 v12 v13:za)(h:zb):Prop:=B.pv (V.bin .leq v12 v13) λv107=>B.gd h v107 true (λK=>K v0 h) λv110 h=>B.gd h v107 true (λK=>K v12 h) λv111 h=>B.gd h v107 true (λK=>B.pv (V.zb3 E.es v110 v111) λv=>K v h) λv112 h=>B.gd h v107 true (λK=>E.ld h v112 λv=>K v h) λv113 h=>B.gd h v107 true (λK=>K v0 h) λv114 h=>B.gd h v107 true (λK=>K v1 h) λv115 h=>B.gd h v107 true (λK=>B.pv (V.zb3 E.es v114 v115) λv=>K v h) λv116 h=>B.gd h v107 true (λK=>E.ld h v116 λv=>K v h) λv117 h=>B.gd h v107 true (λK=>B.call C0 fL [v113,v117] h K) λv119 h=>B.pick v107 v119 (.bool false) λv120=>B.cond v120 (B.pv (V.bin .add v12 (.int .i64 1)) λv122=>Y3 [v122] h) (zd (zw.l4 C E C0 fL Q Y1 v0 v1 v4 v12) [v13] h)
@[simp] def zw.l6(C:zh)(E:z8)(C0:zh)(fL:Nat)(Q:zQ)(Y1:zL)(v0 v1 v4 v13:za):zG|[v12],h,Y3=>zw.k5 C E C0 fL Q Y1 Y3 v0 v1 v4 v12 v13 h|_,_,_=>False
@[simp] def zw.l7(C:zh)(E:z8)(C0:zh)(fL:Nat)(Q:zQ)(v0 v1 v4:za):zG|[v12,v13],h,Y1=>zd (zw.l6 C E C0 fL Q Y1 v0 v1 v4 v13) [v12] h|_,_,_=>False
@[simp] def zw.k8(C:zh)(E:z8)(C0:zh)(fL:Nat)(Q:zQ)(v0 v1 v4 v12 v13:za)(h:zb):Prop:=B.pv (V.bin .add v12 (.int .i64 1)) λv102=>B.pv (V.bin .sub v13 (.int .i64 1)) λv104=>zd (zw.l7 C E C0 fL Q v0 v1 v4) [v102,v104] h
@[simp] def zw.k9(C:zh)(E:z8)(C0:zh)(fL:Nat)(Q:zQ)(v0 v1 v4 v12 v13:za)(h:zb):Prop:=B.pv (V.zb3 E.es v0 v13) λv93=>E.ld h v93 λv94=>B.pv (V.zb3 E.es v0 v12) λv97=>E.ld h v97 λv98=>B.pv (V.zb3 E.es v0 v12) λv99=>E.st h v99 v94 λh=>B.pv (V.zb3 E.es v0 v13) λv100=>E.st h v100 v98 λh=>zw.k8 C E C0 fL Q v0 v1 v4 v12 v13 h
@[simp] def zw.k10(C:zh)(E:z8)(C0:zh)(fL:Nat)(Q:zQ)(v0 v1 v4 v12 v13:za)(h:zb):Prop:=B.pv (V.bin .gtr v12 v13) λv71=>B.cond v71 (B.pv (V.zb3 E.es v0 v1) λv78=>E.ld h v78 λv79=>B.pv (V.zb3 E.es v0 v13) λv82=>E.ld h v82 λv83=>B.pv (V.zb3 E.es v0 v13) λv84=>E.st h v84 v79 λh=>B.pv (V.zb3 E.es v0 v1) λv85=>E.st h v85 v83 λh=>Q (.tup [v13,(.bool true)]) h) (zw.k9 C E C0 fL Q v0 v1 v4 v12 v13 h)
@[simp] def zw.k11(C:zh)(E:z8)(C0:zh)(fL:Nat)(Q:zQ)(Y4:zL)(v0 v1 v4 v12 v13:za)(h:zb):Prop:=B.pv (V.bin .leq v12 v13) λv52=>B.gd h v52 true (λK=>K v0 h) λv55 h=>B.gd h v52 true (λK=>K v13 h) λv56 h=>B.gd h v52 true (λK=>B.pv (V.zb3 E.es v55 v56) λv=>K v h) λv57 h=>B.gd h v52 true (λK=>E.ld h v57 λv=>K v h) λv58 h=>B.gd h v52 true (λK=>K v0 h) λv59 h=>B.gd h v52 true (λK=>K v1 h) λv60 h=>B.gd h v52 true (λK=>B.pv (V.zb3 E.es v59 v60) λv=>K v h) λv61 h=>B.gd h v52 true (λK=>E.ld h v61 λv=>K v h) λv62 h=>B.gd h v52 true (λK=>B.call C0 fL [v58,v62] h K) λv64 h=>B.gd h v52 true (λK=>B.pv (V.un .not v64) λv=>K v h) λv65 h=>B.pick v52 v65 (.bool false) λv66=>B.cond v66 (B.pv (V.bin .sub v13 (.int .i64 1)) λv68=>Y4 [v68] h) (zw.k10 C E C0 fL Q v0 v1 v4 v12 v13 h)
@[simp] def zw.l12(C:zh)(E:z8)(C0:zh)(fL:Nat)(Q:zQ)(v0 v1 v4 v12:za):zG|[v13],h,Y4=>zw.k11 C E C0 fL Q Y4 v0 v1 v4 v12 v13 h|_,_,_=>False
@[simp] def zw.k13(C:zh)(E:z8)(C0:zh)(fL:Nat)(Q:zQ)(Y5:zL)(v0 v1 v4 v12 v13:za)(h:zb):Prop:=B.pv (V.bin .leq v12 v13) λv34=>B.gd h v34 true (λK=>K v0 h) λv37 h=>B.gd h v34 true (λK=>K v12 h) λv38 h=>B.gd h v34 true (λK=>B.pv (V.zb3 E.es v37 v38) λv=>K v h) λv39 h=>B.gd h v34 true (λK=>E.ld h v39 λv=>K v h) λv40 h=>B.gd h v34 true (λK=>K v0 h) λv41 h=>B.gd h v34 true (λK=>K v1 h) λv42 h=>B.gd h v34 true (λK=>B.pv (V.zb3 E.es v41 v42) λv=>K v h) λv43 h=>B.gd h v34 true (λK=>E.ld h v43 λv=>K v h) λv44 h=>B.gd h v34 true (λK=>B.call C0 fL [v40,v44] h K) λv46 h=>B.pick v34 v46 (.bool false) λv47=>B.cond v47 (B.pv (V.bin .add v12 (.int .i64 1)) λv49=>Y5 [v49] h) (zd (zw.l12 C E C0 fL Q v0 v1 v4 v12) [v13] h)
@[simp] def zw.l14(C:zh)(E:z8)(C0:zh)(fL:Nat)(Q:zQ)(v0 v1 v4 v13:za):zG|[v12],h,Y5=>zw.k13 C E C0 fL Q Y5 v0 v1 v4 v12 v13 h|_,_,_=>False
@[simp] def zw.k15(C:zh)(E:z8)(C0:zh)(fL:Nat)(Q:zQ)(v0 v1 v2 v4:za)(h:zb):Prop:=B.pv (V.bin .add v1 (.int .i64 1)) λv29=>B.pv (V.bin .sub v2 (.int .i64 1)) λv31=>zd (zw.l14 C E C0 fL Q v0 v1 v4 v31) [v29] h
@[simp] def zw.k16(C:zh)(E:z8)(C0:zh)(fL:Nat)(Q:zQ)(v0 v1 v2 v3 v4:za)(h:zb):Prop:=B.pv (V.zb3 E.es v0 v3) λv20=>E.ld h v20 λv21=>B.pv (V.zb3 E.es v0 v1) λv24=>E.ld h v24 λv25=>B.pv (V.zb3 E.es v0 v1) λv26=>E.st h v26 v21 λh=>B.pv (V.zb3 E.es v0 v3) λv27=>E.st h v27 v25 λh=>zw.k15 C E C0 fL Q v0 v1 v2 v4 h
@[simp] def zw.cps(C:zh)(E:z8)(C0:zh)(fL:Nat)(v0 v1 v2 v3 v4:za)(h:zb)(Q:zQ):Prop:=zw.k16 C E C0 fL Q v0 v1 v2 v3 v4 h
@[simp] def zd9.k1(C:zh)(E:z8)(C0:zh)(fL:Nat)(Q:zQ)(Y1:zL)(v0 v2 v3 v4 v10 v11:za)(h:zb):Prop:=B.pv (V.bin .add v3 v10) λv47=>B.pv (V.zb3 E.es v0 v47) λv48=>E.ld h v48 λv49=>B.pv (V.bin .add v3 v11) λv53=>B.pv (V.zb3 E.es v0 v53) λv54=>E.ld h v54 λv55=>B.call C0 fL [v49,v55] h λv57 h=>B.pv (V.un .not v57) λv58=>B.cond v58 (Q (.tup []) h) (B.pv (V.bin .add v3 v10) λv62=>B.pv (V.bin .add v3 v11) λv66=>B.pv (V.bin .add v3 v11) λv70=>B.pv (V.zb3 E.es v0 v70) λv71=>E.ld h v71 λv72=>B.pv (V.bin .add v3 v10) λv76=>B.pv (V.zb3 E.es v0 v76) λv77=>E.ld h v77 λv78=>B.pv (V.zb3 E.es v0 v62) λv79=>E.st h v79 v72 λh=>B.pv (V.zb3 E.es v0 v66) λv80=>E.st h v80 v78 λh=>Y1 [v11] h)
@[simp] def zd9.k2(C:zh)(E:z8)(C0:zh)(fL:Nat)(Q:zQ)(Y1:zL)(v0 v2 v3 v4 v10 v11:za)(h:zb):Prop:=B.pv (V.bin .add v11 (.int .i64 1)) λv20=>B.pv (V.bin .lss v20 v2) λv22=>B.gd h v22 true (λK=>K v0 h) λv25 h=>B.gd h v22 true (λK=>K v3 h) λv26 h=>B.gd h v22 true (λK=>K v11 h) λv27 h=>B.gd h v22 true (λK=>B.pv (V.bin .add v26 v27) λv=>K v h) λv28 h=>B.gd h v22 true (λK=>B.pv (V.zb3 E.es v25 v28) λv=>K v h) λv29 h=>B.gd h v22 true (λK=>E.ld h v29 λv=>K v h) λv30 h=>B.gd h v22 true (λK=>K v0 h) λv31 h=>B.gd h v22 true (λK=>K v3 h) λv32 h=>B.gd h v22 true (λK=>K v11 h) λv33 h=>B.gd h v22 true (λK=>B.pv (V.bin .add v32 v33) λv=>K v h) λv34 h=>B.gd h v22 true (λK=>B.pv (V.bin .add v34 (.int .i64 1)) λv=>K v h) λv35 h=>B.gd h v22 true (λK=>B.pv (V.zb3 E.es v31 v35) λv=>K v h) λv36 h=>B.gd h v22 true (λK=>E.ld h v36 λv=>K v h) λv37 h=>B.gd h v22 true (λK=>B.call C0 fL [v30,v37] h K) λv39 h=>B.pick v22 v39 (.bool false) λv40=>B.cond v40 (B.pv (V.bin .add v11 (.int .i64 1)) λv42=>zd9.k1 C E C0 fL Q Y1 v0 v2 v3 v4 v10 v42 h) (zd9.k1 C E C0 fL Q Y1 v0 v2 v3 v4 v10 v11 h)
@[simp] def zd9.k3(C:zh)(E:z8)(C0:zh)(fL:Nat)(Q:zQ)(Y1:zL)(v0 v2 v3 v4 v10:za)(h:zb):Prop:=B.pv (V.bin .mul (.int .i64 2) v10) λv14=>B.pv (V.bin .add v14 (.int .i64 1)) λv15=>B.pv (V.bin .geq v15 v2) λv18=>B.cond v18 (Q (.tup []) h) (zd9.k2 C E C0 fL Q Y1 v0 v2 v3 v4 v10 v15 h)
@[simp] def zd9.l4(C:zh)(E:z8)(C0:zh)(fL:Nat)(Q:zQ)(v0 v2 v3 v4:za):zG|[v10],h,Y1=>zd9.k3 C E C0 fL Q Y1 v0 v2 v3 v4 v10 h|_,_,_=>False
@[simp] def zd9.cps(C:zh)(E:z8)(C0:zh)(fL:Nat)(v0 v1 v2 v3 v4:za)(h:zb)(Q:zQ):Prop:=zd (zd9.l4 C E C0 fL Q v0 v2 v3 v4) [v1] h
@[simp] def zgo.k1(C:zh)(E:z8)(C0:zh)(fL:Nat)(f1:Nat)(Q:zQ)(v0 v1 v2 v3:za)(h:zb):Prop:=B.pv (V.bin .sub v1 (.int .i64 1)) λv11=>B.pv (V.bin .add v1 (.int .i64 1)) λv14=>B.call C f1 [v0,v11,v1,v14,v2,v3] h λv17 h=>Q v17 h
@[simp] def zgo.cps(C:zh)(E:z8)(C0:zh)(fL:Nat)(f1:Nat)(v0 v1 v2 v3:za)(h:zb)(Q:zQ):Prop:=zgo.k1 C E C0 fL f1 Q v0 v1 v2 v3 h
@[simp] def zir.k1(C:zh)(E:z8)(C0:zh)(fL:Nat)(f1:Nat)(Q:zQ)(v0 v1 v2 v3 v4 v5:za)(h:zb):Prop:=B.call C f1 [v0,v1,v2,v4,v5] h λv19 h=>B.pv (V.ext 0 v19) λv20=>B.pv (V.ext 1 v19) λv21=>B.call C f1 [v0,v21,v3,v4,v5] h λv28 h=>B.pv (V.ext 0 v28) λv29=>B.pv (V.ext 1 v28) λv30=>B.call C f1 [v0,v20,v29,v4,v5] h λv37 h=>B.pv (V.ext 0 v37) λv38=>B.pv (V.ext 1 v37) λv39=>Q v39 h
@[simp] def zir.cps(C:zh)(E:z8)(C0:zh)(fL:Nat)(f1:Nat)(v0 v1 v2 v3 v4 v5:za)(h:zb)(Q:zQ):Prop:=zir.k1 C E C0 fL f1 Q v0 v1 v2 v3 v4 v5 h
@[simp] def ziq.k1(C:zh)(E:z8)(C0:zh)(fL:Nat)(Q:zQ)(v0 v1 v2 v3 v4:za)(h:zb):Prop:=B.pv (V.zb3 E.es v0 v2) λv15=>E.ld h v15 λv16=>B.pv (V.zb3 E.es v0 v1) λv19=>E.ld h v19 λv20=>B.call C0 fL [v16,v20] h λv22 h=>B.cond v22 (B.nilCheck v3 λv24=>B.ld h v24 λv25=>B.pv (V.bin .add v25 (.int .i64 1)) λv26=>B.nilCheck v3 λv27=>B.st h v27 v26 λh=>Q (.tup [v2,v1]) h) (Q (.tup [v1,v2]) h)
@[simp] def ziq.cps(C:zh)(E:z8)(C0:zh)(fL:Nat)(v0 v1 v2 v3 v4:za)(h:zb)(Q:zQ):Prop:=ziq.k1 C E C0 fL Q v0 v1 v2 v3 v4 h
variable{C:zh}
structure zqy{X:Type}(c:X->X->Int)(a b:Nat)(G:List X)(i j:Nat):Prop where
 hb:b <= G.length
 hi:a<i
 hj:j<b
 hij:i <= j+1
 lo:∀k (h:k<G.length) (ha:a<G.length),a<k->k<i->c G[k] G[a]<0
 hi2:∀k (h:k<G.length) (ha:a<G.length),j<k->k<b->¬ c G[k] G[a]<0
structure zng{X:Type}(c:X->X->Int)(a b m:Nat)(G:List X):Prop where
 ge:a <= m
 lt:m<b
 hb:b <= G.length
 lo:∀k (h:k<G.length) (hm:m<G.length),a <= k->k<m->c G[k] G[m]<0
 hi:∀k (h:k<G.length) (hm:m<G.length),m<k->k<b->¬ c G[k] G[m]<0
section
variable{E:z8}{X:Type}{cs:X->List za}{v:X->za}{h0 h:zb}{x f:za}{G:List X}{R:List (List za)}{c:X->X->Int}{Q:zQ}{Y1:zL}{a b i j:Nat}
theorem zim{X:Type}{G:List X}{i j:Nat}(hi:i<G.length)(hj:j<G.length){k:Nat}(hk:k<(swp G i j hi hj).length)(hk':k<G.length):(swp G i j hi hj)[k]=if k=j then G[i] else if k=i then G[j] else G[k]:=by
 have:=swp_get hi hj k;rw[getElem?_eq_getElem hk]at this;split at this
 ·rename_i e;rw[if_pos e];exact Option.some.inj this
 ·rename_i e;rw[if_neg e]
  split at this
  ·rename_i e2;rw[if_pos e2];exact Option.some.inj this
  ·rename_i e2;rw[if_neg e2,getElem?_eq_getElem hk']at *;exact Option.some.inj this
theorem zku{X:Type}{G:List X}{i j:Nat}(hi:i<G.length)(hj:j<G.length):(swp G i j hi hj).length=G.length:=by simp[swp]
theorem zqy.done(p:zqy c a b G i j)(hab:a<b)(hc:j<i)(hj:j<G.length)(ha:a<G.length):zng c a b j (swp G j a hj ha):=by
 have h1:=p.hi;have h2:=p.hij;have h3:=p.hj;have h4:=p.hb;have hl:=zku hj ha;have pj:∀(hm:j<(swp G j a hj ha).length),(swp G j a hj ha)[j]=G[a]:=λhm=>by
  rw[zim hj ha hm hj];by_cases e:j=a
  ·subst e;simp
  ·rw[if_neg e,if_pos rfl]
 refine⟨by omega,h3,by omega,λk hk hm k1 k2=>?_,λk hk hm k1 k2=>?_⟩
 ·rw[pj,zim hj ha hk (by omega)]
  by_cases e:k=a
  ·rw[if_pos e];exact p.lo j hj ha (by omega) (by omega)
  ·rw[if_neg e,if_neg (by omega)];exact p.lo k (by omega) ha (by omega) (by omega)
 ·rw[pj,zim hj ha hk (by omega),if_neg (by omega),if_neg (by omega)]
  exact p.hi2 k (by omega) ha k1 k2
theorem zqy.swap(p:zqy c a b G i j)(hc:i <= j)(hi:i<G.length)(hj:j<G.length)(ha:a<G.length)(h1:¬ c G[i] G[a]<0)(h2:c G[j] G[a]<0):zqy c a b (swp G i j hi hj) (i+1) (j-1):=by
 have k1:=p.hi;have k2:=p.hij;have k3:=p.hj;have k4:=p.hb;have hne:i≠j:=λe=>by subst e;exact h1 h2
 have hl:=zku hi hj;have pa:∀(hm:a<(swp G i j hi hj).length),(swp G i j hi hj)[a]=G[a]:=λhm=>by rw[zim hi hj hm ha,if_neg (by omega),if_neg (by omega)]
 refine⟨by omega,by omega,by omega,by omega,λk hk hm q1 q2=>?_,λk hk hm q1 q2=>?_⟩
 ·rw[pa,zim hi hj hk (by omega),if_neg (by omega)]
  by_cases e:k=i
  ·rw[if_pos e];exact h2
  ·rw[if_neg e];exact p.lo k (by omega) ha q1 (by omega)
 ·rw[pa,zim hi hj hk (by omega)]
  by_cases e:k=j
  ·rw[if_pos e];exact h1
  ·rw[if_neg e,if_neg (by omega)];exact p.hi2 k (by omega) ha (by omega) q2
theorem part_j(S:zds E cs v)(hc:zeo C v c f h0)(ho:Rw E cs h0 h x G R)(hl:G.length<4611686018427387904)(hab:a<b)(p:zqy c a b G i j)(hi0:j<i \/ ∀(h1:i<G.length)(h2:a<G.length),¬ c G[i] G[a]<0)
  (done:∀h' j',zqy c a b G i j'->j'<i->Rw E cs h0 h' x G R->zg.k1 C E Q x (.int .i64 (a:Int)) (.int .i64 (j':Int)) h')
  (next:∀h' j' (hi:i<G.length) (hj:j'<G.length) ,zqy c a b (swp G i j' hi hj) (i+1) (j'-1)->i<j'->j'<b->Rw E cs h0 h' x (swp G i j' hi hj) R->Y1 [.int .i64 ((i+1:Nat):Int),.int .i64 ((j'-1:Nat):Int)] h'):
  zd (zg.l4 C E Q Y1 x (.int .i64 (a:Int)) f (.int .i64 (i:Int))) [.int .i64 (j:Int)] h:=by
 refine zd.intro (λt vs hh=>hh=h /\ ∃j':Nat,t=j' /\ vs=[.int .i64 (j':Int)] /\ zqy c a b G i j' /\ (j'<i \/ ∀(h1:i<G.length)(h2:a<G.length),¬ c G[i] G[a]<0)) j ?_ ⟨rfl,j,rfl,rfl,p,hi0⟩;rintro Y j' vs hh ⟨rfl,_,rfl,rfl,p,hi0⟩ hY;have k1:=p.hi;have k2:=p.hij;have k3:=p.hj;have k4:=p.hb;have la:a<G.length:=by omega
 have lj:j'<G.length:=by omega
 simp -dsimp only[zg.l4,zg.k3,leqN,B.ze];by_cases hle:i <= j'
 ·have li:i<G.length:=by omega
  simp -dsimp only[hle,decide_true,B.zi1,B.zdr,ho.idx lj,ho.idx la,B.ze];refine ho.ld S (getElem?_eq_getElem lj) ?_;refine ho.ld S (getElem?_eq_getElem la) ?_;refine hc.call _ _ _ _ ho.le ?_;simp -dsimp only[hle,decide_true,B.zi1,B.zdr,V.zeh,V.zjt,B.zhx,B.ze];refine B.zm (λhd=>?_) (λhd=>?_)
  ·have hd':¬ c G[j'] G[a]<0:=by simpa using hd
   have e1:=zio (a:=j') (b:=1) (by omega) (by omega);have e1':V.bin .sub (.int .i64 (j':Int)) (.int .i64 1)=some (.int .i64 ((j'-1:Nat):Int)):=e1;simp -dsimp only[e1',B.ze];refine hY (j'-1) _ _ (by omega) ⟨rfl,j'-1,rfl,rfl,⟨k4,k1,by omega,by omega,p.lo,λk hk ha q1 q2=>?_⟩,?_⟩
   ·by_cases e:k=j'
    ·subst e;exact hd'
    ·exact p.hi2 k hk ha (by omega) q2
   ·rcases hi0 with h|h
    ·omega
    ·exact .inr h
  ·have hd':c G[j'] G[a]<0:=by simpa using hd
   have hni:¬ c G[i] G[a]<0:=by
    rcases hi0 with h|h
    ·omega
    ·exact h li la
   simp -dsimp only[zg.k2,gtrN,show ¬ j'<i by omega,decide_false,B.cond_false,ho.idx lj,ho.idx li,B.ze];refine ho.ld S (getElem?_eq_getElem lj) ?_;refine ho.ld S (getElem?_eq_getElem li) ?_;refine ho.st S (t:=G[j']) li λh1 o1=>?_;refine o1.st S (t:=G[i]) (by simpa using lj) λh2 o2=>?_;have e1':V.bin .sub (.int .i64 (j':Int)) (.int .i64 1)=some (.int .i64 ((j'-1:Nat):Int)):=zio (a:=j') (b:=1) (by omega) (by omega);simp -dsimp only[zg8 (show i<4611686018427387904 by omega),e1',B.ze];have hne:i≠j':=λe=>by subst e;exact hni hd'
   exact next h2 j' li lj (p.swap hle li lj la hni hd') (by omega) k3 o2
 ·simp -dsimp only[hle,decide_false,B.zi1,B.zgd,B.ziv,B.cond_false,zg.k2,gtrN,show j'<i by omega,decide_true,B.cond_true,B.ze]
  exact done hh j' p (by omega) ho
theorem part_i(S:zds E cs v)(hc:zeo C v c f h0)(ho:Rw E cs h0 h x G R)(hl:G.length<4611686018427387904)(hab:a<b)(p:zqy c a b G i j)
  (done:∀h' i' j',zqy c a b G i' j'->j'<i'->Rw E cs h0 h' x G R->zg.k1 C E Q x (.int .i64 (a:Int)) (.int .i64 (j':Int)) h')
  (next:∀h' i' j' (hi:i'<G.length) (hj:j'<G.length),zqy c a b (swp G i' j' hi hj) (i'+1) (j'-1)->a<i'->i <= i'->i'<j'->j'<b->Rw E cs h0 h' x (swp G i' j' hi hj) R->Y1 [.int .i64 ((i'+1:Nat):Int),.int .i64 ((j'-1:Nat):Int)] h'):
  zd (zg.l6 C E Q Y1 x (.int .i64 (a:Int)) f (.int .i64 (j:Int))) [.int .i64 (i:Int)] h:=by
 refine zd.intro (λt vs hh=>hh=h /\ ∃i':Nat,i'+t=b /\ i <= i' /\ vs=[.int .i64 (i':Int)] /\ zqy c a b G i' j) (b-i) ?_ ⟨rfl,i,by have:=p.hij;have:=p.hj;omega,Nat.le_refl _,rfl,p⟩;rintro Y t vs hh ⟨rfl,i',hit,hii,rfl,p⟩ hY;have k1:=p.hi;have k2:=p.hij;have k3:=p.hj;have k4:=p.hb;have la:a<G.length:=by omega
 simp -dsimp only[zg.l6,zg.k5,leqN,B.ze];by_cases hle:i' <= j
 ·have li:i'<G.length:=by omega
  simp -dsimp only[hle,decide_true,B.zi1,B.zdr,ho.idx li,ho.idx la,B.ze];refine ho.ld S (getElem?_eq_getElem li) ?_;refine ho.ld S (getElem?_eq_getElem la) ?_;refine hc.call _ _ _ _ ho.le ?_;simp -dsimp only[hle,decide_true,B.zi1,B.zdr,V.zeh,B.zhx,B.ze];refine B.zm (λhd=>?_) (λhd=>?_)
  ·have hd':c G[i'] G[a]<0:=by simpa using hd
   simp -dsimp only[zg8 (show i'<4611686018427387904 by omega),B.ze];refine hY (b-(i'+1)) _ _ (by omega) ⟨rfl,i'+1,by omega,by omega,rfl,⟨k4,by omega,k3,by omega,λk hk ha q1 q2=>?_,p.hi2⟩⟩;by_cases e:k=i'
   ·subst e;exact hd'
   ·exact p.lo k hk ha q1 (by omega)
  ·have hd':¬ c G[i'] G[a]<0:=by simpa using hd
   exact part_j S hc ho hl hab p (.inr λ_ _=>hd') (λh' j' p' hlt o'=>done h' i' j' p' hlt o') λh' j' hi hj p' h1 h2 o'=>next h' i' j' hi hj p' k1 hii h1 h2 o'
 ·simp -dsimp only[hle,decide_false,B.zi1,B.zgd,B.ziv,B.cond_false]
  exact part_j S hc ho hl hab p (.inl (by omega)) (λh' j' p' hlt o'=>done h' i' j' p' hlt o') λh' j' hi hj p' h1 h2 o'=>next h' i' j' hi hj p' k1 hii h1 h2 o'
theorem part_end(S:zds E cs v)(ho:Rw E cs h0 h x G R)(hab:a<b)(p:zqy c a b G i j)(hlt:j<i)(hq:∀h' m G',zng c a b m G'->zc1 a b G G'->Rw E cs h0 h' x G' R->Q (.tup [.int .i64 (m:Int),.bool false]) h'):
  zg.k1 C E Q x (.int .i64 (a:Int)) (.int .i64 (j:Int)) h:=by
 have k1:=p.hi;have k2:=p.hij;have k3:=p.hj;have k4:=p.hb;have la:a<G.length:=by omega
 have lj:j<G.length:=by omega
 simp -dsimp only[zg.k1,ho.idx lj,ho.idx la,B.ze];refine ho.ld S (getElem?_eq_getElem la) ?_;refine ho.ld S (getElem?_eq_getElem lj) ?_;refine ho.st S (t:=G[a]) lj λh1 o1=>?_;refine o1.st S (t:=G[j]) (by simpa using la) λh2 o2=>?_;exact hq h2 j _ (p.done hab hlt lj la) (zfi lj la (by omega) k3 (Nat.le_refl _) hab) o2
theorem zxk(S:zds E cs v)(hc:zeo C v c f h0)(ho:Rw E cs h0 h x G R)(hl:G.length<4611686018427387904)(hab:a<b)(p:zqy c a b G i j)
  (hq:∀h' m G',zng c a b m G'->zc1 a b G G'->Rw E cs h0 h' x G' R->Q (.tup [.int .i64 (m:Int),.bool false]) h'):
  zd (zg.l7 C E Q x (.int .i64 (a:Int)) f) [.int .i64 (i:Int),.int .i64 (j:Int)] h:=by
 refine zd.intro (λt vs hh=>∃(i' j':Nat)(G':List X),i'+t=b /\ vs=[.int .i64 (i':Int),.int .i64 (j':Int)] /\ zc1 a b G G' /\ zqy c a b G' i' j' /\ Rw E cs h0 hh x G' R) (b-i) ?_ ⟨i,j,G,by have:=p.hij;have:=p.hj;omega,rfl,zc1.refl _ _ _,p,ho⟩;rintro Y t vs hh ⟨i',j',G',hit,rfl,W,p,o⟩ hY;have hlen:=W.len;simp -dsimp only[zg.l7];refine part_i S hc o (by omega) hab p (λh' i2 j2 p2 hlt o2=>part_end S o2 hab p2 hlt λh3 m G3 P3 W3 o3=>hq h3 m G3 P3 (W.trans W3) o3) λh' i2 j2 hi hj p2 h1 h2 h3 h4 o2=>?_;exact hY (b-(i2+1)) _ _ (by omega) ⟨i2+1,j2-1,_,by omega,rfl,W.trans (zfi hi hj (by omega) (by omega) (by omega) h4),p2,o2⟩
end
variable{C:zh}
section
variable{E:z8}{X:Type}{cs:X->List za}{v:X->za}{h0 h:zb}{x f:za}{G:List X}{R:List (List za)}{c:X->X->Int}{Q:zQ}{a b i j:Nat}
abbrev PartQ(E:z8){X:Type}(cs:X->List za)(h0:zb)(x:za)(c:X->X->Int)(a b:Nat)(R:List (List za))(G:List X)(Q:zQ):Prop:=∀h' m G' t,zng c a b m G'->zc1 a b G G'->Rw E cs h0 h' x G' R->Q (.tup [.int .i64 (m:Int),.bool t]) h'
theorem zt4(S:zds E cs v)(hc:zeo C v c f h0)(ho:Rw E cs h0 h x G R)(hl:G.length<4611686018427387904)(hab:a<b)(p:zqy c a b G i j)
  (hd:j<i \/ ∃(h1:i<G.length)(h2:a<G.length)(h3:j<G.length),i <= j /\ ¬ c G[i] G[a]<0 /\ c G[j] G[a]<0) (hq:PartQ E cs h0 x c a b R G Q):
  zg.k10 C E Q x (.int .i64 (a:Int)) f (.int .i64 (i:Int)) (.int .i64 (j:Int)) h:=by
 have k1:=p.hi;have k2:=p.hij;have k3:=p.hj;have k4:=p.hb;have la:a<G.length:=by omega
 have lj:j<G.length:=by omega
 rcases hd with hlt|⟨li,_,_,hle,n1,n2⟩
 ·simp -dsimp only[zg.k10,gtrN,hlt,decide_true,B.cond_true,ho.idx lj,ho.idx la,B.ze]
  refine ho.ld S (getElem?_eq_getElem la) ?_;refine ho.ld S (getElem?_eq_getElem lj) ?_;refine ho.st S (t:=G[a]) lj λh1 o1=>?_;refine o1.st S (t:=G[j]) (by simpa using la) λh2 o2=>?_;exact hq h2 j _ true (p.done hab hlt lj la) (zfi lj la (by omega) k3 (Nat.le_refl _) hab) o2
 ·simp -dsimp only[zg.k10,zg.k9,gtrN,show ¬ j<i by omega,decide_false,B.cond_false,ho.idx lj,ho.idx li,B.ze]
  refine ho.ld S (getElem?_eq_getElem lj) ?_;refine ho.ld S (getElem?_eq_getElem li) ?_;refine ho.st S (t:=G[j]) li λh1 o1=>?_;refine o1.st S (t:=G[i]) (by simpa using lj) λh2 o2=>?_;have hne:i≠j:=λe=>by subst e;exact n1 n2
  have e1':V.bin .sub (.int .i64 (j:Int)) (.int .i64 1)=some (.int .i64 ((j-1:Nat):Int)):=zio (a:=j) (b:=1) (by omega) (by omega);simp -dsimp only[zg.k8,zg8 (show i<4611686018427387904 by omega),e1',B.ze];have W:=zfi li lj (by omega) (by omega) (by omega:a <= j) k3;exact zxk S hc (G:=swp G i j li lj) o2 (by rw[zku li lj];omega) hab (p.swap hle li lj la n1 n2) λh' m G' P' W' o'=>hq h' m G' false P' (W.trans W') o'
theorem zxl(S:zds E cs v)(hc:zeo C v c f h0)(ho:Rw E cs h0 h x G R)(hl:G.length<4611686018427387904)(hab:a<b)(p:zqy c a b G i j)(hi0:j<i \/ ∀(h1:i<G.length)(h2:a<G.length),¬ c G[i] G[a]<0)(hq:PartQ E cs h0 x c a b R G Q):
  zd (zg.l12 C E Q x (.int .i64 (a:Int)) f (.int .i64 (i:Int))) [.int .i64 (j:Int)] h:=by
 refine zd.intro (λt vs hh=>hh=h /\ ∃j':Nat,t=j' /\ vs=[.int .i64 (j':Int)] /\ zqy c a b G i j' /\ (j'<i \/ ∀(h1:i<G.length)(h2:a<G.length),¬ c G[i] G[a]<0)) j ?_ ⟨rfl,j,rfl,rfl,p,hi0⟩;rintro Y j' vs hh ⟨rfl,_,rfl,rfl,p,hi0⟩ hY;have k1:=p.hi;have k2:=p.hij;have k3:=p.hj;have k4:=p.hb;have la:a<G.length:=by omega
 have lj:j'<G.length:=by omega
 simp -dsimp only[zg.l12,zg.k11,leqN,B.ze];by_cases hle:i <= j'
 ·have li:i<G.length:=by omega
  simp -dsimp only[hle,decide_true,B.zi1,B.zdr,ho.idx lj,ho.idx la,B.ze];refine ho.ld S (getElem?_eq_getElem lj) ?_;refine ho.ld S (getElem?_eq_getElem la) ?_;refine hc.call _ _ _ _ ho.le ?_;simp -dsimp only[hle,decide_true,B.zi1,B.zdr,V.zeh,V.zjt,B.zhx,B.ze];refine B.zm (λhd=>?_) (λhd=>?_)
  ·have hd':¬ c G[j'] G[a]<0:=by simpa using hd
   have e1':V.bin .sub (.int .i64 (j':Int)) (.int .i64 1)=some (.int .i64 ((j'-1:Nat):Int)):=zio (a:=j') (b:=1) (by omega) (by omega);simp -dsimp only[e1',B.ze];refine hY (j'-1) _ _ (by omega) ⟨rfl,j'-1,rfl,rfl,⟨k4,k1,by omega,by omega,p.lo,λk hk ha q1 q2=>?_⟩,?_⟩
   ·by_cases e:k=j'
    ·subst e;exact hd'
    ·exact p.hi2 k hk ha (by omega) q2
   ·rcases hi0 with h|h
    ·omega
    ·exact .inr h
  ·have hd':c G[j'] G[a]<0:=by simpa using hd
   have hni:¬ c G[i] G[a]<0:=by
    rcases hi0 with h|h
    ·omega
    ·exact h li la
   exact zt4 S hc ho hl hab p (.inr ⟨li,la,lj,hle,hni,hd'⟩) hq
 ·simp -dsimp only[hle,decide_false,B.zi1,B.zgd,B.ziv,B.cond_false]
  exact zt4 S hc ho hl hab p (.inl (by omega)) hq
theorem part_i1(S:zds E cs v)(hc:zeo C v c f h0)(ho:Rw E cs h0 h x G R)(hl:G.length<4611686018427387904)(hab:a<b)(p:zqy c a b G i j)(hq:PartQ E cs h0 x c a b R G Q):
  zd (zg.l14 C E Q x (.int .i64 (a:Int)) f (.int .i64 (j:Int))) [.int .i64 (i:Int)] h:=by
 refine zd.intro (λt vs hh=>hh=h /\ ∃i':Nat,i'+t=b /\ vs=[.int .i64 (i':Int)] /\ zqy c a b G i' j) (b-i) ?_ ⟨rfl,i,by have:=p.hij;have:=p.hj;omega,rfl,p⟩;rintro Y t vs hh ⟨rfl,i',hit,rfl,p⟩ hY;have k1:=p.hi;have k2:=p.hij;have k3:=p.hj;have k4:=p.hb;have la:a<G.length:=by omega
 simp -dsimp only[zg.l14,zg.k13,leqN,B.ze];by_cases hle:i' <= j
 ·have li:i'<G.length:=by omega
  simp -dsimp only[hle,decide_true,B.zi1,B.zdr,ho.idx li,ho.idx la,B.ze];refine ho.ld S (getElem?_eq_getElem li) ?_;refine ho.ld S (getElem?_eq_getElem la) ?_;refine hc.call _ _ _ _ ho.le ?_;simp -dsimp only[hle,decide_true,B.zi1,B.zdr,V.zeh,B.zhx,B.ze];refine B.zm (λhd=>?_) (λhd=>?_)
  ·have hd':c G[i'] G[a]<0:=by simpa using hd
   simp -dsimp only[zg8 (show i'<4611686018427387904 by omega),B.ze];refine hY (b-(i'+1)) _ _ (by omega) ⟨rfl,i'+1,by omega,rfl,⟨k4,by omega,k3,by omega,λk hk ha q1 q2=>?_,p.hi2⟩⟩;by_cases e:k=i'
   ·subst e;exact hd'
   ·exact p.lo k hk ha q1 (by omega)
  ·have hd':¬ c G[i'] G[a]<0:=by simpa using hd
   exact zxl S hc ho hl hab p (.inr λ_ _=>hd') hq
 ·simp -dsimp only[hle,decide_false,B.zi1,B.zgd,B.ziv,B.cond_false]
  exact zxl S hc ho hl hab p (.inl (by omega)) hq
theorem zoz(S:zds E cs v)(hc:zeo C v c f h0)(ho:Rw E cs h0 h x G R)(hl:G.length<4611686018427387904){pv:Nat}(hp1:a <= pv)(hp2:pv<b)(hb:b <= G.length)(hq:PartQ E cs h0 x c a b R G Q):
  zg.cps C E x (.int .i64 (a:Int)) (.int .i64 (b:Int)) (.int .i64 (pv:Int)) f h Q:=by
 have la:a<G.length:=by omega
 have lp:pv<G.length:=by omega
 simp -dsimp only[zg.cps,zg.k16,ho.idx lp,ho.idx la,B.ze];refine ho.ld S (getElem?_eq_getElem lp) ?_;refine ho.ld S (getElem?_eq_getElem la) ?_;refine ho.st S (t:=G[pv]) la λh1 o1=>?_;refine o1.st S (t:=G[a]) (by simpa using lp) λh2 o2=>?_;have e1':V.bin .sub (.int .i64 (b:Int)) (.int .i64 1)=some (.int .i64 ((b-1:Nat):Int)):=zio (a:=b) (b:=1) (by omega) (by omega);simp -dsimp only[zg.k15,zg8 (show a<4611686018427387904 by omega),e1',B.ze];have W:=zfi la lp (Nat.le_refl _) (by omega) hp1 hp2;have hsl:=zku la lp;refine part_i1 S hc (G:=swp G a pv la lp) o2 (by omega) (by omega) ⟨by omega,by omega,by omega,by omega,λk _ _ q1 q2=>by omega,λk _ _ q1 q2=>by omega⟩ λh' m G' t P' W' o'=>hq h' m G' t P' (W.trans W') o'
end
variable{C:zh}
structure zuw{X:Type}(c:X->X->Int)(a b:Nat)(G:List X)(i j:Nat):Prop where
 hb:b <= G.length
 hi:a<i
 hj:j<b
 hij:i <= j+1
 lo:∀k (h:k<G.length) (ha:a<G.length),a<k->k<i->¬ c G[a] G[k]<0
 hi2:∀k (h:k<G.length) (ha:a<G.length),j<k->k<b->c G[a] G[k]<0
theorem zuw.swap{X:Type}{c:X->X->Int}{a b i j:Nat}{G:List X}(p:zuw c a b G i j)(hc:i <= j)(hi:i<G.length)(hj:j<G.length)(ha:a<G.length)(h1:c G[a] G[i]<0)(h2:¬ c G[a] G[j]<0):zuw c a b (swp G i j hi hj) (i+1) (j-1):=by
 have k1:=p.hi;have k2:=p.hij;have k3:=p.hj;have k4:=p.hb;have hne:i≠j:=λe=>by subst e;exact h2 h1
 have hl:=zku hi hj;have pa:∀(hm:a<(swp G i j hi hj).length),(swp G i j hi hj)[a]=G[a]:=λhm=>by rw[zim hi hj hm ha,if_neg (by omega),if_neg (by omega)]
 refine⟨by omega,by omega,by omega,by omega,λk hk hm q1 q2=>?_,λk hk hm q1 q2=>?_⟩
 ·rw[pa,zim hi hj hk (by omega),if_neg (by omega)]
  by_cases e:k=i
  ·rw[if_pos e];exact h2
  ·rw[if_neg e];exact p.lo k (by omega) ha q1 (by omega)
 ·rw[pa,zim hi hj hk (by omega)]
  by_cases e:k=j
  ·rw[if_pos e];exact h1
  ·rw[if_neg e,if_neg (by omega)];exact p.hi2 k (by omega) ha (by omega) q2
section
variable{E:z8}{X:Type}{cs:X->List za}{v:X->za}{h0 h:zb}{x f:za}{G:List X}{R:List (List za)}{c:X->X->Int}{Q:zQ}{Y1:zL}{a b i j:Nat}
theorem eq_j(S:zds E cs v)(hc:zeo C v c f h0)(ho:Rw E cs h0 h x G R)(hl:G.length<4611686018427387904)(hab:a<b)(p:zuw c a b G i j)(hi0:j<i \/ ∀(h1:i<G.length)(h2:a<G.length),c G[a] G[i]<0)
  (done:∀h' j',zuw c a b G i j'->j'<i->Rw E cs h0 h' x G R->Q (.int .i64 (i:Int)) h')
  (next:∀h' j' (hi:i<G.length) (hj:j'<G.length),zuw c a b (swp G i j' hi hj) (i+1) (j'-1)->i<j'->j'<b->Rw E cs h0 h' x (swp G i j' hi hj) R->Y1 [.int .i64 ((i+1:Nat):Int),.int .i64 ((j'-1:Nat):Int)] h'):
  zd (zn.l3 C E Q Y1 x (.int .i64 (a:Int)) f (.int .i64 (i:Int))) [.int .i64 (j:Int)] h:=by
 refine zd.intro (λt vs hh=>hh=h /\ ∃j':Nat,t=j' /\ vs=[.int .i64 (j':Int)] /\ zuw c a b G i j' /\ (j'<i \/ ∀(h1:i<G.length)(h2:a<G.length),c G[a] G[i]<0)) j ?_ ⟨rfl,j,rfl,rfl,p,hi0⟩;rintro Y j' vs hh ⟨rfl,_,rfl,rfl,p,hi0⟩ hY;have k1:=p.hi;have k2:=p.hij;have k3:=p.hj;have k4:=p.hb;have la:a<G.length:=by omega
 have lj:j'<G.length:=by omega
 simp -dsimp only[zn.l3,zn.k2,leqN,B.ze];by_cases hle:i <= j'
 ·have li:i<G.length:=by omega
  simp -dsimp only[hle,decide_true,B.zi1,B.zdr,ho.idx lj,ho.idx la,B.ze];refine ho.ld S (getElem?_eq_getElem la) ?_;refine ho.ld S (getElem?_eq_getElem lj) ?_;refine hc.call _ _ _ _ ho.le ?_;simp -dsimp only[hle,decide_true,B.zi1,B.zdr,V.zeh,B.zhx,B.ze];refine B.zm (λhd=>?_) (λhd=>?_)
  ·have hd':c G[a] G[j']<0:=by simpa using hd
   have e1':V.bin .sub (.int .i64 (j':Int)) (.int .i64 1)=some (.int .i64 ((j'-1:Nat):Int)):=zio (a:=j') (b:=1) (by omega) (by omega);simp -dsimp only[e1',B.ze];refine hY (j'-1) _ _ (by omega) ⟨rfl,j'-1,rfl,rfl,⟨k4,k1,by omega,by omega,p.lo,λk hk ha q1 q2=>?_⟩,?_⟩
   ·by_cases e:k=j'
    ·subst e;exact hd'
    ·exact p.hi2 k hk ha (by omega) q2
   ·rcases hi0 with h|h
    ·omega
    ·exact .inr h
  ·have hd':¬ c G[a] G[j']<0:=by simpa using hd
   have hni:c G[a] G[i]<0:=by
    rcases hi0 with h|h
    ·omega
    ·exact h li la
   simp -dsimp only[zn.k1,gtrN,show ¬ j'<i by omega,decide_false,B.cond_false,ho.idx lj,ho.idx li,B.ze];refine ho.ld S (getElem?_eq_getElem lj) ?_;refine ho.ld S (getElem?_eq_getElem li) ?_;refine ho.st S (t:=G[j']) li λh1 o1=>?_;refine o1.st S (t:=G[i]) (by simpa using lj) λh2 o2=>?_;have e1':V.bin .sub (.int .i64 (j':Int)) (.int .i64 1)=some (.int .i64 ((j'-1:Nat):Int)):=zio (a:=j') (b:=1) (by omega) (by omega);simp -dsimp only[zg8 (show i<4611686018427387904 by omega),e1',B.ze];have hne:i≠j':=λe=>by subst e;exact hd' hni
   exact next h2 j' li lj (p.swap hle li lj la hni hd') (by omega) k3 o2
 ·simp -dsimp only[hle,decide_false,B.zi1,B.zgd,B.ziv,B.cond_false,zn.k1,gtrN,show j'<i by omega,decide_true,B.cond_true,B.ze]
  exact done hh j' p (by omega) ho
theorem eq_i(S:zds E cs v)(hc:zeo C v c f h0)(ho:Rw E cs h0 h x G R)(hl:G.length<4611686018427387904)(hab:a<b)(p:zuw c a b G i j)
  (done:∀h' i' j',zuw c a b G i' j'->j'<i'->Rw E cs h0 h' x G R->Q (.int .i64 (i':Int)) h')
  (next:∀h' i' j' (hi:i'<G.length) (hj:j'<G.length),zuw c a b (swp G i' j' hi hj) (i'+1) (j'-1)->a<i'->i <= i'->i'<j'->j'<b->Rw E cs h0 h' x (swp G i' j' hi hj) R->Y1 [.int .i64 ((i'+1:Nat):Int),.int .i64 ((j'-1:Nat):Int)] h'):
  zd (zn.l5 C E Q Y1 x (.int .i64 (a:Int)) f (.int .i64 (j:Int))) [.int .i64 (i:Int)] h:=by
 refine zd.intro (λt vs hh=>hh=h /\ ∃i':Nat,i'+t=b /\ i <= i' /\ vs=[.int .i64 (i':Int)] /\ zuw c a b G i' j) (b-i) ?_ ⟨rfl,i,by have:=p.hij;have:=p.hj;omega,Nat.le_refl _,rfl,p⟩;rintro Y t vs hh ⟨rfl,i',hit,hii,rfl,p⟩ hY;have k1:=p.hi;have k2:=p.hij;have k3:=p.hj;have k4:=p.hb;have la:a<G.length:=by omega
 simp -dsimp only[zn.l5,zn.k4,leqN,B.ze];by_cases hle:i' <= j
 ·have li:i'<G.length:=by omega
  simp -dsimp only[hle,decide_true,B.zi1,B.zdr,ho.idx li,ho.idx la,B.ze];refine ho.ld S (getElem?_eq_getElem la) ?_;refine ho.ld S (getElem?_eq_getElem li) ?_;refine hc.call _ _ _ _ ho.le ?_;simp -dsimp only[hle,decide_true,B.zi1,B.zdr,V.zeh,V.zjt,B.zhx,B.ze];refine B.zm (λhd=>?_) (λhd=>?_)
  ·have hd':¬ c G[a] G[i']<0:=by simpa using hd
   simp -dsimp only[zg8 (show i'<4611686018427387904 by omega),B.ze];refine hY (b-(i'+1)) _ _ (by omega) ⟨rfl,i'+1,by omega,by omega,rfl,⟨k4,by omega,k3,by omega,λk hk ha q1 q2=>?_,p.hi2⟩⟩;by_cases e:k=i'
   ·subst e;exact hd'
   ·exact p.lo k hk ha q1 (by omega)
  ·have hd':c G[a] G[i']<0:=by simpa using hd
   exact eq_j S hc ho hl hab p (.inr λ_ _=>hd') (λh' j' p' hlt o'=>done h' i' j' p' hlt o') λh' j' hi hj p' h1 h2 o'=>next h' i' j' hi hj p' k1 hii h1 h2 o'
 ·simp -dsimp only[hle,decide_false,B.zi1,B.zgd,B.ziv,B.cond_false]
  exact eq_j S hc ho hl hab p (.inl (by omega)) (λh' j' p' hlt o'=>done h' i' j' p' hlt o') λh' j' hi hj p' h1 h2 o'=>next h' i' j' hi hj p' k1 hii h1 h2 o'
theorem eq_main(S:zds E cs v)(hc:zeo C v c f h0)(ho:Rw E cs h0 h x G R)(hl:G.length<4611686018427387904)(hab:a<b)(p:zuw c a b G i j)
  (hq:∀h' i' j' G',zuw c a b G' i' j'->j'<i'->zc1 (a+1) b G G'->Rw E cs h0 h' x G' R->Q (.int .i64 (i':Int)) h'):
  zd (zn.l6 C E Q x (.int .i64 (a:Int)) f) [.int .i64 (i:Int),.int .i64 (j:Int)] h:=by
 refine zd.intro (λt vs hh=>∃(i' j':Nat)(G':List X),i'+t=b /\ vs=[.int .i64 (i':Int),.int .i64 (j':Int)] /\ zc1 (a+1) b G G' /\ zuw c a b G' i' j' /\ Rw E cs h0 hh x G' R) (b-i) ?_ ⟨i,j,G,by have:=p.hij;have:=p.hj;omega,rfl,zc1.refl _ _ _,p,ho⟩;rintro Y t vs hh ⟨i',j',G',hit,rfl,W,p,o⟩ hY;have hlen:=W.len;simp -dsimp only[zn.l6];refine eq_i S hc o (by omega) hab p (λh' i2 j2 p2 hlt o2=>hq h' i2 j2 G' p2 hlt W o2) λh' i2 j2 hi hj p2 h1 h2 h3 h4 o2=>?_;exact hY (b-(i2+1)) _ _ (by omega) ⟨i2+1,j2-1,_,by omega,rfl,W.trans (zfi hi hj (by omega) (by omega) (by omega) h4),p2,o2⟩
theorem zkx(S:zds E cs v)(hc:zeo C v c f h0)(ho:Rw E cs h0 h x G R)(hl:G.length<4611686018427387904){pv:Nat}(hp1:a <= pv)(hp2:pv<b)(hb:b <= G.length)
  (hq:∀h' i' j' G',zuw c a b G' i' j'->j'<i'->zc1 a b G G'->(∀(h1:a<G'.length)(h2:pv<G.length),G'[a]=G[pv])->Rw E cs h0 h' x G' R->Q (.int .i64 (i':Int)) h'):
  zn.cps C E x (.int .i64 (a:Int)) (.int .i64 (b:Int)) (.int .i64 (pv:Int)) f h Q:=by
 have la:a<G.length:=by omega
 have lp:pv<G.length:=by omega
 simp -dsimp only[zn.cps,zn.k8,ho.idx lp,ho.idx la,B.ze];refine ho.ld S (getElem?_eq_getElem lp) ?_;refine ho.ld S (getElem?_eq_getElem la) ?_;refine ho.st S (t:=G[pv]) la λh1 o1=>?_;refine o1.st S (t:=G[a]) (by simpa using lp) λh2 o2=>?_;have e1':V.bin .sub (.int .i64 (b:Int)) (.int .i64 1)=some (.int .i64 ((b-1:Nat):Int)):=zio (a:=b) (b:=1) (by omega) (by omega);simp -dsimp only[zn.k7,zg8 (show a<4611686018427387904 by omega),e1',B.ze];have W:=zfi la lp (Nat.le_refl _) (by omega) hp1 hp2;have hsl:=zku la lp;refine eq_main S hc (G:=swp G a pv la lp) o2 (by omega) (by omega) ⟨by omega,by omega,by omega,by omega,λk _ _ q1 q2=>by omega,λk _ _ q1 q2=>by omega⟩ λh' i' j' G' p' hlt W' o'=>hq h' i' j' G' p' hlt (W.trans (W'.mono (by omega) (Nat.le_refl _))) (λh1 h2=>?_) o';rw[W'.same (.inl (by omega)) h1 (by omega),zim la lp (by omega) la];split
 ·rename_i e;simp only[e]
 ·rw[if_pos rfl]
end
structure SInv{X:Type}(c:X->X->Int)(a n lo r:Nat)(G:List X):Prop where
 len:a+n <= G.length
 heap:∀k,0<k->(hk:k<n)->lo <= (k-1) / 2->(k-1) / 2≠r->(h1:a+(k-1) / 2<G.length)->(h2:a+k<G.length)->¬ c G[a+(k-1) / 2] G[a+k]<0
 grand:lo <= (r-1) / 2->0<r->∀k,0<k->(hk:k<n)->(k-1) / 2=r->(h1:a+(r-1) / 2<G.length)->(h2:a+k<G.length)->¬ c G[a+(r-1) / 2] G[a+k]<0
def Heap{X:Type}(c:X->X->Int)(a n lo:Nat)(G:List X):Prop:=∀k,0<k->(hk:k<n)->lo <= (k-1) / 2->(h1:a+(k-1) / 2<G.length)->(h2:a+k<G.length)->¬ c G[a+(k-1) / 2] G[a+k]<0
section
variable{X:Type}{c:X->X->Int}{a n lo r ch:Nat}{G:List X}
theorem SInv.done(p:SInv c a n lo r G)(hr:∀k,0<k->k<n->(k-1) / 2=r->(h1:a+r<G.length)->(h2:a+k<G.length)->¬ c G[a+r] G[a+k]<0):Heap c a n lo G:=λk h0 hk hl h1 h2=>by
 by_cases e:(k-1) / 2=r
 ·have:=hr k h0 hk e (by rw[<-e];exact h1) h2
  simp only[e];exact this
 ·exact p.heap k h0 hk hl e h1 h2
theorem SInv.step(W:zo6 (zgi c))(p:SInv c a n lo r G)(hlo:lo <= r)(hch:ch<n)(hp:(ch-1) / 2=r)(h0:0<ch)(hr:a+r<G.length)(hc:a+ch<G.length)(hlt:c G[a+r] G[a+ch]<0)
  (hmax:∀k,0<k->k<n->(k-1) / 2=r->(h2:a+k<G.length)->¬ c G[a+ch] G[a+k]<0):SInv c a n lo ch (swp G (a+r) (a+ch) hr hc):=by
 have hl:=zku hr hc;have hrc:r<ch:=by omega
 have asym:¬ c G[a+ch] G[a+r]<0:=by
  have:=W.asym (a:=G[a+r]) (b:=G[a+ch]) (by unfold zgi;exact decide_eq_true hlt);unfold zgi at this;exact of_decide_eq_false this
 refine⟨by rw[hl];exact p.len,λk k0 hk hlk hne h1 h2=>?_,λ_ _ k k0 hk hkp h1 h2=>?_⟩
 ·have g1:a+(k-1) / 2<G.length:=by omega
  have g2:a+k<G.length:=by omega
  rw[zim hr hc h1 g1,zim hr hc h2 g2,if_neg (by omega:¬ a+(k-1) / 2=a+ch)];by_cases e1:(k-1) / 2=r
  ·rw[if_pos (by omega)]
   by_cases e2:k=ch
   ·rw[if_pos (by omega)];exact asym
   ·rw[if_neg (by omega),if_neg (by omega)];exact hmax k k0 hk e1 g2
  ·rw[if_neg (by omega)]
   by_cases e2:k=r
   ·rw[if_neg (by omega),if_pos (by omega)]
    subst e2;exact p.grand hlk k0 ch h0 hch hp g1 hc
   ·rw[if_neg (by omega),if_neg (by omega)];exact p.heap k k0 hk hlk e1 g1 g2
 ·have g1:a+(ch-1) / 2<G.length:=by omega
  have g2:a+k<G.length:=by omega
  rw[zim hr hc h1 g1,zim hr hc h2 g2,if_neg (by omega),if_pos (by omega),if_neg (by omega),if_neg (by omega)];have:=p.heap k k0 hk (by omega) (by omega) (by omega) g2;simp only[hkp]at this;exact this
end
variable{C:zh}
section
variable{E:z8}{X:Type}{cs:X->List za}{v:X->za}{h0 h:zb}{x f:za}{G:List X}{R:List (List za)}{c:X->X->Int}{Q:zQ}{Y1:zL}{a n lo r ch:Nat}
theorem sift_k1(S:zds E cs v)(W:zo6 (zgi c))(hc:zeo C v c f h0)(ho:Rw E cs h0 h x G R)(hl:G.length<1000000000)(p:SInv c a n lo r G)(hlo:lo <= r)(hch:ch<n)(hp:(ch-1) / 2=r)(hc0:0<ch)
  (hmax:∀k,0<k->k<n->(k-1) / 2=r->(h1:a+ch<G.length)->(h2:a+k<G.length)->¬ c G[a+ch] G[a+k]<0)
  (done:∀h',Heap c a n lo G->Rw E cs h0 h' x G R->Q (.tup []) h')
  (next:∀h' (hr:a+r<G.length) (hcl:a+ch<G.length),SInv c a n lo ch (swp G (a+r) (a+ch) hr hcl)->Rw E cs h0 h' x (swp G (a+r) (a+ch) hr hcl) R->Y1 [.int .i64 (ch:Int)] h'):
  zbw.k1 C E Q Y1 x (.int .i64 (n:Int)) (.int .i64 (a:Int)) f (.int .i64 (r:Int)) (.int .i64 (ch:Int)) h:=by
 have hlen:=p.len;have lr:a+r<G.length:=by omega
 have lc:a+ch<G.length:=by omega
 have ar:=zlc (a:=a) (b:=r) (by omega);have ac:=zlc (a:=a) (b:=ch) (by omega);simp -dsimp only[zbw.k1,ar,ac,ho.idx lr,ho.idx lc,B.ze];refine ho.ld S (getElem?_eq_getElem lr) ?_;refine ho.ld S (getElem?_eq_getElem lc) ?_;refine hc.call _ _ _ _ ho.le ?_;simp -dsimp only[V.zeh,V.zjt,B.ze];refine B.zm (λhd=>?_) (λhd=>?_)
 ·have hd':¬ c G[a+r] G[a+ch]<0:=by simpa using hd
  refine done h (p.done λk k0 hk hkp h1 h2=>?_) ho;have:=W.zsv (a:=G[a+r]) (b:=G[a+ch]) (c:=G[a+k]) (by unfold zgi;exact decide_eq_false hd') (by unfold zgi;exact decide_eq_false (hmax k k0 hk hkp lc h2));unfold zgi at this;exact of_decide_eq_false this
 ·have hd':c G[a+r] G[a+ch]<0:=by simpa using hd
  simp -dsimp only[ar,ac,ho.idx lr,ho.idx lc,B.ze];refine ho.ld S (getElem?_eq_getElem lc) ?_;refine ho.ld S (getElem?_eq_getElem lr) ?_;refine ho.st S (t:=G[a+ch]) lr λh1 o1=>?_;refine o1.st S (t:=G[a+r]) (by simpa using lc) λh2 o2=>?_;exact next h2 lr lc (p.step W hlo hch hp hc0 lr lc hd' λk k0 hk hkp h2=>hmax k k0 hk hkp lc h2) o2
theorem zlg(S:zds E cs v)(W:zo6 (zgi c))(hc:zeo C v c f h0)(ho:Rw E cs h0 h x G R)(hl:G.length<1000000000)(p:SInv c a n lo r G)(hlo:lo <= r)(hrn:r <= n){b:Nat}(hb:a+n <= b)
  (hq:∀h' G',Heap c a n lo G'->zc1 a b G G'->Rw E cs h0 h' x G' R->Q (.tup []) h'):
  zbw.cps C E x (.int .i64 (r:Int)) (.int .i64 (n:Int)) (.int .i64 (a:Int)) f h Q:=by
 simp -dsimp only[zbw.cps];refine zd.intro (λt vs hh=>∃(r':Nat)(G':List X),r'+t=n /\ vs=[.int .i64 (r':Int)] /\ lo <= r' /\ SInv c a n lo r' G' /\ zc1 a b G G' /\ Rw E cs h0 hh x G' R) (n-r) ?_ ⟨r,G,by omega,rfl,hlo,p,zc1.refl _ _ _,ho⟩;rintro Y t vs hh ⟨r',G',hrt,rfl,hlo',p',W',o⟩ hY;have hlen:=W'.len;have pl:=p'.len;have e1:V.bin .mul (.int .i64 2) (.int .i64 (r':Int))=some (.int .i64 ((2*r':Nat):Int)):=mulN (a:=2) (b:=r') (by omega);simp -dsimp only[zbw.l4,zbw.k3,e1,zg8 (show 2*r'<4611686018427387904 by omega),zzb,B.ze];refine B.zm (λhd=>?_) (λhd=>?_)
 ·rw[decide_eq_true_eq]at hd
  exact hq hh G' (p'.done λk k0 hk hkp _ _=>by omega) W' o
 ·rw[decide_eq_false_iff_not]at hd
  have fin:∀ch,ch<n->(ch-1) / 2=r'->0<ch->(∀k,0<k->k<n->(k-1) / 2=r'->(h1:a+ch<G'.length)->(h2:a+k<G'.length)->¬ c G'[a+ch] G'[a+k]<0)->zbw.k1 C E Q Y x (.int .i64 (n:Int)) (.int .i64 (a:Int)) f (.int .i64 (r':Int)) (.int .i64 (ch:Int)) hh:=λch c1 c2 c3 c4=>
   sift_k1 S W hc o (by omega) p' hlo' c1 c2 c3 c4 (λh' hp o'=>hq h' G' hp W' o') λh' hr hcl p2 o2=>hY (n-ch) _ _ (by omega) ⟨ch,_,by omega,rfl,by omega,p2,W'.trans (zfi hr hcl (by omega) (by omega) (by omega) (by omega)),o2⟩
  have irr:∀t:X,¬ c t t<0:=λt=>by
   have:=W.irr t;unfold zgi at this;exact of_decide_eq_false this
  have a1:=zlc (a:=a) (b:=2*r'+1) (by omega);simp -dsimp only[zbw.k2,zg8 (show 2*r'+1<4611686018427387904 by omega),zqg,B.ze];by_cases h2:2*r'+1+1<n
  ·have l1:a+(2*r'+1)<G'.length:=by omega
   have l2:a+(2*r'+1)+1<G'.length:=by omega
   simp -dsimp only[h2,decide_true,B.zi1,B.zdr,a1,zg8 (show a+(2*r'+1)<4611686018427387904 by omega),o.idx l1,o.idx l2,B.ze];refine o.ld S (getElem?_eq_getElem l1) ?_;refine o.ld S (getElem?_eq_getElem l2) ?_;refine hc.call _ _ _ _ o.le ?_;simp -dsimp only[h2,decide_true,B.zi1,B.zdr,V.zeh,B.zhx,B.ze];refine B.zm (λhf=>?_) (λhf=>?_)
   ·have hf':c G'[a+(2*r'+1)] G'[a+(2*r'+1)+1]<0:=by simpa using hf
    simp -dsimp only[zg8 (show 2*r'+1<4611686018427387904 by omega),B.ze];refine fin (2*r'+1+1) h2 (by omega) (by omega) λk k0 hk hkp h1 h3=>?_;rcases (show k=2*r'+1 \/ k=2*r'+1+1 by omega) with rfl|rfl
    ·have:=W.asym (a:=G'[a+(2*r'+1)]) (b:=G'[a+(2*r'+1)+1]) (by unfold zgi;exact decide_eq_true hf')
     unfold zgi at this;exact of_decide_eq_false this
    ·exact irr _
   ·have hf':¬ c G'[a+(2*r'+1)] G'[a+(2*r'+1)+1]<0:=by simpa using hf
    refine fin (2*r'+1) (by omega) (by omega) (by omega) λk k0 hk hkp h1 h3=>?_;rcases (show k=2*r'+1 \/ k=2*r'+1+1 by omega) with rfl|rfl
    ·exact irr _
    ·exact hf'
  ·simp -dsimp only[h2,decide_false,B.zi1,B.zgd,B.ziv,B.cond_false]
   refine fin (2*r'+1) (by omega) (by omega) (by omega) λk k0 hk hkp h1 h3=>?_;have:k=2*r'+1:=by omega
   subst this;exact irr _
end
section
variable{X:Type}{c:X->X->Int}{a b n lo:Nat}{G G':List X}
theorem Heap.sinv{X:Type}{c:X->X->Int}{a n lo:Nat}{G:List X}(p:Heap c a n (lo+1) G)(hl:a+n <= G.length):SInv c a n lo lo G:=⟨hl,λk k0 hk h1 hne h2 h3=>p k k0 hk (by omega) h2 h3,λh1 h0=>by omega⟩
theorem Heap.none_{X:Type}{c:X->X->Int}{a n lo:Nat}{G:List X}(h:n <= 2*lo+1):Heap c a n lo G:=λk k0 hk h1 _ _=>by omega
theorem Heap.root(W:zo6 (zgi c))(p:Heap c a n 0 G)(hl:a+n <= G.length):∀(k:Nat)(hk:k<n),¬ c (G[a]'(by omega)) (G[a+k]'(by omega))<0:=by
 intro k
 induction k using Nat.strongRecOn with
 | ind k ih=>
  intro hk;by_cases e:k=0
  ·subst e
   have:=W.irr (G[a]'(by omega));unfold zgi at this;simpa using this
  ·have h1:=ih ((k-1) / 2) (by omega) (by omega)
   have h2:=p k (by omega) hk (by omega) (by omega) (by omega);have:=W.zsv (a:=G[a]'(by omega)) (b:=G[a+(k-1) / 2]'(by omega)) (c:=G[a+k]'(by omega)) (by unfold zgi;exact decide_eq_false h1) (by unfold zgi;exact decide_eq_false h2);unfold zgi at this;exact of_decide_eq_false this
theorem zc1.take(w:zc1 a b G G'):G'.take a=G.take a:=ext_getElem? λi=>by
 rw[getElem?_take,getElem?_take]
 split
 ·rename_i h;exact w.out i (.inl h)
 ·rfl
theorem zc1.drop(w:zc1 a b G G'):G'.drop b=G.drop b:=ext_getElem? λi=>by
 rw[getElem?_drop,getElem?_drop];exact w.out (b+i) (.inr (by omega))
theorem split3(hab:a <= b)(G:List X):G=G.take a++((G.take b).drop a++G.drop b):=by
 have h1:G.take a=(G.take b).take a:=by rw[take_take,Nat.min_eq_left hab]
 rw[h1,<-append_assoc,take_append_drop,take_append_drop]
theorem zc1.mid(w:zc1 a b G G')(hab:a <= b):((G'.take b).drop a).Perm ((G.take b).drop a):=by
 have h:=w.perm;rw[split3 hab G,split3 hab G',w.take,w.drop]at h;exact(perm_append_right_iff _).1 ((perm_append_left_iff _).1 h)
theorem zc1.mem(w:zc1 a b G G'){k:Nat}(h1:a <= k)(h2:k<b)(hk:k<G'.length):∃k',a <= k' /\ k'<b /\ ∃h':k'<G.length,G'[k]=G[k']:=by
 have hm:G'[k]∈(G'.take b).drop a:=by
  rw[mem_iff_getElem?];refine⟨k-a,?_⟩;rw[getElem?_drop,getElem?_take,if_pos (by omega),Nat.add_sub_cancel' h1,getElem?_eq_getElem hk]
 have:=(w.mid (by omega)).mem_iff.1 hm;rw[mem_iff_getElem?]at this;obtain⟨i,hi⟩:=this;rw[getElem?_drop,getElem?_take]at hi;split at hi
 ·rename_i hlt
  obtain⟨hb,e⟩:=List.getElem?_eq_some_iff.1 hi;exact⟨a+i,by omega,hlt,hb,e.symm⟩
 ·cases hi
def Cut{X:Type}(c:X->X->Int)(A B a b:Nat)(G:List X):Prop:=∀p q,A <= p->p<q->q<B->p<a \/ b <= q->∀(h1:p<G.length)(h2:q<G.length),¬ c G[q] G[p]<0
def Srt{X:Type}(c:X->X->Int)(A B:Nat)(G:List X):Prop:=∀p q,A <= p->p<q->q<B->∀(h1:p<G.length)(h2:q<G.length),¬ c G[q] G[p]<0
theorem Cut.within{A B:Nat}(x:Cut c A B a b G)(w:zc1 a b G G')(ha:A <= a)(hb:b <= B):Cut c A B a b G':=λp q hp hpq hq h h1 h2=>by
 have hl:=w.len
 rcases h with h|h
 ·rw[w.same (.inl h) h1 (by omega)]
  by_cases hq2:a <= q /\ q<b
  ·obtain⟨q',h3,h4,h5,e⟩:=w.mem hq2.1 hq2.2 h2
   rw[e];exact x p q' hp (by omega) (by omega) (.inl h) (by omega) h5
  ·rw[w.same (by omega) h2 (by omega)];exact x p q hp hpq hq (.inl h) _ _
 ·rw[w.same (k:=q) (.inr h) h2 (by omega)]
  by_cases hp2:a <= p /\ p<b
  ·obtain⟨p',h3,h4,h5,e⟩:=w.mem hp2.1 hp2.2 h1
   rw[e];exact x p' q (by omega) (by omega) hq (.inr h) h5 (by omega)
  ·rw[w.same (k:=p) (by omega) h1 (by omega)];exact x p q hp hpq hq (.inr h) _ _
theorem Cut.join{A B:Nat}(x:Cut c A B a b G)(s:Srt c a b G):Srt c A B G:=λp q hp hpq hq h1 h2=>by
 by_cases h:p<a \/ b <= q
 ·exact x p q hp hpq hq h h1 h2
 ·exact s p q (by omega) hpq (by omega) h1 h2
theorem Cut.small{A B:Nat}(x:Cut c A B a b G)(s:b <= a+1):Srt c A B G:=x.join λp q _ _ _ _ _=>by omega
theorem zyr{M:List X}(hab:a <= b)(hb:b <= G.length)(hp:M.Perm ((G.take b).drop a)):zc1 a b G (G.take a++(M++G.drop b)):=by
 have hl:=hp.length_eq;simp only[length_drop,length_take]at hl;refine⟨?_,λi hi=>?_⟩
 ·have:=(hp.append_right (G.drop b)).append_left (G.take a)
  rw[<-split3 hab G]at this;exact this
 ·rcases hi with hi|hi
  ·rw[getElem?_append_left (by rw[length_take];omega),getElem?_take,if_pos hi]
  ·rw[getElem?_append_right (by rw[length_take];omega),getElem?_append_right (by rw[length_take];omega),getElem?_drop,length_take]
   congr 1;omega
theorem srt_mid{M:List X}(hab:a <= b)(hb:b <= G.length)(hl:M.length=b-a)(hp:M.Pairwise λx y=>¬ c y x<0):Srt c a b (G.take a++(M++G.drop b)):=λp q hp1 hpq hq h1 h2=>by
 have e:∀k (h1:a <= k) (h2:k<b) (hk:k<(G.take a++(M++G.drop b)).length),(G.take a++(M++G.drop b))[k]=M[k-a]'(by omega):=λk h1 h2 hk=>by
  rw[getElem_append_right (by rw[length_take];omega),getElem_append_left (by rw[length_take];omega)]
  congr 1;rw[length_take];omega
 rw[e p hp1 (by omega),e q (by omega) hq]
 exact pairwise_iff_getElem.1 hp _ _ _ _ (by omega)
end
variable{C:zh}
abbrev SiftI(C:zh)(E:z8)(f1:Nat):Prop:=∀(v0 v1 v2 v3 v4:za)(h:zb)(Q:zQ),zbw.cps C E v0 v1 v2 v3 v4 h (dn Q)->C f1 [v0,v1,v2,v3,v4] h Q
section
variable{E:z8}{X:Type}{cs:X->List za}{v:X->za}{h0 h:zb}{x f:za}{G:List X}{R:List (List za)}{c:X->X->Int}{Q:zQ}{a b:Nat}
theorem zp6(S:zds E cs v)(W:zo6 (zgi c))(hc:zeo C v c f h0)(ho:Rw E cs h0 h x G R)(hl:G.length <= 100000000)(hab:a <= b)(hb:b <= G.length)
  (hq:∀h' G',zc1 a b G G'->Srt c a b G'->Rw E cs h0 h' x G' R->Q (.tup []) h'):zbr.cps C E x (.int .i64 (a:Int)) (.int .i64 (b:Int)) f h Q:=by
 have e0:∀(L:List X),(L.map (λy=>(y,0))).map (λp:X×Nat=>cs p.1)=L.map cs:=λL=>by rw[map_map];rfl
 have e1:∀(L:List (X×Nat)),L.map (λp:X×Nat=>cs p.1)=(L.map (·.1)).map cs:=λL=>by rw[map_map];rfl
 have lt:(G.take a).length=a:=by rw[length_take];omega
 have lm:((G.take b).drop a).length=b-a:=by rw[length_drop,length_take];omega
 refine zlq (P:=(G.take a).map (λy=>(y,0))) (M:=((G.take b).drop a).zipIdx) (U:=(G.drop b).map (λy=>(y,0))) S W ?_ ?_ hc ?_ ?_ ?_ ?_ (R:=R) (h0:=h0)
 ·simp only[length_append,length_map,length_zipIdx,lt,lm,length_drop];omega
 ·have:(((G.take b).drop a).zipIdx.map (·.2)).Pairwise (· < ·):=by
   rw[zipIdx_map_snd];exact pairwise_lt_range'
  rwa [pairwise_map]at this
 ·rw[length_map,lt]
 ·rw[length_map,length_zipIdx,lt,lm];omega
 ·unfold Rw
  rw[map_append,map_append,e0,e0,e1,zipIdx_map_fst,<-map_append,<-map_append,<-split3 hab G];exact ho
 ·intro h' M' hp hs ho'
  have hp':(M'.map (·.1)).Perm ((G.take b).drop a):=by
   have:=hp.map (·.1);rwa [zipIdx_map_fst]at this
  refine hq h' (G.take a++(M'.map (·.1)++G.drop b)) (zyr hab hb hp') (srt_mid hab hb (by rw[hp'.length_eq,lm]) ?_) ?_
  ·rw[pairwise_map]
   refine hs.imp λ{x y} hxy=>?_;have hx:zgi c y.1 x.1=false:=hxy.elim (λh=>W.asym h) λ⟨h,_⟩=>h;unfold zgi at hx;exact of_decide_eq_false hx
  ·unfold Rw at ho' ⊢
   rw[map_append,map_append,e0,e0,e1]at ho'
   rwa [map_append,map_append]
theorem zp7{f1:Nat}(is:SiftI C E f1)(S:zds E cs v)(W:zo6 (zgi c))(hc:zeo C v c f h0)(ho:Rw E cs h0 h x G R)(hl:G.length <= 100000000)(hab:a<b)(hb:b <= G.length)
  (hq:∀h' G',zc1 a b G G'->Srt c a b G'->Rw E cs h0 h' x G' R->Q (.tup []) h'):zbn.cps C E f1 x (.int .i64 (a:Int)) (.int .i64 (b:Int)) f h Q:=by
 have e1:=zio (a:=b) (b:=a) (by omega) (by omega);obtain⟨n,hn⟩:∃n,n=b-a:=⟨_,rfl⟩;have e2:V.bin .quo (.int .i64 ((n-1:Nat):Int)) (.int .i64 2)=some (.int .i64 (((n-1) / 2:Nat):Int)):=by
  rw[V.zmy _ _ _ (by omega),show ((n-1:Nat):Int).tdiv 2=(((n-1) / 2:Nat):Int) from rfl,wrap_i64 (by omega) (by omega)]
 have m1:∀k:Nat,k <= 100000000->V.bin .sub (.int .i64 (k:Int)) (.int .i64 1)=some (.int .i64 ((k:Int)-1)):=λk hk=>by
  rw[V.zi9,wrap_i64 (by omega) (by omega)]
 have m2:∀k:Nat,k <= 100000000->V.bin .sub (.int .i64 ((k+1:Nat)-1:Int)) (.int .i64 1)=some (.int .i64 ((k:Int)-1)):=λk hk=>by
  rw[V.zi9,wrap_i64 (by omega) (by omega)];congr 2;omega
 simp -dsimp only[zbn.cps,zbn.k5,e1,B.ze];rw[<-hn];simp -dsimp only[zwz (show 1 <= n by omega) (by omega),e2,B.ze];refine zd.intro (λt vs hh=>∃(G':List X),vs=[.int .i64 ((t:Int)-1)] /\ t <= n /\ Heap c a n t G' /\ zc1 a b G G' /\ Rw E cs h0 hh x G' R) ((n-1) / 2+1) ?_ ⟨G,by congr 2;omega,by omega,Heap.none_ (by omega),zc1.refl _ _ _,ho⟩;rintro Y t vs hh ⟨G1,rfl,htn,p1,W1,o1⟩ hY;have l1:=W1.len;simp -dsimp only[zbn.l4,zbn.k3,V.zk5,B.ze];cases t with
 | succ k=>
  rw[show decide ((0:Int) <= ((k+1:Nat):Int)-1)=true by simp,B.cond_true,show (((k+1:Nat):Int)-1)=(k:Int) by omega];refine is _ _ _ _ _ _ _ (zlg (b:=b) S W hc o1 (by omega) (p1.sinv (by omega)) (Nat.le_refl _) (by omega) (by omega) λh2 G2 p2 w2 o2=>zba ?_);simp -dsimp only[m1 k (by omega),B.ze];exact hY k _ _ (by omega) ⟨G2,rfl,by omega,p2,W1.trans w2,o2⟩
 | zero=>
  rw[show decide ((0:Int) <= ((0:Nat):Int)-1)=false by simp,B.cond_false];simp -dsimp only[m1 n (by omega),B.ze];refine zd.intro (λt vs hh=>∃(G':List X),vs=[.int .i64 ((t:Int)-1)] /\ t <= n /\ Heap c a t 0 G' /\ Cut c a b a (a+t) G' /\ zc1 a b G G' /\ Rw E cs h0 hh x G' R) n ?_ ⟨G1,rfl,Nat.le_refl _,p1,λp q _ _ h3 h4=>by omega,W1,o1⟩;rintro Z t vs hh ⟨G2,rfl,htn,p2,c2,W2,o2⟩ hZ;have l2:=W2.len;simp -dsimp only[zbn.l2,zbn.k1,V.zk5,B.ze];cases t with
  | zero=>
   rw[show decide ((0:Int) <= ((0:Nat):Int)-1)=false by simp,B.cond_false];exact hq hh G2 W2 (c2.small (by omega)) o2
  | succ k=>
   rw[show decide ((0:Int) <= ((k+1:Nat):Int)-1)=true by simp,B.cond_true,show (((k+1:Nat):Int)-1)=(k:Int) by omega];have ac:=zlc (a:=a) (b:=k) (by omega);have la:a<G2.length:=by omega
   have lk:a+k<G2.length:=by omega
   simp -dsimp only[ac,o2.idx la,o2.idx lk,B.ze];refine o2.ld S (getElem?_eq_getElem lk) ?_;refine o2.ld S (getElem?_eq_getElem la) ?_;refine o2.swap S la lk λh3 o3=>?_;have hsl:=zku la lk;have w3:zc1 a (a+(k+1)) G2 (swp G2 a (a+k) la lk):=zfi la lk (by omega) (by omega) (by omega) (by omega);have c3:=c2.within w3 (Nat.le_refl _) (by omega);have c4:Cut c a b a (a+k) (swp G2 a (a+k) la lk):=λp q h1 h2 h3 h4 h5 h6=>by
    by_cases e:a+(k+1) <= q
    ·exact c3 p q h1 h2 h3 (.inr e) h5 h6
    ·have:q=a+k:=by omega
     subst this;rw[zim la lk h6 (by omega),if_pos rfl,zim la lk h5 (by omega),if_neg (by omega)];split
     ·exact p2.root W (by omega) k (by omega)
     ·have:=p2.root W (by omega) (p-a) (by omega)
      simpa only[show a+(p-a)=p by omega]using this
   have s3:SInv c a k 0 0 (swp G2 a (a+k) la lk):=⟨by omega,λj j0 hj _ hne h1 h2=>by
    rw[zim la lk h1 (by omega),if_neg (by omega),if_neg (by omega),zim la lk h2 (by omega),if_neg (by omega),if_neg (by omega)];exact p2 j j0 (by omega) (by omega) (by omega) (by omega),λ_ h=>by omega⟩
   refine is _ _ _ _ _ _ _ (zlg (r:=0) (b:=a+k) S W hc o3 (by omega) s3 (Nat.le_refl _) (by omega) (by omega) λh4 G4 p4 w4 o4=>zba ?_);simp -dsimp only[m1 k (by omega),B.ze];exact hZ k _ _ (by omega) ⟨G4,rfl,by omega,p4,c4.within w4 (Nat.le_refl _) (by omega),(W2.trans (w3.mono (Nat.le_refl _) (by omega))).trans (w4.mono (Nat.le_refl _) (by omega)),o4⟩
end
variable{C:zh}
def Pre{X:Type}(c:X->X->Int)(a b:Nat)(G:List X):Prop:=0<a->∀i,a <= i->i<b->∀(h1:i<G.length)(h2:a-1<G.length),¬ c G[i] G[a-1]<0
theorem Pre.within{X:Type}{c:X->X->Int}{a b:Nat}{G G':List X}(p:Pre c a b G)(w:zc1 a b G G'):Pre c a b G':=λh0 i h1 h2 h3 h4=>by
 have hl:=w.len
 obtain⟨k,k1,k2,k3,e⟩:=w.mem h1 h2 h3
 rw[e,w.same (k:=a-1) (.inl (by omega)) h4 (by omega)]
 exact p h0 k k1 k2 _ _
def But1{X:Type}(c:X->X->Int)(A B j:Nat)(G:List X):Prop:=∀p q,A <= p->p<q->q<B->q≠j->∀(h1:p<G.length)(h2:q<G.length),¬ c G[q] G[p]<0
section
variable{X:Type}{c:X->X->Int}{A B j:Nat}{G:List X}
theorem But1.done(W:zo6 (zgi c))(x:But1 c A B j G)(hj:j<G.length)(h:j <= A \/ ∀(h1:j-1<G.length),¬ c G[j] G[j-1]<0):Srt c A B G:=λp q h1 h2 h3 h4 h5=>by
 by_cases e:q=j
 ·subst e
  have h:=h.resolve_left (by omega)
  by_cases e2:p=q-1
  ·subst e2;exact h _
  ·have k1:=x p (q-1) h1 (by omega) (by omega) (by omega) h4 (by omega)
   have:=W.zsv (a:=G[q]) (b:=G[q-1]'(by omega)) (c:=G[p]) (by unfold zgi;exact decide_eq_false (h _)) (by unfold zgi;exact decide_eq_false k1)
   unfold zgi at this;exact of_decide_eq_false this
 ·exact x p q h1 h2 h3 e h4 h5
theorem But1.step(W:zo6 (zgi c))(x:But1 c A B j G)(hA:A<j)(hj:j<G.length)(hj1:j-1<G.length)(hlt:c G[j] G[j-1]<0):But1 c A B (j-1) (swp G j (j-1) hj hj1):=λp q h1 h2 h3 h4 h5 h6=>by
 have hl:=zku hj hj1
 rw[zim hj hj1 h6 (by omega),if_neg h4,zim hj hj1 h5 (by omega)]
 by_cases e:q=j
 ·rw[if_pos e]
  split
  ·have:=W.asym (a:=G[j]) (b:=G[j-1]) (by unfold zgi;exact decide_eq_true hlt)
   unfold zgi at this;exact of_decide_eq_false this
  ·rw[if_neg (by omega)];exact x p (j-1) h1 (by omega) (by omega) (by omega) (by omega) hj1
 ·rw[if_neg e]
  split
  ·exact x j q (by omega) (by omega) h3 e hj (by omega)
  ·split
   ·exact x (j-1) q (by omega) (by omega) h3 e hj1 (by omega)
   ·exact x p q h1 h2 h3 e (by omega) (by omega)
end
section
variable{E:z8}{X:Type}{cs:X->List za}{v:X->za}{h0 h:zb}{x f:za}{G:List X}{R:List (List za)}{c:X->X->Int}{Q:zQ}{Y1:zL}{a b i s:Nat}
theorem pis_k3(S:zds E cs v)(hc:zeo C v c f h0)(ho:Rw E cs h0 h x G R)(hl:G.length <= 100000000)(hi0:0<i)(hi:i<b)(hb:b <= G.length)(hs:s <= 5)
  (hY:∀h' G',zc1 i b G G'->Rw E cs h0 h' x G' R->Y1 [.int .i64 (i:Int),.int .i64 ((s+1:Nat):Int)] h'):
  zf.k3 C E Q Y1 x (.int .i64 (a:Int)) (.int .i64 (b:Int)) f (.int .i64 (i:Int)) (.int .i64 (s:Int)) h:=by
 have hge:V.bin .geq (.int .i64 ((b-i:Nat):Int)) (.int .i64 2)=some (.bool (decide (2 <= b-i))):=zzb (b:=2);simp -dsimp only[zf.k3,zio (show i <= b by omega) (by omega),hge,zg8 (show s<4611686018427387904 by omega),zg8 (show i<4611686018427387904 by omega),B.ze];refine B.zm (λhd=>?_) (λhd=>?_)
 rotate_left
 ·simp -dsimp only[zg8 (show s<4611686018427387904 by omega),B.ze]
  exact hY h G (zc1.refl _ _ _) ho
 rw[decide_eq_true_eq]at hd;simp -dsimp only[zg8 (show i<4611686018427387904 by omega),B.ze];refine zd.intro (λt vs hh=>∃(j:Nat)(G':List X),j+t=b /\ vs=[.int .i64 (j:Int)] /\ i<j /\ zc1 i b G G' /\ Rw E cs h0 hh x G' R) (b-(i+1)) ?_ ⟨i+1,G,by omega,rfl,by omega,zc1.refl _ _ _,ho⟩;rintro Y t vs hh ⟨j,G1,hjt,rfl,hij,W1,o⟩ hY2;have hlen:=W1.len;simp -dsimp only[zf.l2,zf.k1,zqg,B.ze];refine B.zm (λhe=>?_) (λhe=>?_)
 ·rw[decide_eq_true_eq]at he
  have lj:j<G1.length:=by omega
  have lj1:j-1<G1.length:=by omega
  have sj:=zwz (a:=j) (by omega) (by omega);simp -dsimp only[sj,o.idx lj,o.idx lj1,B.ze];refine o.ld S (getElem?_eq_getElem lj) ?_;refine o.ld S (getElem?_eq_getElem lj1) ?_;refine hc.call _ _ _ _ o.le ?_;simp -dsimp only[V.zeh,V.zjt,B.ze];refine B.zm (λhd=>?_) (λhd=>?_)
  ·simp -dsimp only[zg8 (show s<4611686018427387904 by omega),B.ze]
   exact hY hh G1 W1 o
  ·simp -dsimp only[sj,o.idx lj,o.idx lj1,B.ze]
   refine o.ld S (getElem?_eq_getElem lj1) ?_;refine o.ld S (getElem?_eq_getElem lj) ?_;refine o.swap S lj lj1 λh2 o2=>?_;simp -dsimp only[zg8 (show j<4611686018427387904 by omega),B.ze];exact hY2 (b-(j+1)) _ _ (by omega) ⟨j+1,_,by omega,rfl,by omega,W1.trans (zfi lj lj1 (by omega) (by omega) (by omega) (by omega)),o2⟩
 ·simp -dsimp only[zg8 (show s<4611686018427387904 by omega),B.ze]
  exact hY hh G1 W1 o
theorem pis_k6(S:zds E cs v)(W:zo6 (zgi c))(hc:zeo C v c f h0)(ho:Rw E cs h0 h x G R)(hl:G.length <= 100000000)(hai:a<i)(hi:i<b)(hb:b <= G.length)(hs:s <= 5)(hp:Pre c a b G)(h1:But1 c a i (i-1) G)
  (hY:∀h' G',zc1 a b G G'->Srt c a i G'->Rw E cs h0 h' x G' R->Y1 [.int .i64 (i:Int),.int .i64 ((s+1:Nat):Int)] h'):
  zf.k6 C E Q Y1 x (.int .i64 (a:Int)) (.int .i64 (b:Int)) f (.int .i64 (i:Int)) (.int .i64 (s:Int)) h:=by
 have fin:∀{hh G1},Rw E cs h0 hh x G1 R->zc1 a b G G1->Srt c a i G1->zf.k3 C E Q Y1 x (.int .i64 (a:Int)) (.int .i64 (b:Int)) f (.int .i64 (i:Int)) (.int .i64 (s:Int)) hh:=λ{hh G1} o W1 s1=>by
  have l1:=W1.len;refine pis_k3 S hc o (by omega) (by omega) hi (by omega) hs λh2 G2 W2 o2=>hY h2 G2 (W1.trans (W2.mono (by omega) (Nat.le_refl _))) (λp q h1 h2 h3 h4 h5=>?_) o2;have l2:=W2.len;rw[W2.same (k:=p) (.inl (by omega)) h4 (by omega),W2.same (k:=q) (.inl (by omega)) h5 (by omega)];exact s1 p q h1 h2 h3 _ _
 have hge:V.bin .geq (.int .i64 ((i-a:Nat):Int)) (.int .i64 2)=some (.bool (decide (2 <= i-a))):=zzb (b:=2);simp -dsimp only[zf.k6,zio (show a <= i by omega) (by omega),hge,zwz (show 1 <= i by omega) (by omega),B.ze];refine B.zm (λhd=>?_) (λhd=>?_)
 ·simp -dsimp only[zwz (show 1 <= i by omega) (show i<4611686018427387904 by omega),B.ze]
  refine zd.intro (λt vs hh=>∃(G':List X),vs=[.int .i64 (t:Int)] /\ a <= t /\ t<i /\ But1 c a i t G' /\ zc1 a b G G' /\ Rw E cs h0 hh x G' R) (i-1) ?_ ⟨G,rfl,by omega,by omega,h1,zc1.refl _ _ _,ho⟩;rintro Y j vs hh ⟨G1,rfl,haj,hji,b1,W1,o⟩ hY2;have hlen:=W1.len;have lj:j<G1.length:=by omega
  have hg1:V.bin .geq (.int .i64 (j:Int)) (.int .i64 1)=some (.bool (decide (1 <= j))):=zzb (b:=1);simp -dsimp only[zf.l5,zf.k4,hg1,B.ze];refine B.zm (λhe=>?_) (λhe=>?_)
  ·rw[decide_eq_true_eq]at he
   have lj1:j-1<G1.length:=by omega
   have sj:=zwz (a:=j) (by omega) (by omega);simp -dsimp only[sj,o.idx lj,o.idx lj1,B.ze];refine o.ld S (getElem?_eq_getElem lj) ?_;refine o.ld S (getElem?_eq_getElem lj1) ?_;refine hc.call _ _ _ _ o.le ?_;simp -dsimp only[V.zeh,V.zjt,B.ze];refine B.zm (λhd=>?_) (λhd=>?_)
   ·exact fin o W1 (b1.done W lj (.inr λ_=>by simpa using hd))
   ·have hlt:c G1[j] G1[j-1]<0:=by simpa using hd
    have haj2:a<j:=by
     rcases Nat.lt_or_ge a j with k|k
     ·exact k
     ·have:j=a:=by omega
      subst this;exact absurd hlt ((hp.within W1) (by omega) j (Nat.le_refl _) (by omega) _ _)
    simp -dsimp only[sj,o.idx lj,o.idx lj1,B.ze];refine o.ld S (getElem?_eq_getElem lj1) ?_;refine o.ld S (getElem?_eq_getElem lj) ?_;refine o.swap S lj lj1 λh2 o2=>?_;exact hY2 (j-1) _ _ (by omega) ⟨_,rfl,by omega,by omega,b1.step W haj2 lj lj1 hlt,W1.trans (zfi lj lj1 (by omega) (by omega) (by omega) (by omega)),o2⟩
  ·rw[decide_eq_false_iff_not]at he
   exact fin o W1 (b1.done W lj (.inl (by omega)))
 ·rw[decide_eq_false_iff_not]at hd
  exact fin ho (zc1.refl _ _ _) λp q _ _ _ _ _=>by omega
theorem zis(S:zds E cs v)(W:zo6 (zgi c))(hc:zeo C v c f h0)(ho:Rw E cs h0 h x G R)(hl:G.length <= 100000000)(hab:a<b)(hb:b <= G.length)(hp:Pre c a b G)
  (hq:∀h' G' t,zc1 a b G G'->(t=true->Srt c a b G')->Rw E cs h0 h' x G' R->Q (.bool t) h'):
  zf.cps C E x (.int .i64 (a:Int)) (.int .i64 (b:Int)) f h Q:=by
 simp -dsimp only[zf.cps,zg8 (show a<4611686018427387904 by omega),B.ze];refine zd.intro (λt vs hh=>∃(s i:Nat)(G':List X),s+t=5 /\ vs=[.int .i64 (i:Int),.int .i64 (s:Int)] /\ a<i /\ i <= b /\ Srt c a i G' /\ zc1 a b G G' /\ Rw E cs h0 hh x G' R) 5 ?_ ⟨0,a+1,G,rfl,rfl,by omega,by omega,λp q _ _ _ _ _=>by omega,zc1.refl _ _ _,ho⟩;rintro Y t vs hh ⟨s,i,G1,hst,rfl,hai,hib,s1,W1,o⟩ hY;have hl1:=W1.len;have h5:V.bin .lss (.int .i64 (s:Int)) (.int .i64 5)=some (.bool (decide (s<5))):=zqg (b:=5);simp -dsimp only[zf.l12,zf.k11,h5,B.ze];refine B.zm (λhd=>?_) (λhd=>hq hh G1 false W1 (λh=>by cases h) o);rw[decide_eq_true_eq]at hd;refine zd.intro (λt vs hh=>∃(i:Nat),i+t=b /\ vs=[.int .i64 (i:Int)] /\ a<i /\ Srt c a i G1 /\ Rw E cs h0 hh x G1 R) (b-i) ?_ ⟨i,by omega,rfl,hai,s1,o⟩;rintro Z t vs hh ⟨i,hit,rfl,hai,s2,o2⟩ hZ;simp -dsimp only[zf.l10,zf.k9,zqg,B.ze];by_cases hd2:i<b
 ·have li:i<G1.length:=by omega
  have li1:i-1<G1.length:=by omega
  have si:=zwz (a:=i) (by omega) (by omega);simp -dsimp only[hd2,decide_true,B.zi1,B.zdr,si,o2.idx li,o2.idx li1,B.ze];refine o2.ld S (getElem?_eq_getElem li) ?_;refine o2.ld S (getElem?_eq_getElem li1) ?_;refine hc.call _ _ _ _ o2.le ?_;simp -dsimp only[hd2,decide_true,B.zi1,B.zdr,V.zeh,V.zjt,B.zhx,B.ze];refine B.zm (λhe=>?_) (λhe=>?_)
  ·have hnl:¬ c G1[i] G1[i-1]<0:=by simpa using he
   simp -dsimp only[zg8 (show i<4611686018427387904 by omega),B.ze];refine hZ (t-1) _ _ (by omega) ⟨i+1,by omega,rfl,by omega,?_,o2⟩;exact But1.done W (j:=i) (λp q h1 h2 h3 h4 h5 h6=>s2 p q h1 h2 (by omega) h5 h6) li (.inr λ_=>hnl)
  ·have hlt:c G1[i] G1[i-1]<0:=by simpa using he
   have hne:V.bin .eql (.int .i64 (i:Int)) (.int .i64 (b:Int))=some (.bool false):=by rw[V.zhh];simp;omega
   simp -dsimp only[hne,B.ze,B.cond_false,zf.k8,zf.k7,zio (show a <= b by omega) (show b<4611686018427387904 by omega)];rw[show V.bin .lss (.int .i64 ((b-a:Nat):Int)) (.int .i64 50)=some (.bool (decide (b-a<50))) from zqg (b:=50)];simp -dsimp only[B.ze];refine B.zm (λhf=>hq hh G1 false W1 (λh=>by cases h) o2) (λhf=>?_);simp -dsimp only[zf.k7,si,o2.idx li,o2.idx li1,B.ze];refine o2.ld S (getElem?_eq_getElem li1) ?_;refine o2.ld S (getElem?_eq_getElem li) ?_;refine o2.swap S li li1 λh3 o3=>?_;have hsl:=zku li li1;have w3:zc1 a b G1 (swp G1 i (i-1) li li1):=zfi li li1 (by omega) (by omega) (by omega) (by omega);have W3:=W1.trans w3;refine pis_k6 S W hc o3 (by omega) hai hd2 (by omega) (by omega) (hp.within W3) (λp q h1 h2 h3 h4 h5 h6=>?_) λh4 G4 W4 s4 o4=>hY (5-(s+1)) _ _ (by omega) ⟨s+1,i,G4,by omega,rfl,hai,by omega,s4,W3.trans W4,o4⟩;rw[zim li li1 h6 (by omega),if_neg h4,if_neg (by omega),zim li li1 h5 (by omega),if_neg (by omega),if_neg (by omega)];exact s2 p q h1 h2 h3 _ _
 ·have e:i=b:=by omega
  subst e;have heq:V.bin .eql (.int .i64 (i:Int)) (.int .i64 (i:Int))=some (.bool true):=by rw[V.zhh];simp
  simp -dsimp only[hd2,decide_false,B.zi1,B.zgd,B.ziv,B.cond_false,heq,B.cond_true,B.ze];exact hq hh G1 true W1 (λ_=>s2) o2
end
variable{C:zh}{N:zN}
def be(n:Int):Nat->List UInt8|0=>[]|k+1=>byt (n.fdiv (2 ^ (8*k)))::be n k
@[simp] theorem be_len(n:Int):∀k,(be n k).length=k
 | 0=>rfl
 | k+1=>by simp[be,be_len n k]
variable{C:zh}{N:zN}
structure Rdr where
 at_:Nat
 bad:Bool
theorem bin_shl{k j:IntKind}{a b:Int}(h0:0 <= b)(h1:b<k.bits):V.bin .shl (.int k a) (.int j b)=some (.int k (k.wrap (a*2 ^ b.toNat))):=by
 simp only[V.bin,V.shift];rw[if_neg (by omega),Nat.min_eq_left (by omega)]
variable{C:zh}{N:zN}
theorem V.bin_xor(k:IntKind)(a b:Int):V.bin .xor (.int k a) (.int k b)=some (.int k (k.wrap (BitVec.ofInt k.bits a ^^^ BitVec.ofInt k.bits b).toNat)):=by simp[V.bin,V.arith]
theorem V.bin_and(k:IntKind)(a b:Int):V.bin .and (.int k a) (.int k b)=some (.int k (k.wrap (BitVec.ofInt k.bits a &&& BitVec.ofInt k.bits b).toNat)):=by simp[V.bin,V.arith]
theorem wrapU{n:Nat}(h:n<18446744073709551616):IntKind.u64.wrap (n:Int)=n:=by rw[wrap_u64];omega
theorem toUN{n:Nat}(h:n<18446744073709551616):V.toInt .u64 (.int .i64 (n:Int))=some (.int .u64 (n:Int)):=by rw[V.toInt_int,wrapU h]
theorem toIN{k:IntKind}{n:Nat}(h:n<4611686018427387904):V.toInt .i64 (.int k (n:Int))=some (.int .i64 (n:Int)):=by rw[V.toInt_int,wrap_i64 (by omega) (by omega)]
theorem and_le{z:Int}{m:Nat}(h:m<4611686018427387904):∃o:Nat,o <= m /\ V.bin .and (.int .u64 z) (.int .u64 (m:Int))=some (.int .u64 (o:Int)):=by
 refine⟨(BitVec.ofInt 64 z &&& BitVec.ofInt 64 (m:Int)).toNat,?_,?_⟩
 ·rw[BitVec.toNat_and]
  refine Nat.le_trans Nat.and_le_right ?_;rw[BitVec.toNat_ofInt];omega
 ·rw[V.bin_and]
  show some (za.int .u64 (IntKind.u64.wrap ((BitVec.ofInt 64 z &&& BitVec.ofInt 64 (m:Int)).toNat:Int)))=_;rw[wrapU (BitVec.isLt _)]
def lenT:List UInt8:=[0,1,2,2,3,3,3,3,4,4,4,4,4,4,4,4,5,5,5,5,5,5,5,5,5,5,5,5,5,5,5,5,6,6,6,6,6,6,6,6,6,6,6,6,6,6,6,6,6,6,6,6,6,6,6,6,6,6,6,6,6,6,6,6,7,7,7,7,7,7,7,7,7,7,7,7,7,7,7,7,7,7,7,7,7,7,7,7,7,7,7,7,7,7,7,7,7,7,7,7,7,7,7,7,7,7,7,7,7,7,7,7,7,7,7,7,7,7,7,7,7,7,7,7,7,7,7,7,8,8,8,8,8,8,8,8,8,8,8,8,8,8,8,8,8,8,8,8,8,8,8,8,8,8,8,8,8,8,8,8,8,8,8,8,8,8,8,8,8,8,8,8,8,8,8,8,8,8,8,8,8,8,8,8,8,8,8,8,8,8,8,8,8,8,8,8,8,8,8,8,8,8,8,8,8,8,8,8,8,8,8,8,8,8,8,8,8,8,8,8,8,8,8,8,8,8,8,8,8,8,8,8,8,8,8,8,8,8,8,8,8,8,8,8,8,8,8,8,8,8,8,8,8,8,8,8]
theorem idxStr_u8{s:List UInt8}{k:Nat}{b:UInt8}(hb:s[k]?=some b):V.zug (.str s) (.int .u8 (k:Int))=some (.int .u8 b.toNat):=by
 simp[V.zug,hb]
theorem lenT_all:∀k:Fin 256,∃b:Fin 9,lenT[k.val]?=some (UInt8.ofNat b.val) /\ (0<k.val->2 ^ b.val <= 2*k.val):=by decide +kernel
theorem lenTab{k:Nat}(h:k<256):∃b:Nat,V.zug (.str lenT) (.int .u8 (k:Int))=some (.int .u8 (b:Int)) /\ b <= 8 /\ (0<k->2 ^ b <= 2*k):=by
 obtain⟨b,e,hb⟩:=lenT_all ⟨k,h⟩;have hb9:=b.isLt;refine⟨b.val,?_,by omega,hb⟩;rw[idxStr_u8 e];congr 2;rw[UInt8.toNat_ofNat',Nat.mod_eq_of_lt (by omega)]
theorem Len64_k1{Q:zQ}{v0 v2:za}{h:zb}:zcf.k1 C N Q v0 v2 h=(B.pv (V.toInt .u8 v0) λv21=>B.pv (V.zug (.str lenT) v21) λv22=>B.pv (V.toInt .i64 v22) λv23=>B.pv (V.bin .add v2 v23) λv24=>Q v24 h):=rfl
theorem Len64_spec{x:Nat}(hx:x <= 100000000){h:zb}{Q:zQ}(hq:∀r:Nat,r <= 32->(0<x->2 ^ r <= 2*x)->Q (.int .i64 (r:Int)) h):zcf.cps C N (.int .u64 (x:Int)) h Q:=by
 have fin:∀(y s:Nat),y<256->s <= 24->(0<x->0<y)->2 ^ s*y <= x->zcf.k1 C N Q (.int .u64 (y:Int)) (.int .i64 (s:Int)) h:=λy s hy hs h0 hle=>by
  obtain⟨b,e,hb,hp⟩:=lenTab hy;have e1:V.toInt .u8 (.int .u64 (y:Int))=some (.int .u8 (y:Int)):=by rw[V.toInt_int,wrap_u8];congr 2;omega
  rw[Len64_k1];simp -dsimp only[e1,B.ze,e,toIN (show b<4611686018427387904 by omega),zlc (show s+b<4611686018427387904 by omega)];refine hq (s+b) (by omega) λhx0=>?_;have h1:=hp (h0 hx0);have h2:2 ^ s*2 ^ b <= 2 ^ s*(2*y):=Nat.mul_le_mul_left _ h1;rw[Nat.pow_add];have h3:2 ^ s*(2*y)=2*(2 ^ s*y):=by rw[Nat.mul_left_comm]
  omega
 have sh:∀(y j:Nat),j<64->V.bin .shr (.int .u64 (y:Int)) (.int .u64 (j:Int))=some (.int .u64 ((y / 2 ^ j:Nat):Int)):=λy j hj=>by
  rw[bin_shr (by omega) (by simp[IntKind.bits];omega),Int.toNat_natCast];congr 2;rw[Int.fdiv_eq_ediv_of_nonneg _ (by exact_mod_cast Nat.zero_le (2 ^ j))];simp
 have g3:V.bin .geq (.int .u64 (x:Int)) (.int .u64 4294967296)=some (.bool false):=by rw[V.zk5];simp;omega
 have gk:∀y m:Nat,V.bin .geq (.int .u64 (y:Int)) (.int .u64 (m:Int))=some (.bool (decide (m <= y))):=λy m=>by rw[V.zk5];congr 3;exact propext (by omega)
 have low:∀(y s:Nat),y<65536->s <= 16->(0<x->0<y)->2 ^ s*y <= x->zcf.k2 C N Q (.int .u64 (y:Int)) (.int .i64 (s:Int)) h:=λy s hy hs h0 hle=>by
  have g1:V.bin .geq (.int .u64 (y:Int)) (.int .u64 256)=some (.bool (decide (256 <= y))):=gk y 256;have s1:V.bin .shr (.int .u64 (y:Int)) (.int .u64 8)=some (.int .u64 ((y / 2 ^ 8:Nat):Int)):=sh y 8 (by omega);have a1:V.bin .add (.int .i64 (s:Int)) (.int .i64 8)=some (.int .i64 ((s+8:Nat):Int)):=zlc (a:=s) (b:=8) (by omega);simp -dsimp only[zcf.k2,g1,B.ze];refine B.zm (λhd=>?_) (λhd=>?_)
  ·rw[decide_eq_true_eq]at hd
   simp -dsimp only[s1,a1,B.ze];refine fin (y / 2 ^ 8) (s+8) (by omega) (by omega) (λ_=>by omega) ?_;rw[Nat.pow_add,Nat.mul_assoc];refine Nat.le_trans (Nat.mul_le_mul_left _ ?_) hle;omega
  ·rw[decide_eq_false_iff_not]at hd
   exact fin y s (by omega) (by omega) h0 hle
 have g2:V.bin .geq (.int .u64 (x:Int)) (.int .u64 65536)=some (.bool (decide (65536 <= x))):=gk x 65536;have s2:V.bin .shr (.int .u64 (x:Int)) (.int .u64 16)=some (.int .u64 ((x / 2 ^ 16:Nat):Int)):=sh x 16 (by omega);simp -dsimp only[zcf.cps,zcf.k4,zcf.k3,g3,g2,s2,B.ze,B.cond_false];refine B.zm (λhd=>?_) (λhd=>?_)
 ·rw[decide_eq_true_eq]at hd
  simp -dsimp only[s2,show V.bin .add (.int .i64 0) (.int .i64 16)=some (.int .i64 ((16:Nat):Int)) from rfl,B.ze];exact low (x / 2 ^ 16) 16 (by omega) (by omega) (λ_=>by omega) (by omega)
 ·rw[decide_eq_false_iff_not]at hd
  exact low x 0 (by omega) (by omega) id (by simp)
theorem Len_spec(i:zcf.Imp C N){x:Nat}(hx:x <= 100000000){h:zb}{Q:zQ}(hq:∀r:Nat,r <= 32->(0<x->2 ^ r <= 2*x)->Q (.int .i64 (r:Int)) h):zfx.cps C N (.int .u64 (x:Int)) h Q:=by
 simp -dsimp only[zfx.cps,zfx.k1,B.cond_false];exact i _ _ _ (Len64_spec hx λr h1 h2=>zba (hq r h1 h2))
def LenI(C:zh)(f:Nat):Prop:=∀(x:Nat)(h:zb)(Q:zQ),x <= 100000000->(∀r:Nat,r <= 32->(0<x->2 ^ r <= 2*x)->Q (.int .i64 (r:Int)) h)->C f [.int .u64 (x:Int)] h Q
theorem zfx.spec(i:zfx.Imp C N)(i2:zcf.Imp C N):LenI C (N 287):=λx h Q hx hq=>i _ _ _ (Len_spec i2 hx λr h1 h2=>zba (hq r h1 h2))
def PowI(C:zh)(f:Nat):Prop:=∀(n:Nat)(h:zb)(Q:zQ),0<n->n <= 100000000->(∀m:Nat,0<m->m <= 2*n->Q (.int .u64 (m:Int)) h)->C f [.int .i64 (n:Int)] h Q
theorem zd5.spec(i:zd5.Imp C N)(hl:LenI C (N 287)):PowI C (N 299):=λn h Q h0 hn hq=>by
 apply i;simp -dsimp only[zd5.cps,toUN (show n<18446744073709551616 by omega),B.ze];refine hl n h _ hn λr hr hp=>?_;have e:V.bin .shl (.int .u64 1) (.int .i64 (r:Int))=some (.int .u64 ((2 ^ r:Nat):Int)):=by
  rw[bin_shl (by omega) (by simp[IntKind.bits];omega),Int.toNat_natCast];have:(1:Int)*2 ^ r=((2 ^ r:Nat):Int):=by simp
  rw[this,wrapU];have:=hp h0;omega
 simp -dsimp only[e,B.ze];exact zba (hq (2 ^ r) (Nat.pos_of_ne_zero (by simp)) (hp h0))
def NextI(C:zh)(f:Nat):Prop:=∀(h0 h:zb)(p:za)(n:Int)(Q:zQ),zcw h0 h [.box p [.int .u64 n]]->(∀m m' h',zcw h0 h' [.box p [.int .u64 m']]->Q (.int .u64 m) h')->C f [p] h Q
theorem zdm.spec(i:zdm.Imp C N):NextI C (N 298):=λh0 h p n Q ho hq=>by
 have key:∀{h:zb}{n:Int},zcw h0 h [.box p [.int .u64 n]]->∃id,p= .ptr id 0 0 /\ A.ldv h (.ptr id 0 0)=some (.int .u64 n):=λ{h n} ho=>by
  obtain⟨id,rfl,hb⟩:=ho.zts 0 rfl
  exact⟨id,rfl,by rw[zpg hb];rfl⟩
 apply i
 obtain⟨id,rfl,ld⟩:=key ho
 simp -dsimp only[zdm.cps,zdm.k1,B.zk9,B.zha,ld,B.ze,bin_shl (k:= .u64) (j:= .u64) (b:=13) (by omega) (by simp[IntKind.bits]),V.bin_xor]
 refine ho.zyp 0 (off:=0) rfl rfl (by simp) λh1 o1 _=>?_
 simp only[set_cons_zero]at o1
 obtain⟨id1,e,ld1⟩:=key o1
 cases e
 simp -dsimp only[B.zk9,B.zha,ld1,B.ze,bin_shr (k:= .u64) (j:= .u64) (b:=7) (by omega) (by simp[IntKind.bits]),V.bin_xor]
 refine o1.zyp 0 (off:=0) rfl rfl (by simp) λh2 o2 _=>?_
 simp only[set_cons_zero]at o2
 obtain⟨id2,e,ld2⟩:=key o2
 cases e
 simp -dsimp only[B.zk9,B.zha,ld2,B.ze,bin_shl (k:= .u64) (j:= .u64) (b:=17) (by omega) (by simp[IntKind.bits]),V.bin_xor]
 refine o2.zyp 0 (off:=0) rfl rfl (by simp) λh3 o3 _=>?_
 simp only[set_cons_zero]at o3
 obtain⟨id3,e,ld3⟩:=key o3
 cases e
 simp -dsimp only[B.zk9,B.zha,ld3,B.ze]
 exact zba (hq _ _ _ o3)
section
variable{E:z8}{X:Type}{cs:X->List za}{v:X->za}{h0 h:zb}{x f:za}{G:List X}{R:List (List za)}{Q:zQ}{a b:Nat}
theorem zlv{f1 f2:Nat}(hn:NextI C f1)(hp:PowI C f2)(S:zds E cs v)(ho:Rw E cs h0 h x G R)(hl:G.length <= 100000000)(hab:a <= b)(hb:b <= G.length)
  (hq:∀h' G',zc1 a b G G'->Rw E cs h0 h' x G' R->Q (.tup []) h'):zo.cps C E f1 f2 x (.int .i64 (a:Int)) (.int .i64 (b:Int)) f h Q:=by
 obtain⟨n,en⟩:∃n,n=b-a:=⟨_,rfl⟩;have e1:=zio hab (show b<4611686018427387904 by omega);rw[<-en]at e1;have g8:V.bin .geq (.int .i64 (n:Int)) (.int .i64 8)=some (.bool (decide (8 <= n))):=zzb (b:=8);simp -dsimp only[zo.cps,zo.k8,e1,g8,B.ze];refine B.zm (λhd=>?_) (λhd=>hq h G (zc1.refl _ _ _) ho);rw[decide_eq_true_eq]at hd;simp -dsimp only[zo.k7,toUN (show n<18446744073709551616 by omega),B.ze];intro id hid;have o:=zcw.zvy ho hid [.int .u64 0];simp only[cons_append,nil_append]at o;refine o.zyp 1 (off:=0) rfl rfl (by simp) λh1 o1 _=>?_;simp only[set_cons_succ,set_cons_zero]at o1;refine hp n _ _ (by omega) (by omega) λm hm0 hm=>?_;have m4:V.bin .quo (.int .i64 (n:Int)) (.int .i64 4)=some (.int .i64 ((n / 4:Nat):Int)):=quo4 (by omega);have m2:V.bin .mul (.int .i64 ((n / 4:Nat):Int)) (.int .i64 2)=some (.int .i64 ((n / 4*2:Nat):Int)):=mulN (a:=n / 4) (b:=2) (by omega);have m5:V.bin .add (.int .i64 (a:Int)) (.int .i64 ((n / 4*2:Nat):Int))=some (.int .i64 ((a+n / 4*2:Nat):Int)):=zlc (by omega);simp -dsimp only[zo.k6,m4,m2,m5,zwz (show 1 <= a+n / 4*2 by omega) (by omega),B.ze];refine zd.intro (λt vs hh=>∃(i:Nat)(G':List X)(z:Int),i+t=a+n / 4*2+2 /\ vs=[.int .i64 (i:Int)] /\ a <= i /\ zc1 a b G G' /\ zcw h0 hh [.sl E.es x (G'.map cs) R,.box (.ptr id 0 0) [.int .u64 z]]) 3 ?_ ⟨a+n / 4*2-1,G,_,by omega,rfl,by omega,zc1.refl _ _ _,o1⟩;rintro Y t vs hh ⟨i,G1,z,hit,rfl,hai,W1,o2⟩ hY;have l1:=W1.len;simp -dsimp only[zo.l5,zo.k4,m4,m2,m5,zg8 (show a+n / 4*2<4611686018427387904 by omega),leqN,B.ze];refine B.zm (λhe=>?_) (λhe=>hq hh G1 W1 (o2.sub (by simp)));rw[decide_eq_true_eq]at he;have oo:=zcw.out (l1:=[.sl E.es x (G1.map cs) R]) (l2:=[.box (.ptr id 0 0) [.int .u64 z]]) o2;simp -dsimp only[zo.k3]
 refine hn _ _ _ _ _ oo.2 λw z' h3 o3=>?_;have o4:=oo.1.join o3;have s1:V.bin .sub (.int .u64 (m:Int)) (.int .u64 1)=some (.int .u64 ((m-1:Nat):Int)):=by
  rw[V.zi9,show (m:Int)-1=((m-1:Nat):Int) by omega,wrapU (by omega)]
 obtain⟨ot,hot,ea⟩:=and_le (z:=w) (m:=m-1) (by omega);simp -dsimp only[s1,ea,toIN (show ot<4611686018427387904 by omega),B.ze,zo.k2,zzb];have fin:∀k:Nat,k<n->zo.k1 C E f1 f2 Q Y x (.int .i64 (a:Int)) (.int .i64 (n:Int)) (.ptr id 0 0) (.int .u64 (m:Int)) (.int .i64 (i:Int)) (.int .i64 (k:Int)) h3:=λk hk=>by
  have la:a+k<G1.length:=by omega
  have li:i<G1.length:=by omega
  have op:=zcw.perm o4 (List.Perm.swap _ _ []);have oq:=zcw.out (l1:=[.box (.ptr id 0 0) [.int .u64 z']]) (l2:=[.sl E.es x (G1.map cs) R]) op;have orw:Rw E cs _ h3 x G1 R:=oq.2;simp -dsimp only[zo.k1,zlc (show a+k<4611686018427387904 by omega),orw.idx la,orw.idx li,B.ze];refine orw.ld S (getElem?_eq_getElem la) ?_;refine orw.ld S (getElem?_eq_getElem li) ?_;refine orw.swap S li la λh5 o5=>?_;simp -dsimp only[zg8 (show i<4611686018427387904 by omega),B.ze];have o6:=oq.1.join o5;exact hY (a+n / 4*2+2-(i+1)) _ _ (by omega) ⟨i+1,_,z',by omega,rfl,by omega,W1.trans (zfi li la (by omega) (by omega) (by omega) (by omega)),o6.perm (List.Perm.swap _ _ [])⟩
 refine B.zm (λhf=>?_) (λhf=>?_)
 ·rw[decide_eq_true_eq]at hf
  simp -dsimp only[zio hf (show ot<4611686018427387904 by omega),B.ze];exact fin (ot-n) (by omega)
 ·rw[decide_eq_false_iff_not]at hf
  exact fin ot (by omega)
end
variable{C:zh}
section
variable{X:Type}{c:X->X->Int}{a b m A0 Z0:Nat}{G G':List X}
theorem le_of(W:zo6 (zgi c)){x y z:X}(h1:¬ c x y<0)(h2:¬ c y z<0):¬ c x z<0:=by
 have:=W.zsv (a:=x) (b:=y) (c:=z) (by unfold zgi;exact decide_eq_false h1) (by unfold zgi;exact decide_eq_false h2);unfold zgi at this;exact of_decide_eq_false this
theorem nlt_of(W:zo6 (zgi c)){x y:X}(h:c x y<0):¬ c y x<0:=by
 have:=W.asym (a:=x) (b:=y) (by unfold zgi;exact decide_eq_true h);unfold zgi at this;exact of_decide_eq_false this
theorem le_self(W:zo6 (zgi c))(x:X):¬ c x x<0:=by
 have:=W.irr x;unfold zgi at this;exact of_decide_eq_false this
theorem zng.pair(W:zo6 (zgi c))(x:zng c a b m G){p q:Nat}(h1:a <= p)(h2:p<q)(h3:q<b)(h4:p <= m)(h5:m <= q)(hp:p<G.length)(hq:q<G.length):¬ c G[q] G[p]<0:=by
 have hm:m<G.length:=by omega
 have e1:p<m->¬ c G[m] G[p]<0:=λk=>nlt_of W (x.lo p hp hm h1 k);have e2:m<q->¬ c G[q] G[m]<0:=λk=>x.hi q hq hm k h3;by_cases k1:p=m
 ·subst k1;exact e2 (by omega)
 ·by_cases k2:q=m
  ·subst k2;exact e1 (by omega)
  ·exact le_of W (e2 (by omega)) (e1 (by omega))
theorem zng.left(W:zo6 (zgi c))(x:zng c a b m G)(w:zc1 a m G G'):zng c a b m G':=by
 have hl:=w.len;refine⟨x.ge,x.lt,by have:=x.hb;omega,λk h hm h1 h2=>?_,λk h hm h1 h2=>?_⟩
 ·obtain⟨k',k1,k2,k3,e⟩:=w.mem h1 h2 h
  rw[e,w.same (k:=m) (.inr (by omega)) hm (by omega)];exact x.lo k' k3 _ k1 k2
 ·rw[w.same (k:=m) (.inr (by omega)) hm (by omega),w.same (k:=k) (.inr (by omega)) h (by omega)]
  exact x.hi k _ _ h1 h2
theorem zng.right(W:zo6 (zgi c))(x:zng c a b m G)(w:zc1 (m+1) b G G'):zng c a b m G':=by
 have hl:=w.len;refine⟨x.ge,x.lt,by have:=x.hb;omega,λk h hm h1 h2=>?_,λk h hm h1 h2=>?_⟩
 ·rw[w.same (k:=m) (.inl (by omega)) hm (by omega),w.same (k:=k) (.inl (by omega)) h (by omega)]
  exact x.lo k _ _ h1 h2
 ·obtain⟨k',k1,k2,k3,e⟩:=w.mem (k:=k) (by omega) h2 h
  rw[e,w.same (k:=m) (.inl (by omega)) hm (by omega)];exact x.hi k' k3 _ (by omega) k2
theorem Cut.left(W:zo6 (zgi c))(x:Cut c A0 Z0 a b G)(p:zng c a b m G)(s:Srt c a m G):Cut c A0 Z0 (m+1) b G:=λi j h1 h2 h3 h4 h5 h6=>by
 by_cases k:i<a \/ b <= j
 ·exact x i j h1 h2 h3 k h5 h6
 ·by_cases k2:j<m
  ·exact s i j (by omega) h2 k2 h5 h6
  ·exact p.pair W (by omega) h2 (by omega) (by omega) (by omega) h5 h6
theorem Cut.right(W:zo6 (zgi c))(x:Cut c A0 Z0 a b G)(p:zng c a b m G)(s:Srt c (m+1) b G):Cut c A0 Z0 a m G:=λi j h1 h2 h3 h4 h5 h6=>by
 by_cases k:i<a \/ b <= j
 ·exact x i j h1 h2 h3 k h5 h6
 ·by_cases k2:m<i
  ·exact s i j (by omega) h2 (by omega) h5 h6
  ·exact p.pair W (by omega) h2 (by omega) (by omega) (by omega) h5 h6
theorem Cut.pre(x:Cut c A0 Z0 a b G)(h:A0<a)(hb:b <= Z0):Pre c a b G:=λh0 i h1 h2 h3 h4=>x (a-1) i (by omega) (by omega) (by omega) (.inl (by omega)) h4 h3
theorem Pre.sub(x:Pre c a b G)(h:m <= b):Pre c a m G:=λh0 i h1 h2 h3 h4=>x h0 i h1 (by omega) h3 h4
theorem Cut.equal(W:zo6 (zgi c)){i j:Nat}(x:Cut c A0 Z0 a b G)(p:zuw c a b G i j)(hji:j<i)(ha:0<a)(hp:Pre c a b G)(hlt:a<b)(hd:∀(h1:a-1<G.length)(h2:a<G.length),¬ c G[a-1] G[a]<0):Cut c A0 Z0 i b G:=λs t h1 h2 h3 h4 h5 h6=>by
 have e:=p.hij;have e3:=p.hi;by_cases k:s<a \/ b <= t
 ·exact x s t h1 h2 h3 k h5 h6
 ·have la:a<G.length:=by omega
  have sp:¬ c G[a] G[s]<0:=by
   by_cases k3:s=a
   ·subst k3;exact le_self W _
   ·exact p.lo s h5 la (by omega) (by omega)
  by_cases k2:t<i
  ·have t1:=hp ha t (by omega) (by omega) h6 (by omega)
   exact le_of W (le_of W t1 (hd (by omega) la)) sp
  ·exact le_of W (nlt_of W (p.hi2 t h6 la (by omega) (by omega))) sp
end
abbrev I5(F:za->za->za->za->za->zb->(zQ)->Prop)(C:zh)(n:Nat):Prop:=∀(v0 v1 v2 v3 v4:za)(h:zb)(Q:zQ),F v0 v1 v2 v3 v4 h (dn Q)->C n [v0,v1,v2,v3,v4] h Q
abbrev I4(F:za->za->za->za->zb->(zQ)->Prop)(C:zh)(n:Nat):Prop:=∀(v0 v1 v2 v3:za)(h:zb)(Q:zQ),F v0 v1 v2 v3 h (dn Q)->C n [v0,v1,v2,v3] h Q
structure PdqI(C:zh)(E:z8)(f1 f2 f3 f4 f5 f6 f7 f8 f9 g1 g2 g3 g4 g5 g6:Nat):Prop where
 eq:I5 (zn.cps C E) C f1
 part:I5 (zg.cps C E) C f2
 pdq:I5 (zq.cps C E f1 f2 f3 f4 f5 f6 f7 f8 f9) C f3
 pis:I4 (zf.cps C E) C f4
 rev:I4 (zc8.cps C E) C f5
 piv:I4 (zu.cps C E g2 g3) C f6
 brk:I4 (zo.cps C E g5 g6) C f7
 heap:I4 (zbn.cps C E g4) C f8
 ins:I4 (zbr.cps C E) C f9
 ord:O2I C E g1
 med:MedI C E g1 g2
 adj:AdjI C E g2 g3
 sift:SiftI C E g4
 next:NextI C g5
 pow:PowI C g6
section
variable{E:z8}{X:Type}{cs:X->List za}{v:X->za}{h0 h:zb}{x f:za}{G:List X}{R:List (List za)}{c:X->X->Int}{Q:zQ}{Y:zL}{f1 f2 f3 f4 f5 f6 f7 f8 f9 g1 g2 g3 g4 g5 g6:Nat}
structure PS(E:z8){X:Type}(cs:X->List za)(h0:zb)(x:za)(R:List (List za))(c:X->X->Int)(A0 Z0:Nat)(G0:List X)(a b:Nat)(G:List X)(h:zb):Prop where
 hA:A0 <= a
 hab:a <= b
 hB:b <= Z0
 W:zc1 A0 Z0 G0 G
 cut:Cut c A0 Z0 a b G
 pre:Pre c a b G
 o:Rw E cs h0 h x G R
theorem PS.zqk{A0 Z0 a b:Nat}{G0 G':List X}{h':zb}(p:PS E cs h0 x R c A0 Z0 G0 a b G h)(w:zc1 a b G G')(o:Rw E cs h0 h' x G' R):PS E cs h0 x R c A0 Z0 G0 a b G' h':=⟨p.hA,p.hab,p.hB,p.W.trans (w.mono p.hA p.hB),p.cut.within w p.hA p.hB,p.pre.within w,o⟩
abbrev Go1(E:z8){X:Type}(cs:X->List za)(h0:zb)(x:za)(R:List (List za))(c:X->X->Int)(A0 Z0:Nat)(G0:List X)(n:Nat)(Y:zL):Prop:=∀a b (lim:Int) w1 w2 G h,b-a<n->PS E cs h0 x R c A0 Z0 G0 a b G h->Y [.int .i64 (a:Int),.int .i64 (b:Int),.int .i64 lim,.bool w1,.bool w2] h
theorem pdq_k1(J:PdqI C E f1 f2 f3 f4 f5 f6 f7 f8 f9 g1 g2 g3 g4 g5 g6)(S:zds E cs v)(W:zo6 (zgi c))(hc:zeo C v c f h0){A0 Z0 a b:Nat}{G0:List X}{lim:Int}{w1 w2:Bool}{pv:Nat}(p:PS E cs h0 x R c A0 Z0 G0 a b G h)(hl:G.length <= 100000000)(hBl:Z0 <= G.length)
  (h1:a <= pv) (h2:pv<b)
  (rcs:∀(a' b':Nat)(lim:Int)(h:zb)(G:List X)(Q:zQ),b'-a'<b-a->a' <= b'->b' <= G.length->G.length <= 100000000->Pre c a' b' G->Rw E cs h0 h x G R->(∀h' G',zc1 a' b' G G'->Srt c a' b' G'->Rw E cs h0 h' x G' R->Q (.tup []) h') ->
   C f3 [x,.int .i64 (a':Int),.int .i64 (b':Int),.int .i64 lim,f] h Q)
  (hY:Go1 E cs h0 x R c A0 Z0 G0 (b-a) Y):
  zq.k1 C E f1 f2 f3 f4 f5 f6 f7 f8 f9 Q Y x (.int .i64 (a:Int)) (.int .i64 (b:Int)) (.int .i64 lim) f (.bool w1) (.bool w2) (.int .i64 ((b-a:Nat):Int)) (.int .i64 (pv:Int)) h:=by
 have hA:=p.hA;have hB:=p.hB;have o:=p.o;have lp:pv<G.length:=by omega
 have part:zq.k1 C E f1 f2 f3 f4 f5 f6 f7 f8 f9 Q Y x (.int .i64 (a:Int)) (.int .i64 (b:Int)) (.int .i64 lim) f (.bool w1) (.bool w2) (.int .i64 ((b-a:Nat):Int)) (.int .i64 (pv:Int)) h =
  zq.k1 C E f1 f2 f3 f4 f5 f6 f7 f8 f9 Q Y x (.int .i64 (a:Int)) (.int .i64 (b:Int)) (.int .i64 lim) f (.bool w1) (.bool w2) (.int .i64 ((b-a:Nat):Int)) (.int .i64 (pv:Int)) h:=rfl
 clear part;have part:C f2 [x,.int .i64 (a:Int),.int .i64 (b:Int),.int .i64 (pv:Int),f] h (λv111 h=>
  B.pv (V.ext 0 v111) λv112=>
  B.pv (V.ext 1 v111) λv113=>
  B.pv (V.bin .sub v112 (.int .i64 (a:Int))) λv117=>
  B.pv (V.bin .sub (.int .i64 (b:Int)) v112) λv120=>
  B.pv (V.bin .quo (.int .i64 ((b-a:Nat):Int)) (.int .i64 8)) λv122=>
  B.pv (V.bin .lss v117 v120) λv125=>
  B.cond v125
  (B.pv (V.bin .geq v117 v122) λv128=>
  B.call C f3 [x,.int .i64 (a:Int),v112,.int .i64 lim,f] h λv134 h=>
  B.pv (V.bin .add v112 (.int .i64 1)) λv136=>
  Y [v136,.int .i64 (b:Int),.int .i64 lim,v128,v113] h)
  (B.pv (V.bin .geq v120 v122) λv139=>
  B.pv (V.bin .add v112 (.int .i64 1)) λv142=>
  B.call C f3 [x,v142,.int .i64 (b:Int),.int .i64 lim,f] h λv146 h=>
  Y [.int .i64 (a:Int),v112,.int .i64 lim,v139,v113] h)):=by
  refine J.part _ _ _ _ _ _ _ (zoz S hc o (by omega) h1 h2 (by omega) λh3 m G3 t pt W3 o3=>zba ?_);have p3:=p.zqk W3 o3;have l3:=W3.len;have m1:=pt.ge;have m2:=pt.lt;have q8:V.bin .quo (.int .i64 ((b-a:Nat):Int)) (.int .i64 8)=some (.int .i64 (((b-a) / 8:Nat):Int)):=by
   rw[V.zmy _ _ _ (by omega),show ((b-a:Nat):Int).tdiv 8=(((b-a) / 8:Nat):Int) from rfl,wrap_i64 (by omega) (by omega)]
  simp -dsimp only[V.zit,getElem?_cons_zero,getElem?_cons_succ,B.ze,zio m1 (show m<4611686018427387904 by omega),zio (show m <= b by omega) (show b<4611686018427387904 by omega),q8,zqg,zzb,zg8 (show m<4611686018427387904 by omega)];refine B.zm (λhd=>?_) (λhd=>?_)
  ·simp -dsimp only[zzb,zg8 (show m<4611686018427387904 by omega),B.ze]
   refine rcs a m lim _ G3 _ (by omega) m1 (by omega) (by omega) (p3.pre.sub (by omega)) o3 λh4 G4 W4 s4 o4=>?_;have pt4:=pt.left W W4;have cut4:=(p3.cut.within (W4.mono (Nat.le_refl _) (by omega)) hA hB).left W pt4 s4;simp -dsimp only[zg8 (show m<4611686018427387904 by omega),B.ze];exact hY (m+1) b lim _ _ G4 h4 (by omega) ⟨by omega,by omega,hB,p3.W.trans (W4.mono hA (by omega)),cut4,cut4.pre (by omega) hB,o4⟩
  ·have c3:Pre c (m+1) b G3:=λh0 i k1 k2 k3 k4=>pt.pair W (p:=m+1-1) (q:=i) (by omega) (by omega) k2 (by omega) (by omega) k4 k3
   simp -dsimp only[zzb,zg8 (show m<4611686018427387904 by omega),B.ze];refine rcs (m+1) b lim _ G3 _ (by omega) (by omega) (by omega) (by omega) c3 o3 λh4 G4 W4 s4 o4=>?_;have pt4:=pt.right W W4;have W4':zc1 a b G3 G4:=W4.mono (by omega) (Nat.le_refl _);have cut4:=(p3.cut.within W4' hA hB).right W pt4 s4;exact hY a m lim _ _ G4 h4 (by omega) ⟨hA,m1,by omega,p3.W.trans (W4.mono (by omega) hB),cut4,(p3.pre.within W4').sub (by omega),o4⟩
 simp -dsimp only[zq.k1];have g0:V.bin .gtr (.int .i64 (a:Int)) (.int .i64 0)=some (.bool (decide (0<a))):=gtrN (b:=0);simp -dsimp only[g0,B.ze];by_cases ha:0<a
 ·have la:a-1<G.length:=by omega
  simp -dsimp only[ha,decide_true,B.zi1,B.zdr,zwz (show 1 <= a by omega) (show a<4611686018427387904 by omega),o.idx la,o.idx lp,B.ze];refine o.ld S (getElem?_eq_getElem la) ?_;refine o.ld S (getElem?_eq_getElem lp) ?_;refine hc.call _ _ _ _ o.le ?_;simp -dsimp only[ha,decide_true,B.zi1,B.zdr,V.zeh,V.zjt,B.zhx,B.ze];refine B.zm (λhe=>?_) (λhe=>part);have hd:¬ c G[a-1] G[pv]<0:=by simpa using he
  refine J.eq _ _ _ _ _ _ _ (zkx S hc o (by omega) h1 h2 (by omega) λh3 i j G3 pe hji W3 e3 o3=>zba ?_);have p3:=p.zqk W3 o3;have l3:=W3.len;have k1:=pe.hi;have k2:=pe.hij;have k3:=pe.hj
  have cut4:=p3.cut.equal W pe hji ha p3.pre (by omega) λq1 q2=>by
   rw[e3 q2 lp,W3.same (.inl (by omega)) q1 la];exact hd
  exact hY i b lim _ _ G3 h3 (by omega) ⟨by omega,by omega,hB,p3.W,cut4,cut4.pre (by omega) hB,o3⟩
 ·simp -dsimp only[ha,decide_false,B.zi1,B.zgd,B.ziv,B.cond_false]
  exact part
theorem pdq_spec(J:PdqI C E f1 f2 f3 f4 f5 f6 f7 f8 f9 g1 g2 g3 g4 g5 g6)(S:zds E cs v)(W:zo6 (zgi c))(hc:zeo C v c f h0):∀(n:Nat)(A0 Z0:Nat)(lim:Int)(h:zb)(G:List X)(Q:zQ),Z0-A0=n->A0 <= Z0->Z0 <= G.length->G.length <= 100000000->Pre c A0 Z0 G->Rw E cs h0 h x G R ->
  (∀h' G',zc1 A0 Z0 G G'->Srt c A0 Z0 G'->Rw E cs h0 h' x G' R->Q (.tup []) h')->zq.cps C E f1 f2 f3 f4 f5 f6 f7 f8 f9 x (.int .i64 (A0:Int)) (.int .i64 (Z0:Int)) (.int .i64 lim) f h Q:=by
 intro n
 induction n using Nat.strongRecOn with
 | ind n ih=>
 intro A0 Z0 lim h G0 Q hn hAB hBl hl hpre ho hq;simp -dsimp only[zq.cps];refine zd.intro (λt vs hh=>∃(a b:Nat)(lim:Int)(w1 w2:Bool)(G:List X),t=b-a /\ vs=[.int .i64 (a:Int),.int .i64 (b:Int),.int .i64 lim,.bool w1,.bool w2] /\ PS E cs h0 x R c A0 Z0 G0 a b G hh) (Z0-A0) ?_
  ⟨A0,Z0,lim,true,true,G0,rfl,rfl,⟨Nat.le_refl _,hAB,Nat.le_refl _,zc1.refl _ _ _,λp q _ _ _ k=>by omega,hpre,ho⟩⟩
 rintro Y t vs hh ⟨a,b,lim,w1,w2,G,rfl,rfl,p⟩ hY';have hY:Go1 E cs h0 x R c A0 Z0 G0 (b-a) Y:=λa' b' lim' w1' w2' G' h' hlt p'=>hY' (b'-a') _ _ hlt ⟨a',b',lim',w1',w2',G',rfl,rfl,p'⟩;clear hY';have hA:=p.hA;have hab:=p.hab;have hB:=p.hB;have lG:=p.W.len;have rcs:∀(a' b':Nat)(lim:Int)(h:zb)(G:List X)(Q:zQ),b'-a'<b-a->a' <= b'->b' <= G.length->G.length <= 100000000->Pre c a' b' G->Rw E cs h0 h x G R->(∀h' G',zc1 a' b' G G'->Srt c a' b' G'->Rw E cs h0 h' x G' R->Q (.tup []) h') ->
   C f3 [x,.int .i64 (a':Int),.int .i64 (b':Int),.int .i64 lim,f] h Q:=λa' b' lim h G Q k1 k2 k3 k4 k5 k6 k7=>
  J.pdq _ _ _ _ _ _ _ (ih (b'-a') (by omega) a' b' lim h G _ rfl k2 k3 k4 k5 k6 λh' G' w s o=>zba (k7 h' G' w s o))
 have fin:∀{hh G G2},PS E cs h0 x R c A0 Z0 G0 a b G hh->∀h',zc1 a b G G2->Srt c a b G2->Rw E cs h0 h' x G2 R->Q (.tup []) h':=λp h' w s o=>by
  have p2:=p.zqk w o;exact hq h' _ p2.W (p2.cut.join s) o
 have e12:V.bin .leq (.int .i64 ((b-a:Nat):Int)) (.int .i64 12)=some (.bool (decide (b-a <= 12))):=leqN (b:=12);simp -dsimp only[zq.l8,zio hab (show b<4611686018427387904 by omega),B.ze,zq.k7,e12];refine B.zm (λhd=>?_) (λhd=>?_)
 ·exact J.ins _ _ _ _ _ _ (zp6 S W hc p.o (by omega) hab (by omega) λh' G' w s o=>zba (fin p h' w s o))
 rw[decide_eq_false_iff_not]at hd;simp -dsimp only[zq.k6,V.zhh,B.ze];refine B.zm (λ_=>?_) (λ_=>?_)
 ·exact J.heap _ _ _ _ _ _ (zp7 J.sift S W hc p.o (by omega) (by omega) (by omega) λh' G' w s o=>zba (fin p h' w s o))
 have k4:∀{hh G}(lim:Int),PS E cs h0 x R c A0 Z0 G0 a b G hh->zq.k4 C E f1 f2 f3 f4 f5 f6 f7 f8 f9 Q Y x (.int .i64 (a:Int)) (.int .i64 (b:Int)) (.int .i64 lim) f (.bool w1) (.bool w2) (.int .i64 ((b-a:Nat):Int)) hh:=λ{hh G} lim p=>by
  have lG:=p.W.len;simp -dsimp only[zq.k4];refine J.piv _ _ _ _ _ _ (zmw J.ord J.med J.adj S (zcw.zgz p.o 0 rfl) p.o.le hc (by omega) (by omega) (by omega) λm hint h2 m1 m2 hle=>zba ?_);have p2:PS E cs h0 x R c A0 Z0 G0 a b G h2:=⟨p.hA,p.hab,p.hB,p.W,p.cut,p.pre,zcw.grow p.o hle⟩;simp -dsimp only[V.zit,getElem?_cons_zero,getElem?_cons_succ,B.ze,zq.k3,V.zhh];have k2:∀{hh G}(pv:Nat)(hint:Int),a <= pv->pv<b->PS E cs h0 x R c A0 Z0 G0 a b G hh->zq.k2 C E f1 f2 f3 f4 f5 f6 f7 f8 f9 Q Y x (.int .i64 (a:Int)) (.int .i64 (b:Int)) (.int .i64 lim) f (.bool w1) (.bool w2) (.int .i64 ((b-a:Nat):Int)) (.int .i64 (pv:Int)) (.int .i64 hint) hh:=λ{hh G} pv hint q1 q2 p=>by
   have lG:=p.W.len;have go:=pdq_k1 (Q:=Q) (lim:=lim) (w1:=w1) (w2:=w2) J S W hc p (by omega) (by omega) q1 q2 rcs hY;simp -dsimp only[zq.k2];have two:B.cond (.bool true) (B.call C f4 [x,.int .i64 (a:Int),.int .i64 (b:Int),f] hh λv80 h=>
     B.cond v80 (Q (.tup []) h) (zq.k1 C E f1 f2 f3 f4 f5 f6 f7 f8 f9 Q Y x (.int .i64 (a:Int)) (.int .i64 (b:Int)) (.int .i64 lim) f (.bool w1) (.bool w2) (.int .i64 ((b-a:Nat):Int)) (.int .i64 (pv:Int)) h))
     (zq.k1 C E f1 f2 f3 f4 f5 f6 f7 f8 f9 Q Y x (.int .i64 (a:Int)) (.int .i64 (b:Int)) (.int .i64 lim) f (.bool w1) (.bool w2) (.int .i64 ((b-a:Nat):Int)) (.int .i64 (pv:Int)) hh):=by
    rw[B.cond_true];refine J.pis _ _ _ _ _ _ (zis S W hc p.o (by omega) (by omega) (by omega) p.pre λh' G' t w s o=>zba ?_);have p':=p.zqk w o;have lG':=p'.W.len;refine B.zm (λht=>fin p h' w (s ht) o) (λ_=>?_);exact pdq_k1 (Q:=Q) (lim:=lim) (w1:=w1) (w2:=w2) J S W hc p' (by omega) (by omega) q1 q2 rcs hY
   cases w1<;>cases w2
   ·simp -dsimp only[B.zi1,B.zgd,B.ziv,B.cond_false];exact go
   ·simp -dsimp only[B.zi1,B.zgd,B.ziv,B.cond_false];exact go
   ·simp -dsimp only[B.zi1,B.zdr,B.zgd,B.zhx,B.ziv,B.cond_false];exact go
   ·by_cases hh1:hint=1
    ·simp -dsimp only[B.zi1,B.zdr,V.zhh,hh1,decide_true,B.ze,B.zhx];exact two
    ·simp -dsimp only[B.zi1,B.zdr,V.zhh,hh1,decide_false,B.ze,B.zhx,B.cond_false];exact go
  refine B.zm (λ_=>?_) (λ_=>k2 m hint m1 m2 p2);refine J.rev _ _ _ _ _ _ (zmc S (by omega) p2.o (by omega) (by omega) λh3 G3 w3 o3=>zba ?_);simp -dsimp only[zwz (show 1 <= b by omega) (show b<4611686018427387904 by omega),zio m1 (show m<4611686018427387904 by omega),zio (show m-a <= b-1 by omega) (show b-1<4611686018427387904 by omega),B.ze];exact k2 (b-1-(m-a)) 1 (by omega) (by omega) (p2.zqk w3 o3)
 simp -dsimp only[zq.k5,V.zjt,B.ze];refine B.zm (λ_=>?_) (λ_=>k4 lim p);refine J.brk _ _ _ _ _ _ (zlv J.next J.pow S p.o (by omega) hab (by omega) λh' G' w o=>zba ?_);simp -dsimp only[V.zi9,B.ze];exact k4 _ (p.zqk w o)
theorem SortFunc_spec{fl:Nat}(J:PdqI C E f1 f2 f3 f4 f5 f6 f7 f8 f9 g1 g2 g3 g4 g5 g6)(hlen:LenI C fl)(S:zds E cs v)(W:zo6 (zgi c))(hc:zeo C v c f h0)(hl:G.length <= 100000000)(ho:Rw E cs h0 h x G R)
  (hq:∀h' G',G'.Perm G->G'.Pairwise (λs t=>¬ c t s<0)->Rw E cs h0 h' x G' R->Q (.tup []) h'):zik.cps C E fl f3 x f h Q:=by
 simp -dsimp only[zik.cps,zik.k1,ho.lenE,toUN (show G.length<18446744073709551616 by omega),B.ze];refine hlen _ _ _ hl λr hr _=>?_;refine J.pdq _ _ _ _ _ _ _ (pdq_spec J S W hc _ 0 G.length r h G _ rfl (by omega) (Nat.le_refl _) hl (λh=>by omega) ho λh' G' w s o=>zba ?_);refine hq h' G' w.perm ?_ o;rw[pairwise_iff_getElem];intro i j hi hj hij;have:=w.len;exact s i j (by omega) hij (by omega) hi hj
end
end Go.Ab
namespace Go.Ab.Ord
open List
open Go.Ab
structure zeo(C:zh){X:Type}(v:X->za)(c:X->X->Int)(fL:Nat)(h0:zb):Prop where
 call:∀(h:zb)(a b:X)(K:zQ),h0.le h->K (.bool (decide (c a b<0))) h->B.call C fL [v a,v b] h K
variable{C C0:zh}{fL:Nat}
variable{C C0:zh}{fL:Nat}{N:zN}
section
variable{E:z8}{X:Type}{cs:X->List za}{v:X->za}{h0 h:zb}{x:za}{G:List X}{R:List (List za)}
end
section
variable{E:z8}{T:Type}{cs:T->List za}{v:T->za}{c:T->T->Int}{h0 h:zb}{x f:za}{R:List (List za)}{Q:zQ}
theorem zlq(S:zds E cs v)(W:zo6 (zgi c)){P M U:List (T×Nat)}(hlen:(P++(M++U)).length <= 100000000)(ht:M.Pairwise λa b=>a.2<b.2)
  (hc:zeo C0 v c fL h0) {a b:Nat} (ha:a=P.length) (hb:b=P.length+M.length) (ho:Rw E (λp:T×Nat=>cs p.1) h0 h x (P++(M++U)) R)
  (hq:∀h' M',M'.Perm M->M'.Pairwise (lt' (zgi c))->Rw E (λp:T×Nat=>cs p.1) h0 h' x (P++(M'++U)) R->Q (.tup []) h'):
  zd0.cps C E C0 fL x (.int .i64 (a:Int)) (.int .i64 (b:Int)) f h Q:=by
 have S':=S.comp (λp:T×Nat=>p.1);subst ha;have hlen':P.length+M.length+U.length <= 100000000:=by simpa[Nat.add_assoc]using hlen
 simp -dsimp only[zd0.cps,zg8 (show P.length<4611686018427387904 by omega),B.ze];cases M with
 | nil=>
  intro Y hY;refine hY _ _ ?_;simp -dsimp only[zd0.l3,zqg,B.ze];rw[show decide (P.length+1<b)=false by simp at hb ⊢;omega,B.cond_false];exact hq h [] (List.Perm.refl _) .nil ho
 | cons m M1=>
 simp only[length_cons]at hlen' hb;rw[pairwise_cons]at ht;refine zd.intro (λt vs hh=>∃(i:Nat)(L M2:List (T×Nat)),t=M2.length /\ vs=[.int .i64 i] /\ i=P.length+L.length /\ i+M2.length=b /\ Rw E (λp:T×Nat=>cs p.1) h0 hh x (P++(L++(M2++U))) R /\
  (L++M2).Perm (m::M1) /\ L.Pairwise (lt' (zgi c)) /\ M2.Pairwise (λa b=>a.2<b.2) /\ ∀p∈L,∀q∈M2,p.2<q.2) M1.length ?_
  ⟨P.length+1,[m],M1,rfl,rfl,by simp,by omega,by simpa using ho,List.Perm.refl _,pairwise_singleton ..,ht.2,by simpa using ht.1⟩
 rintro Y t vs hh ⟨i,L,M2,rfl,rfl,hi,hib,o,hp,hs,ht2,htt⟩ hY;simp -dsimp only[zd0.l3,zqg,B.ze];cases M2 with
 | nil=>
  rw[show decide (i<b)=false by simp at hib ⊢;omega,B.cond_false];rw[append_nil]at hp;exact hq hh L hp hs o
 | cons x0 M2=>
  simp only[length_cons]at hib;rw[show decide (i<b)=true by simp;omega,B.cond_true];rw[pairwise_cons]at ht2;have hll:P.length+(L.length+(M2.length+1))=b:=by omega
  refine zd.intro (λt vs h2=>∃(L1 L2:List (T×Nat)),t=L1.length /\ vs=[.int .i64 ((P.length+L1.length:Nat):Int)] /\ L=L1++L2 /\ Rw E (λp:T×Nat=>cs p.1) h0 h2 x (P++(L1++x0::(L2++(M2++U)))) R /\
   ∀q∈L2,lt' (zgi c) x0 q) L.length ?_ ⟨L,[],rfl,by rw[hi],by simp,by simpa using o,by simp⟩
  rintro Z t vs h2 ⟨L1,L2,rfl,rfl,rfl,o2,hx⟩ hZ;rw[pairwise_append]at hs;have fin:(L1=[] \/ ∃L0 y,L1=L0++[y] /\ lt' (zgi c) y x0)->Y [.int .i64 ((i+1:Nat):Int)] h2:=λhz=>by
   have hlow:∀p∈L1,lt' (zgi c) p x0:=by
    rcases hz with rfl|⟨L0,y,rfl,hy⟩
    ·simp
    ·intro p hpm
     rcases mem_append.1 hpm with h1|h1
     ·exact lt'_trans W ((pairwise_append.1 hs.1).2.2 p h1 y (by simp)) hy
     ·rw[mem_singleton.1 h1];exact hy
   refine hY M2.length _ _ (by simp) ⟨i+1,L1++x0::L2,M2,rfl,rfl,by simp at hi ⊢;omega,by omega,by simpa using o2,?_,?_,ht2.2,?_⟩
   ·refine List.Perm.trans ?_ hp
    simp only[append_assoc,cons_append];refine List.Perm.append_left _ ?_;exact(perm_middle (l₁:=L2) (l₂:=M2) (a:=x0)).symm
   ·rw[pairwise_append,pairwise_cons]
    refine⟨hs.1,⟨hx,hs.2.1⟩,λp h1 q h2=>?_⟩;rcases mem_cons.1 h2 with rfl|h2
    ·exact hlow p h1
    ·exact hs.2.2 p h1 q h2
   ·intro p h1 q h2
    rcases mem_append.1 h1 with h1|h1
    ·exact htt p (mem_append_left _ h1) q (mem_cons_of_mem _ h2)
    ·rcases mem_cons.1 h1 with rfl|h1
     ·exact ht2.1 q h2
     ·exact htt p (mem_append_right _ h1) q (mem_cons_of_mem _ h2)
  have hll2:i=P.length+(L1.length+L2.length):=by simpa using hi
  simp -dsimp only[zd0.l2,zd0.k1,gtrN,B.ze];obtain rfl|⟨L0,y,rfl⟩:=zxr L1
  ·simp -dsimp[zg8 (show i<4611686018427387904 by omega)]
   exact fin (.inl rfl)
  ·have hyx:y.2<x0.2:=htt y (by simp) x0 (by simp)
   have o2':=o2;simp only[append_assoc,cons_append,nil_append]at o2';simp only[length_append,length_singleton]at hll2 hlen' hll;have hj:P.length+(L0++[y]).length=P.length+L0.length+1:=by simp[Nat.add_assoc]
   rw[show decide (P.length<P.length+(L0++[y]).length)=true by simp];rw[hj];simp -dsimp only[B.zi1,B.zru,B.zdr,zk3,zwz (show 1 <= P.length+L0.length+1 by omega) (by omega),Nat.add_sub_cancel,o2.idx (i:=P.length+L0.length+1) (by simp;omega),o2.idx (i:=P.length+L0.length) (by simp),B.ze];have o3:Rw E (λp:T×Nat=>cs p.1) h0 h2 x ((P++L0)++y::([]++x0::(L2++(M2++U)))) R:=by simpa using o2
   have gy:((P++L0)++y::([]++x0::(L2++(M2++U))))[P.length+L0.length]?=some y:=get_mid (by simp);have gx:((P++L0)++y::([]++x0::(L2++(M2++U))))[P.length+L0.length+1]?=some x0:=get_mid2 (by simp);refine o3.ld S' gx ?_;refine o3.ld S' gy ?_;refine hc.call _ _ _ _ o2.le ?_;simp -dsimp only[B.zi1,B.zru,B.zdr,zk3,V.zeh,B.ze,B.zhx];refine B.zm (λhb2=>?_) (λhb2=>?_)
   ·simp -dsimp only[zwz (show 1 <= P.length+L0.length+1 by omega) (by omega),Nat.add_sub_cancel,o2.idx (i:=P.length+L0.length+1) (by simp;omega),o2.idx (i:=P.length+L0.length) (by simp),B.ze]
    refine o3.ld S' gy ?_;refine o3.ld S' gx ?_;refine o3.swapDn S' (by simp) (by simp) λh4 o4=>?_;refine hZ L0.length _ _ (by simp) ⟨L0,y::L2,rfl,rfl,by simp,by simpa using o4,?_⟩;intro q hq2;rcases mem_cons.1 hq2 with rfl|hq2
    ·exact(lt'_gt hyx).2 hb2
    ·exact hx q hq2
   ·simp -dsimp only[zg8 (show i<4611686018427387904 by omega),B.ze]
    exact fin (.inr ⟨L0,y,rfl,(lt'_le W hyx).2 hb2⟩)
end
section
variable{E:z8}{X:Type}{cs:X->List za}{v:X->za}{h0 h:zb}{x f:za}{G:List X}{R:List (List za)}{c:X->X->Int}
theorem zkz(S:zds E cs v)(hx:SlX h0 E.es x (G.map cs) R)(hc:zeo C0 v c fL h0){p:za}{n:Int}(ho:zcw h0 h [.box p [.int .i64 n]]){i j:Nat}(hi:i<G.length)(hj:j<G.length){Q:zQ}
  (hq:∀(i' j':Nat) (n':Int) h',(i'=i \/ i'=j)->(j'=i \/ j'=j)->zcw h0 h' [.box p [.int .i64 n']]->Q (.tup [.int .i64 (i':Int),.int .i64 (j':Int)]) h'):ziq.cps C E C0 fL x (.int .i64 (i:Int)) (.int .i64 (j:Int)) p f h Q:=by
 have hxx:=hx.mono ho.le;have ii:V.zb3 E.es x (.int .i64 (i:Int))=some (elp E.es x i 0):=hxx.zjp (by simpa using hi);have ij:V.zb3 E.es x (.int .i64 (j:Int))=some (elp E.es x j 0):=hxx.zjp (by simpa using hj);have gi:(G.map cs)[i]?=some (cs G[i]):=by rw[getElem?_map,getElem?_eq_getElem hi];rfl
 have gj:(G.map cs)[j]?=some (cs G[j]):=by rw[getElem?_map,getElem?_eq_getElem hj];rfl
 obtain⟨id,rfl,hb⟩:=ho.zts 0 rfl;have ld:A.ldv h (.ptr id 0 0)=some (.int .i64 n):=by rw[zpg hb];rfl
 simp -dsimp only[ziq.cps,ziq.k1,ij,B.ze];refine S.ld hxx gj ?_;simp -dsimp only[ii,B.ze];refine S.ld hxx gi ?_;refine hc.call _ _ _ _ ho.le ?_;refine B.zm (λhd=>?_) (λhd=>?_)
 ·simp -dsimp only[B.zk9,B.zha,ld,V.zex,B.ze]
  refine ho.zyp 0 (off:=0) rfl rfl (by simp) λh2 o2 _=>?_;exact hq j i _ h2 (.inr rfl) (.inl rfl) (by simpa using o2)
 ·exact hq i j n h (.inl rfl) (.inr rfl) ho
abbrev O2I(C:zh)(E:z8)(C0:zh)(fL:Nat)(f1:Nat):Prop:=∀(v0 v1 v2 v3 v4:za)(h:zb)(Q:zQ),ziq.cps C E C0 fL v0 v1 v2 v3 v4 h (dn Q)->C f1 [v0,v1,v2,v3,v4] h Q
abbrev MedI(C:zh)(E:z8)(C0:zh)(fL:Nat)(f1 f2:Nat):Prop:=∀(v0 v1 v2 v3 v4 v5:za)(h:zb)(Q:zQ),zir.cps C E C0 fL f1 v0 v1 v2 v3 v4 v5 h (dn Q)->C f2 [v0,v1,v2,v3,v4,v5] h Q
abbrev AdjI(C:zh)(E:z8)(C0:zh)(fL:Nat)(f2 f3:Nat):Prop:=∀(v0 v1 v2 v3:za)(h:zb)(Q:zQ),zgo.cps C E C0 fL f2 v0 v1 v2 v3 h (dn Q)->C f3 [v0,v1,v2,v3] h Q
theorem zk0{f1:Nat}(io:O2I C E C0 fL f1)(S:zds E cs v)(hx:SlX h0 E.es x (G.map cs) R)(hc:zeo C0 v c fL h0){p:za}{n:Int}(ho:zcw h0 h [.box p [.int .i64 n]]){i j k:Nat}(hi:i<G.length)(hj:j<G.length)(hk:k<G.length){Q:zQ}
  (hq:∀(m:Nat) (n':Int) h',(m=i \/ m=j \/ m=k)->zcw h0 h' [.box p [.int .i64 n']]->Q (.int .i64 (m:Int)) h'):zir.cps C E C0 fL f1 x (.int .i64 (i:Int)) (.int .i64 (j:Int)) (.int .i64 (k:Int)) p f h Q:=by
 simp -dsimp only[zir.cps,zir.k1];refine io _ _ _ _ _ _ _ (zkz S hx hc ho hi hj λa b n1 h1 ha hb o1=>zba ?_);simp -dsimp only[V.zit,getElem?_cons_zero,getElem?_cons_succ,B.ze];have la:a<G.length:=by rcases ha with rfl|rfl<;>assumption
 have lb:b<G.length:=by rcases hb with rfl|rfl<;>assumption
 refine io _ _ _ _ _ _ _ (zkz S hx hc o1 lb hk λa2 b2 n2 h2 ha2 hb2 o2=>zba ?_);simp -dsimp only[V.zit,getElem?_cons_zero,getElem?_cons_succ,B.ze];have la2:a2<G.length:=by rcases ha2 with rfl|rfl<;>assumption
 refine io _ _ _ _ _ _ _ (zkz S hx hc o2 la la2 λa3 b3 n3 h3 ha3 hb3 o3=>zba ?_);simp -dsimp only[V.zit,getElem?_cons_zero,getElem?_cons_succ,B.ze];refine hq b3 n3 h3 ?_ o3;omega
theorem zg5{f1 f2:Nat}(io:O2I C E C0 fL f1)(im:MedI C E C0 fL f1 f2)(S:zds E cs v)(hx:SlX h0 E.es x (G.map cs) R)(hc:zeo C0 v c fL h0){p:za}{n:Int}(ho:zcw h0 h [.box p [.int .i64 n]]){i:Nat}(hi:0<i)(hi2:i+1<G.length)(hl:G.length<4611686018427387904){Q:zQ}
  (hq:∀(m:Nat) (n':Int) h',i-1 <= m->m <= i+1->zcw h0 h' [.box p [.int .i64 n']]->Q (.int .i64 (m:Int)) h'):zgo.cps C E C0 fL f2 x (.int .i64 (i:Int)) p f h Q:=by
 have e1:V.bin .sub (.int .i64 (i:Int)) (.int .i64 1)=some (.int .i64 ((i-1:Nat):Int)):=by
  rw[V.zi9,wrap_i64 (by omega) (by omega)];congr 2;omega
 simp -dsimp only[zgo.cps,zgo.k1,e1,zg8 (show i<4611686018427387904 by omega),B.ze];exact im _ _ _ _ _ _ _ _ (zk0 io S hx hc ho (by omega) (by omega) hi2 λm n' h' hm o'=>zba (hq m n' h' (by omega) (by omega) o'))
theorem zmc(S:zds E cs v)(hl:G.length<4611686018427387904)(ho:Rw E cs h0 h x G R){a b:Nat}(hab:a<b)(hb:b <= G.length){Q:zQ}(hq:∀h' G',zc1 a b G G'->Rw E cs h0 h' x G' R->Q (.tup []) h'):
  zf0.cps C E C0 fL x (.int .i64 (a:Int)) (.int .i64 (b:Int)) f h Q:=by
 have e1:V.bin .sub (.int .i64 (b:Int)) (.int .i64 1)=some (.int .i64 ((b-1:Nat):Int)):=by
  rw[V.zi9,wrap_i64 (by omega) (by omega)];congr 2;omega
 simp -dsimp only[zf0.cps,e1,B.ze];refine zd.intro (λt vs hh=>∃(i j:Nat)(G':List X),t=j /\ vs=[.int .i64 (i:Int),.int .i64 (j:Int)] /\ a <= i /\ j<b /\ zc1 a b G G' /\ Rw E cs h0 hh x G' R) (b-1) ?_ ⟨a,b-1,G,rfl,rfl,Nat.le_refl _,by omega,zc1.refl _ _ _,ho⟩;rintro Y j vs hh ⟨i,_,G',rfl,rfl,hi,hj,W,o⟩ hY;simp -dsimp only[zf0.l2,zf0.k1,zqg,B.ze];have hlen:=W.len;refine B.zm (λhc=>?_) (λhc=>hq hh G' W o);rw[decide_eq_true_eq]at hc;have li:i<G'.length:=by omega
 have lj:j<G'.length:=by omega
 simp -dsimp only[o.idx lj,B.ze];refine o.ld S (getElem?_eq_getElem lj) ?_;simp -dsimp only[o.idx li,B.ze];refine o.ld S (getElem?_eq_getElem li) ?_;have ij:=o.idx lj;refine o.st S (t:=G'[j]) li λh1 o1=>?_;simp -dsimp only[ij,B.ze];refine o1.st S (t:=G'[i]) (by simpa using lj) λh2 o2=>?_;have e2:V.bin .sub (.int .i64 (j:Int)) (.int .i64 1)=some (.int .i64 ((j-1:Nat):Int)):=by
  rw[V.zi9,wrap_i64 (by omega) (by omega)];congr 2;omega
 simp -dsimp only[zg8 (show i<4611686018427387904 by omega),e2,B.ze];exact hY (j-1) _ _ (by omega) ⟨i+1,j-1,_,rfl,rfl,by omega,by omega,W.trans (zfi li lj hi (by omega) (by omega) hj),o2⟩
theorem zmw{f1 f2 f3:Nat}(io:O2I C E C0 fL f1)(im:MedI C E C0 fL f1 f2)(ia:AdjI C E C0 fL f2 f3)(S:zds E cs v)(hx:SlX h E.es x (G.map cs) R)(h0le:h0.le h)(hc:zeo C0 v c fL h0)(hl:G.length <= 100000000){a b:Nat}(hab:a+8 <= b)(hb:b <= G.length){Q:zQ}
  (hq:∀(m:Nat) (hint:Int) h',a <= m->m<b->h.le h'->Q (.tup [.int .i64 (m:Int),.int .i64 hint]) h'):zb6.cps C E C0 fL f2 f3 x (.int .i64 (a:Int)) (.int .i64 (b:Int)) f h Q:=by
 have e1:=zio (a:=b) (b:=a) (by omega) (by omega);simp -dsimp only[zb6.cps,e1,B.ze];intro id hid;have o:=(zcw.start h).zvy hid [.int .i64 0];simp only[nil_append]at o;have q4:=quo4 (a:=b-a) (by omega);have m1:=mulN (a:=(b-a) / 4) (b:=1) (by omega);have m2:=mulN (a:=(b-a) / 4) (b:=2) (by omega);have m3:=mulN (a:=(b-a) / 4) (b:=3) (by omega);have a1:=zlc (a:=a) (b:=(b-a) / 4*1) (by omega);have a2:=zlc (a:=a) (b:=(b-a) / 4*2) (by omega);have a3:=zlc (a:=a) (b:=(b-a) / 4*3) (by omega);have g8:V.bin .geq (.int .i64 ((b-a:Nat):Int)) (.int .i64 8)=some (.bool true):=by rw[V.zk5,decide_eq_true (by omega)]
 have hc':zeo C0 v c fL h:=⟨λh2 s t K hle hk=>hc.call h2 s t K (zb.le_trans h0le hle) hk⟩;simp -dsimp only[zb6.k6,zb6.k5,zb6.k4,zb6.k3,q4,B.ze];have m1':V.bin .mul (.int .i64 (((b-a) / 4:Nat):Int)) (.int .i64 1)=some (.int .i64 (((b-a) / 4*1:Nat):Int)):=m1;have m2':V.bin .mul (.int .i64 (((b-a) / 4:Nat):Int)) (.int .i64 2)=some (.int .i64 (((b-a) / 4*2:Nat):Int)):=m2;have m3':V.bin .mul (.int .i64 (((b-a) / 4:Nat):Int)) (.int .i64 3)=some (.int .i64 (((b-a) / 4*3:Nat):Int)):=m3;simp -dsimp only[q4,m1',m2',m3',a1,a2,a3,g8,B.cond_true,zb6.k5,zb6.k4,zb6.k3,zb6.k2,B.ze];have fin:∀(m:Nat) (n':Int) h',a <= m->m<b->zcw h h' [.box (.ptr id 0 0) [.int .i64 n']]->zb6.k1 C E C0 fL f2 f3 Q (.ptr id 0 0) (.int .i64 (m:Int)) h':=λm n' h' k1 k2 o'=>by
  obtain⟨id',e,hb'⟩:=o'.zts 0 rfl;cases e;have ld:A.ldv h' (.ptr id 0 0)=some (.int .i64 n'):=by rw[zpg hb'];rfl
  simp -dsimp only[zb6.k1,B.zha,ld,V.zhh,B.ze];refine B.zm (λ_=>hq m _ h' k1 k2 o'.le) (λ_=>?_);refine B.zm (λ_=>hq m _ h' k1 k2 o'.le) (λ_=>hq m _ h' k1 k2 o'.le)
 have g50:V.bin .geq (.int .i64 ((b-a:Nat):Int)) (.int .i64 50)=some (.bool (decide (50 <= b-a))):=zzb (b:=50);simp -dsimp only[g50,B.ze];refine B.zm (λhd=>?_) (λhd=>?_)
 ·rw[decide_eq_true_eq]at hd
  refine ia _ _ _ _ _ _ (zg5 io im S hx hc' o (by omega) (by omega) (by omega) λi n1 h1 i1 i2 o1=>zba ?_);refine ia _ _ _ _ _ _ (zg5 io im S hx hc' o1 (by omega) (by omega) (by omega) λj n2 h2 j1 j2 o2=>zba ?_);refine ia _ _ _ _ _ _ (zg5 io im S hx hc' o2 (by omega) (by omega) (by omega) λk n3 h3 k1 k2 o3=>zba ?_);refine im _ _ _ _ _ _ _ _ (zk0 io S hx hc' o3 (by omega) (by omega) (by omega) λm n4 h4 hm o4=>zba ?_);exact fin m n4 h4 (by omega) (by omega) o4
 ·refine im _ _ _ _ _ _ _ _ (zk0 io S hx hc' o (by omega) (by omega) (by omega) λm n4 h4 hm o4=>zba ?_)
  exact fin m n4 h4 (by omega) (by omega) o4
end
section
variable{E:z8}{X:Type}{cs:X->List za}{v:X->za}{h0 h:zb}{x f:za}{G:List X}{R:List (List za)}{c:X->X->Int}{Q:zQ}{Y1:zL}{a b i j:Nat}
theorem part_j(S:zds E cs v)(hc:zeo C0 v c fL h0)(ho:Rw E cs h0 h x G R)(hl:G.length<4611686018427387904)(hab:a<b)(p:zqy c a b G i j)(hi0:j<i \/ ∀(h1:i<G.length)(h2:a<G.length),¬ c G[i] G[a]<0)
  (done:∀h' j',zqy c a b G i j'->j'<i->Rw E cs h0 h' x G R->zw.k1 C E C0 fL Q x (.int .i64 (a:Int)) (.int .i64 (j':Int)) h')
  (next:∀h' j' (hi:i<G.length) (hj:j'<G.length) ,zqy c a b (swp G i j' hi hj) (i+1) (j'-1)->i<j'->j'<b->Rw E cs h0 h' x (swp G i j' hi hj) R->Y1 [.int .i64 ((i+1:Nat):Int),.int .i64 ((j'-1:Nat):Int)] h'):
  zd (zw.l4 C E C0 fL Q Y1 x (.int .i64 (a:Int)) f (.int .i64 (i:Int))) [.int .i64 (j:Int)] h:=by
 refine zd.intro (λt vs hh=>hh=h /\ ∃j':Nat,t=j' /\ vs=[.int .i64 (j':Int)] /\ zqy c a b G i j' /\ (j'<i \/ ∀(h1:i<G.length)(h2:a<G.length),¬ c G[i] G[a]<0)) j ?_ ⟨rfl,j,rfl,rfl,p,hi0⟩;rintro Y j' vs hh ⟨rfl,_,rfl,rfl,p,hi0⟩ hY;have k1:=p.hi;have k2:=p.hij;have k3:=p.hj;have k4:=p.hb;have la:a<G.length:=by omega
 have lj:j'<G.length:=by omega
 simp -dsimp only[zw.l4,zw.k3,leqN,B.ze];by_cases hle:i <= j'
 ·have li:i<G.length:=by omega
  simp -dsimp only[hle,decide_true,B.zi1,B.zdr,ho.idx lj,ho.idx la,B.ze];refine ho.ld S (getElem?_eq_getElem lj) ?_;refine ho.ld S (getElem?_eq_getElem la) ?_;refine hc.call _ _ _ _ ho.le ?_;simp -dsimp only[hle,decide_true,B.zi1,B.zdr,V.zeh,V.zjt,B.zhx,B.ze];refine B.zm (λhd=>?_) (λhd=>?_)
  ·have hd':¬ c G[j'] G[a]<0:=by simpa using hd
   have e1:=zio (a:=j') (b:=1) (by omega) (by omega);have e1':V.bin .sub (.int .i64 (j':Int)) (.int .i64 1)=some (.int .i64 ((j'-1:Nat):Int)):=e1;simp -dsimp only[e1',B.ze];refine hY (j'-1) _ _ (by omega) ⟨rfl,j'-1,rfl,rfl,⟨k4,k1,by omega,by omega,p.lo,λk hk ha q1 q2=>?_⟩,?_⟩
   ·by_cases e:k=j'
    ·subst e;exact hd'
    ·exact p.hi2 k hk ha (by omega) q2
   ·rcases hi0 with h|h
    ·omega
    ·exact .inr h
  ·have hd':c G[j'] G[a]<0:=by simpa using hd
   have hni:¬ c G[i] G[a]<0:=by
    rcases hi0 with h|h
    ·omega
    ·exact h li la
   simp -dsimp only[zw.k2,gtrN,show ¬ j'<i by omega,decide_false,B.cond_false,ho.idx lj,ho.idx li,B.ze];refine ho.ld S (getElem?_eq_getElem lj) ?_;refine ho.ld S (getElem?_eq_getElem li) ?_;refine ho.st S (t:=G[j']) li λh1 o1=>?_;refine o1.st S (t:=G[i]) (by simpa using lj) λh2 o2=>?_;have e1':V.bin .sub (.int .i64 (j':Int)) (.int .i64 1)=some (.int .i64 ((j'-1:Nat):Int)):=zio (a:=j') (b:=1) (by omega) (by omega);simp -dsimp only[zg8 (show i<4611686018427387904 by omega),e1',B.ze];have hne:i≠j':=λe=>by subst e;exact hni hd'
   exact next h2 j' li lj (p.swap hle li lj la hni hd') (by omega) k3 o2
 ·simp -dsimp only[hle,decide_false,B.zi1,B.zgd,B.ziv,B.cond_false,zw.k2,gtrN,show j'<i by omega,decide_true,B.cond_true,B.ze]
  exact done hh j' p (by omega) ho
theorem part_i(S:zds E cs v)(hc:zeo C0 v c fL h0)(ho:Rw E cs h0 h x G R)(hl:G.length<4611686018427387904)(hab:a<b)(p:zqy c a b G i j)
  (done:∀h' i' j',zqy c a b G i' j'->j'<i'->Rw E cs h0 h' x G R->zw.k1 C E C0 fL Q x (.int .i64 (a:Int)) (.int .i64 (j':Int)) h')
  (next:∀h' i' j' (hi:i'<G.length) (hj:j'<G.length),zqy c a b (swp G i' j' hi hj) (i'+1) (j'-1)->a<i'->i <= i'->i'<j'->j'<b->Rw E cs h0 h' x (swp G i' j' hi hj) R->Y1 [.int .i64 ((i'+1:Nat):Int),.int .i64 ((j'-1:Nat):Int)] h'):
  zd (zw.l6 C E C0 fL Q Y1 x (.int .i64 (a:Int)) f (.int .i64 (j:Int))) [.int .i64 (i:Int)] h:=by
 refine zd.intro (λt vs hh=>hh=h /\ ∃i':Nat,i'+t=b /\ i <= i' /\ vs=[.int .i64 (i':Int)] /\ zqy c a b G i' j) (b-i) ?_ ⟨rfl,i,by have:=p.hij;have:=p.hj;omega,Nat.le_refl _,rfl,p⟩;rintro Y t vs hh ⟨rfl,i',hit,hii,rfl,p⟩ hY;have k1:=p.hi;have k2:=p.hij;have k3:=p.hj;have k4:=p.hb;have la:a<G.length:=by omega
 simp -dsimp only[zw.l6,zw.k5,leqN,B.ze];by_cases hle:i' <= j
 ·have li:i'<G.length:=by omega
  simp -dsimp only[hle,decide_true,B.zi1,B.zdr,ho.idx li,ho.idx la,B.ze];refine ho.ld S (getElem?_eq_getElem li) ?_;refine ho.ld S (getElem?_eq_getElem la) ?_;refine hc.call _ _ _ _ ho.le ?_;simp -dsimp only[hle,decide_true,B.zi1,B.zdr,V.zeh,B.zhx,B.ze];refine B.zm (λhd=>?_) (λhd=>?_)
  ·have hd':c G[i'] G[a]<0:=by simpa using hd
   simp -dsimp only[zg8 (show i'<4611686018427387904 by omega),B.ze];refine hY (b-(i'+1)) _ _ (by omega) ⟨rfl,i'+1,by omega,by omega,rfl,⟨k4,by omega,k3,by omega,λk hk ha q1 q2=>?_,p.hi2⟩⟩;by_cases e:k=i'
   ·subst e;exact hd'
   ·exact p.lo k hk ha q1 (by omega)
  ·have hd':¬ c G[i'] G[a]<0:=by simpa using hd
   exact part_j S hc ho hl hab p (.inr λ_ _=>hd') (λh' j' p' hlt o'=>done h' i' j' p' hlt o') λh' j' hi hj p' h1 h2 o'=>next h' i' j' hi hj p' k1 hii h1 h2 o'
 ·simp -dsimp only[hle,decide_false,B.zi1,B.zgd,B.ziv,B.cond_false]
  exact part_j S hc ho hl hab p (.inl (by omega)) (λh' j' p' hlt o'=>done h' i' j' p' hlt o') λh' j' hi hj p' h1 h2 o'=>next h' i' j' hi hj p' k1 hii h1 h2 o'
theorem part_end(S:zds E cs v)(ho:Rw E cs h0 h x G R)(hab:a<b)(p:zqy c a b G i j)(hlt:j<i)(hq:∀h' m G',zng c a b m G'->zc1 a b G G'->Rw E cs h0 h' x G' R->Q (.tup [.int .i64 (m:Int),.bool false]) h'):
  zw.k1 C E C0 fL Q x (.int .i64 (a:Int)) (.int .i64 (j:Int)) h:=by
 have k1:=p.hi;have k2:=p.hij;have k3:=p.hj;have k4:=p.hb;have la:a<G.length:=by omega
 have lj:j<G.length:=by omega
 simp -dsimp only[zw.k1,ho.idx lj,ho.idx la,B.ze];refine ho.ld S (getElem?_eq_getElem la) ?_;refine ho.ld S (getElem?_eq_getElem lj) ?_;refine ho.st S (t:=G[a]) lj λh1 o1=>?_;refine o1.st S (t:=G[j]) (by simpa using la) λh2 o2=>?_;exact hq h2 j _ (p.done hab hlt lj la) (zfi lj la (by omega) k3 (Nat.le_refl _) hab) o2
theorem zxk(S:zds E cs v)(hc:zeo C0 v c fL h0)(ho:Rw E cs h0 h x G R)(hl:G.length<4611686018427387904)(hab:a<b)(p:zqy c a b G i j)
  (hq:∀h' m G',zng c a b m G'->zc1 a b G G'->Rw E cs h0 h' x G' R->Q (.tup [.int .i64 (m:Int),.bool false]) h'):
  zd (zw.l7 C E C0 fL Q x (.int .i64 (a:Int)) f) [.int .i64 (i:Int),.int .i64 (j:Int)] h:=by
 refine zd.intro (λt vs hh=>∃(i' j':Nat)(G':List X),i'+t=b /\ vs=[.int .i64 (i':Int),.int .i64 (j':Int)] /\ zc1 a b G G' /\ zqy c a b G' i' j' /\ Rw E cs h0 hh x G' R) (b-i) ?_ ⟨i,j,G,by have:=p.hij;have:=p.hj;omega,rfl,zc1.refl _ _ _,p,ho⟩;rintro Y t vs hh ⟨i',j',G',hit,rfl,W,p,o⟩ hY;have hlen:=W.len;simp -dsimp only[zw.l7];refine part_i S hc o (by omega) hab p (λh' i2 j2 p2 hlt o2=>part_end S o2 hab p2 hlt λh3 m G3 P3 W3 o3=>hq h3 m G3 P3 (W.trans W3) o3) λh' i2 j2 hi hj p2 h1 h2 h3 h4 o2=>?_;exact hY (b-(i2+1)) _ _ (by omega) ⟨i2+1,j2-1,_,by omega,rfl,W.trans (zfi hi hj (by omega) (by omega) (by omega) h4),p2,o2⟩
end
section
variable{E:z8}{X:Type}{cs:X->List za}{v:X->za}{h0 h:zb}{x f:za}{G:List X}{R:List (List za)}{c:X->X->Int}{Q:zQ}{a b i j:Nat}
theorem zt4(S:zds E cs v)(hc:zeo C0 v c fL h0)(ho:Rw E cs h0 h x G R)(hl:G.length<4611686018427387904)(hab:a<b)(p:zqy c a b G i j)
  (hd:j<i \/ ∃(h1:i<G.length)(h2:a<G.length)(h3:j<G.length),i <= j /\ ¬ c G[i] G[a]<0 /\ c G[j] G[a]<0) (hq:PartQ E cs h0 x c a b R G Q):
  zw.k10 C E C0 fL Q x (.int .i64 (a:Int)) f (.int .i64 (i:Int)) (.int .i64 (j:Int)) h:=by
 have k1:=p.hi;have k2:=p.hij;have k3:=p.hj;have k4:=p.hb;have la:a<G.length:=by omega
 have lj:j<G.length:=by omega
 rcases hd with hlt|⟨li,_,_,hle,n1,n2⟩
 ·simp -dsimp only[zw.k10,gtrN,hlt,decide_true,B.cond_true,ho.idx lj,ho.idx la,B.ze]
  refine ho.ld S (getElem?_eq_getElem la) ?_;refine ho.ld S (getElem?_eq_getElem lj) ?_;refine ho.st S (t:=G[a]) lj λh1 o1=>?_;refine o1.st S (t:=G[j]) (by simpa using la) λh2 o2=>?_;exact hq h2 j _ true (p.done hab hlt lj la) (zfi lj la (by omega) k3 (Nat.le_refl _) hab) o2
 ·simp -dsimp only[zw.k10,zw.k9,gtrN,show ¬ j<i by omega,decide_false,B.cond_false,ho.idx lj,ho.idx li,B.ze]
  refine ho.ld S (getElem?_eq_getElem lj) ?_;refine ho.ld S (getElem?_eq_getElem li) ?_;refine ho.st S (t:=G[j]) li λh1 o1=>?_;refine o1.st S (t:=G[i]) (by simpa using lj) λh2 o2=>?_;have hne:i≠j:=λe=>by subst e;exact n1 n2
  have e1':V.bin .sub (.int .i64 (j:Int)) (.int .i64 1)=some (.int .i64 ((j-1:Nat):Int)):=zio (a:=j) (b:=1) (by omega) (by omega);simp -dsimp only[zw.k8,zg8 (show i<4611686018427387904 by omega),e1',B.ze];have W:=zfi li lj (by omega) (by omega) (by omega:a <= j) k3;exact zxk S hc (G:=swp G i j li lj) o2 (by rw[zku li lj];omega) hab (p.swap hle li lj la n1 n2) λh' m G' P' W' o'=>hq h' m G' false P' (W.trans W') o'
theorem zxl(S:zds E cs v)(hc:zeo C0 v c fL h0)(ho:Rw E cs h0 h x G R)(hl:G.length<4611686018427387904)(hab:a<b)(p:zqy c a b G i j)(hi0:j<i \/ ∀(h1:i<G.length)(h2:a<G.length),¬ c G[i] G[a]<0)(hq:PartQ E cs h0 x c a b R G Q):
  zd (zw.l12 C E C0 fL Q x (.int .i64 (a:Int)) f (.int .i64 (i:Int))) [.int .i64 (j:Int)] h:=by
 refine zd.intro (λt vs hh=>hh=h /\ ∃j':Nat,t=j' /\ vs=[.int .i64 (j':Int)] /\ zqy c a b G i j' /\ (j'<i \/ ∀(h1:i<G.length)(h2:a<G.length),¬ c G[i] G[a]<0)) j ?_ ⟨rfl,j,rfl,rfl,p,hi0⟩;rintro Y j' vs hh ⟨rfl,_,rfl,rfl,p,hi0⟩ hY;have k1:=p.hi;have k2:=p.hij;have k3:=p.hj;have k4:=p.hb;have la:a<G.length:=by omega
 have lj:j'<G.length:=by omega
 simp -dsimp only[zw.l12,zw.k11,leqN,B.ze];by_cases hle:i <= j'
 ·have li:i<G.length:=by omega
  simp -dsimp only[hle,decide_true,B.zi1,B.zdr,ho.idx lj,ho.idx la,B.ze];refine ho.ld S (getElem?_eq_getElem lj) ?_;refine ho.ld S (getElem?_eq_getElem la) ?_;refine hc.call _ _ _ _ ho.le ?_;simp -dsimp only[hle,decide_true,B.zi1,B.zdr,V.zeh,V.zjt,B.zhx,B.ze];refine B.zm (λhd=>?_) (λhd=>?_)
  ·have hd':¬ c G[j'] G[a]<0:=by simpa using hd
   have e1':V.bin .sub (.int .i64 (j':Int)) (.int .i64 1)=some (.int .i64 ((j'-1:Nat):Int)):=zio (a:=j') (b:=1) (by omega) (by omega);simp -dsimp only[e1',B.ze];refine hY (j'-1) _ _ (by omega) ⟨rfl,j'-1,rfl,rfl,⟨k4,k1,by omega,by omega,p.lo,λk hk ha q1 q2=>?_⟩,?_⟩
   ·by_cases e:k=j'
    ·subst e;exact hd'
    ·exact p.hi2 k hk ha (by omega) q2
   ·rcases hi0 with h|h
    ·omega
    ·exact .inr h
  ·have hd':c G[j'] G[a]<0:=by simpa using hd
   have hni:¬ c G[i] G[a]<0:=by
    rcases hi0 with h|h
    ·omega
    ·exact h li la
   exact zt4 S hc ho hl hab p (.inr ⟨li,la,lj,hle,hni,hd'⟩) hq
 ·simp -dsimp only[hle,decide_false,B.zi1,B.zgd,B.ziv,B.cond_false]
  exact zt4 S hc ho hl hab p (.inl (by omega)) hq
theorem part_i1(S:zds E cs v)(hc:zeo C0 v c fL h0)(ho:Rw E cs h0 h x G R)(hl:G.length<4611686018427387904)(hab:a<b)(p:zqy c a b G i j)(hq:PartQ E cs h0 x c a b R G Q):
  zd (zw.l14 C E C0 fL Q x (.int .i64 (a:Int)) f (.int .i64 (j:Int))) [.int .i64 (i:Int)] h:=by
 refine zd.intro (λt vs hh=>hh=h /\ ∃i':Nat,i'+t=b /\ vs=[.int .i64 (i':Int)] /\ zqy c a b G i' j) (b-i) ?_ ⟨rfl,i,by have:=p.hij;have:=p.hj;omega,rfl,p⟩;rintro Y t vs hh ⟨rfl,i',hit,rfl,p⟩ hY;have k1:=p.hi;have k2:=p.hij;have k3:=p.hj;have k4:=p.hb;have la:a<G.length:=by omega
 simp -dsimp only[zw.l14,zw.k13,leqN,B.ze];by_cases hle:i' <= j
 ·have li:i'<G.length:=by omega
  simp -dsimp only[hle,decide_true,B.zi1,B.zdr,ho.idx li,ho.idx la,B.ze];refine ho.ld S (getElem?_eq_getElem li) ?_;refine ho.ld S (getElem?_eq_getElem la) ?_;refine hc.call _ _ _ _ ho.le ?_;simp -dsimp only[hle,decide_true,B.zi1,B.zdr,V.zeh,B.zhx,B.ze];refine B.zm (λhd=>?_) (λhd=>?_)
  ·have hd':c G[i'] G[a]<0:=by simpa using hd
   simp -dsimp only[zg8 (show i'<4611686018427387904 by omega),B.ze];refine hY (b-(i'+1)) _ _ (by omega) ⟨rfl,i'+1,by omega,rfl,⟨k4,by omega,k3,by omega,λk hk ha q1 q2=>?_,p.hi2⟩⟩;by_cases e:k=i'
   ·subst e;exact hd'
   ·exact p.lo k hk ha q1 (by omega)
  ·have hd':¬ c G[i'] G[a]<0:=by simpa using hd
   exact zxl S hc ho hl hab p (.inr λ_ _=>hd') hq
 ·simp -dsimp only[hle,decide_false,B.zi1,B.zgd,B.ziv,B.cond_false]
  exact zxl S hc ho hl hab p (.inl (by omega)) hq
theorem zoz(S:zds E cs v)(hc:zeo C0 v c fL h0)(ho:Rw E cs h0 h x G R)(hl:G.length<4611686018427387904){pv:Nat}(hp1:a <= pv)(hp2:pv<b)(hb:b <= G.length)(hq:PartQ E cs h0 x c a b R G Q):
  zw.cps C E C0 fL x (.int .i64 (a:Int)) (.int .i64 (b:Int)) (.int .i64 (pv:Int)) f h Q:=by
 have la:a<G.length:=by omega
 have lp:pv<G.length:=by omega
 simp -dsimp only[zw.cps,zw.k16,ho.idx lp,ho.idx la,B.ze];refine ho.ld S (getElem?_eq_getElem lp) ?_;refine ho.ld S (getElem?_eq_getElem la) ?_;refine ho.st S (t:=G[pv]) la λh1 o1=>?_;refine o1.st S (t:=G[a]) (by simpa using lp) λh2 o2=>?_;have e1':V.bin .sub (.int .i64 (b:Int)) (.int .i64 1)=some (.int .i64 ((b-1:Nat):Int)):=zio (a:=b) (b:=1) (by omega) (by omega);simp -dsimp only[zw.k15,zg8 (show a<4611686018427387904 by omega),e1',B.ze];have W:=zfi la lp (Nat.le_refl _) (by omega) hp1 hp2;have hsl:=zku la lp;refine part_i1 S hc (G:=swp G a pv la lp) o2 (by omega) (by omega) ⟨by omega,by omega,by omega,by omega,λk _ _ q1 q2=>by omega,λk _ _ q1 q2=>by omega⟩ λh' m G' t P' W' o'=>hq h' m G' t P' (W.trans W') o'
end
section
variable{E:z8}{X:Type}{cs:X->List za}{v:X->za}{h0 h:zb}{x f:za}{G:List X}{R:List (List za)}{c:X->X->Int}{Q:zQ}{Y1:zL}{a b i j:Nat}
theorem eq_j(S:zds E cs v)(hc:zeo C0 v c fL h0)(ho:Rw E cs h0 h x G R)(hl:G.length<4611686018427387904)(hab:a<b)(p:zuw c a b G i j)(hi0:j<i \/ ∀(h1:i<G.length)(h2:a<G.length),c G[a] G[i]<0)
  (done:∀h' j',zuw c a b G i j'->j'<i->Rw E cs h0 h' x G R->Q (.int .i64 (i:Int)) h')
  (next:∀h' j' (hi:i<G.length) (hj:j'<G.length),zuw c a b (swp G i j' hi hj) (i+1) (j'-1)->i<j'->j'<b->Rw E cs h0 h' x (swp G i j' hi hj) R->Y1 [.int .i64 ((i+1:Nat):Int),.int .i64 ((j'-1:Nat):Int)] h'):
  zd (zbh.l3 C E C0 fL Q Y1 x (.int .i64 (a:Int)) f (.int .i64 (i:Int))) [.int .i64 (j:Int)] h:=by
 refine zd.intro (λt vs hh=>hh=h /\ ∃j':Nat,t=j' /\ vs=[.int .i64 (j':Int)] /\ zuw c a b G i j' /\ (j'<i \/ ∀(h1:i<G.length)(h2:a<G.length),c G[a] G[i]<0)) j ?_ ⟨rfl,j,rfl,rfl,p,hi0⟩;rintro Y j' vs hh ⟨rfl,_,rfl,rfl,p,hi0⟩ hY;have k1:=p.hi;have k2:=p.hij;have k3:=p.hj;have k4:=p.hb;have la:a<G.length:=by omega
 have lj:j'<G.length:=by omega
 simp -dsimp only[zbh.l3,zbh.k2,leqN,B.ze];by_cases hle:i <= j'
 ·have li:i<G.length:=by omega
  simp -dsimp only[hle,decide_true,B.zi1,B.zdr,ho.idx lj,ho.idx la,B.ze];refine ho.ld S (getElem?_eq_getElem la) ?_;refine ho.ld S (getElem?_eq_getElem lj) ?_;refine hc.call _ _ _ _ ho.le ?_;simp -dsimp only[hle,decide_true,B.zi1,B.zdr,V.zeh,B.zhx,B.ze];refine B.zm (λhd=>?_) (λhd=>?_)
  ·have hd':c G[a] G[j']<0:=by simpa using hd
   have e1':V.bin .sub (.int .i64 (j':Int)) (.int .i64 1)=some (.int .i64 ((j'-1:Nat):Int)):=zio (a:=j') (b:=1) (by omega) (by omega);simp -dsimp only[e1',B.ze];refine hY (j'-1) _ _ (by omega) ⟨rfl,j'-1,rfl,rfl,⟨k4,k1,by omega,by omega,p.lo,λk hk ha q1 q2=>?_⟩,?_⟩
   ·by_cases e:k=j'
    ·subst e;exact hd'
    ·exact p.hi2 k hk ha (by omega) q2
   ·rcases hi0 with h|h
    ·omega
    ·exact .inr h
  ·have hd':¬ c G[a] G[j']<0:=by simpa using hd
   have hni:c G[a] G[i]<0:=by
    rcases hi0 with h|h
    ·omega
    ·exact h li la
   simp -dsimp only[zbh.k1,gtrN,show ¬ j'<i by omega,decide_false,B.cond_false,ho.idx lj,ho.idx li,B.ze];refine ho.ld S (getElem?_eq_getElem lj) ?_;refine ho.ld S (getElem?_eq_getElem li) ?_;refine ho.st S (t:=G[j']) li λh1 o1=>?_;refine o1.st S (t:=G[i]) (by simpa using lj) λh2 o2=>?_;have e1':V.bin .sub (.int .i64 (j':Int)) (.int .i64 1)=some (.int .i64 ((j'-1:Nat):Int)):=zio (a:=j') (b:=1) (by omega) (by omega);simp -dsimp only[zg8 (show i<4611686018427387904 by omega),e1',B.ze];have hne:i≠j':=λe=>by subst e;exact hd' hni
   exact next h2 j' li lj (p.swap hle li lj la hni hd') (by omega) k3 o2
 ·simp -dsimp only[hle,decide_false,B.zi1,B.zgd,B.ziv,B.cond_false,zbh.k1,gtrN,show j'<i by omega,decide_true,B.cond_true,B.ze]
  exact done hh j' p (by omega) ho
theorem eq_i(S:zds E cs v)(hc:zeo C0 v c fL h0)(ho:Rw E cs h0 h x G R)(hl:G.length<4611686018427387904)(hab:a<b)(p:zuw c a b G i j)
  (done:∀h' i' j',zuw c a b G i' j'->j'<i'->Rw E cs h0 h' x G R->Q (.int .i64 (i':Int)) h')
  (next:∀h' i' j' (hi:i'<G.length) (hj:j'<G.length),zuw c a b (swp G i' j' hi hj) (i'+1) (j'-1)->a<i'->i <= i'->i'<j'->j'<b->Rw E cs h0 h' x (swp G i' j' hi hj) R->Y1 [.int .i64 ((i'+1:Nat):Int),.int .i64 ((j'-1:Nat):Int)] h'):
  zd (zbh.l5 C E C0 fL Q Y1 x (.int .i64 (a:Int)) f (.int .i64 (j:Int))) [.int .i64 (i:Int)] h:=by
 refine zd.intro (λt vs hh=>hh=h /\ ∃i':Nat,i'+t=b /\ i <= i' /\ vs=[.int .i64 (i':Int)] /\ zuw c a b G i' j) (b-i) ?_ ⟨rfl,i,by have:=p.hij;have:=p.hj;omega,Nat.le_refl _,rfl,p⟩;rintro Y t vs hh ⟨rfl,i',hit,hii,rfl,p⟩ hY;have k1:=p.hi;have k2:=p.hij;have k3:=p.hj;have k4:=p.hb;have la:a<G.length:=by omega
 simp -dsimp only[zbh.l5,zbh.k4,leqN,B.ze];by_cases hle:i' <= j
 ·have li:i'<G.length:=by omega
  simp -dsimp only[hle,decide_true,B.zi1,B.zdr,ho.idx li,ho.idx la,B.ze];refine ho.ld S (getElem?_eq_getElem la) ?_;refine ho.ld S (getElem?_eq_getElem li) ?_;refine hc.call _ _ _ _ ho.le ?_;simp -dsimp only[hle,decide_true,B.zi1,B.zdr,V.zeh,V.zjt,B.zhx,B.ze];refine B.zm (λhd=>?_) (λhd=>?_)
  ·have hd':¬ c G[a] G[i']<0:=by simpa using hd
   simp -dsimp only[zg8 (show i'<4611686018427387904 by omega),B.ze];refine hY (b-(i'+1)) _ _ (by omega) ⟨rfl,i'+1,by omega,by omega,rfl,⟨k4,by omega,k3,by omega,λk hk ha q1 q2=>?_,p.hi2⟩⟩;by_cases e:k=i'
   ·subst e;exact hd'
   ·exact p.lo k hk ha q1 (by omega)
  ·have hd':c G[a] G[i']<0:=by simpa using hd
   exact eq_j S hc ho hl hab p (.inr λ_ _=>hd') (λh' j' p' hlt o'=>done h' i' j' p' hlt o') λh' j' hi hj p' h1 h2 o'=>next h' i' j' hi hj p' k1 hii h1 h2 o'
 ·simp -dsimp only[hle,decide_false,B.zi1,B.zgd,B.ziv,B.cond_false]
  exact eq_j S hc ho hl hab p (.inl (by omega)) (λh' j' p' hlt o'=>done h' i' j' p' hlt o') λh' j' hi hj p' h1 h2 o'=>next h' i' j' hi hj p' k1 hii h1 h2 o'
theorem eq_main(S:zds E cs v)(hc:zeo C0 v c fL h0)(ho:Rw E cs h0 h x G R)(hl:G.length<4611686018427387904)(hab:a<b)(p:zuw c a b G i j)
  (hq:∀h' i' j' G',zuw c a b G' i' j'->j'<i'->zc1 (a+1) b G G'->Rw E cs h0 h' x G' R->Q (.int .i64 (i':Int)) h'):
  zd (zbh.l6 C E C0 fL Q x (.int .i64 (a:Int)) f) [.int .i64 (i:Int),.int .i64 (j:Int)] h:=by
 refine zd.intro (λt vs hh=>∃(i' j':Nat)(G':List X),i'+t=b /\ vs=[.int .i64 (i':Int),.int .i64 (j':Int)] /\ zc1 (a+1) b G G' /\ zuw c a b G' i' j' /\ Rw E cs h0 hh x G' R) (b-i) ?_ ⟨i,j,G,by have:=p.hij;have:=p.hj;omega,rfl,zc1.refl _ _ _,p,ho⟩;rintro Y t vs hh ⟨i',j',G',hit,rfl,W,p,o⟩ hY;have hlen:=W.len;simp -dsimp only[zbh.l6];refine eq_i S hc o (by omega) hab p (λh' i2 j2 p2 hlt o2=>hq h' i2 j2 G' p2 hlt W o2) λh' i2 j2 hi hj p2 h1 h2 h3 h4 o2=>?_;exact hY (b-(i2+1)) _ _ (by omega) ⟨i2+1,j2-1,_,by omega,rfl,W.trans (zfi hi hj (by omega) (by omega) (by omega) h4),p2,o2⟩
theorem zkx(S:zds E cs v)(hc:zeo C0 v c fL h0)(ho:Rw E cs h0 h x G R)(hl:G.length<4611686018427387904){pv:Nat}(hp1:a <= pv)(hp2:pv<b)(hb:b <= G.length)
  (hq:∀h' i' j' G',zuw c a b G' i' j'->j'<i'->zc1 a b G G'->(∀(h1:a<G'.length)(h2:pv<G.length),G'[a]=G[pv])->Rw E cs h0 h' x G' R->Q (.int .i64 (i':Int)) h'):
  zbh.cps C E C0 fL x (.int .i64 (a:Int)) (.int .i64 (b:Int)) (.int .i64 (pv:Int)) f h Q:=by
 have la:a<G.length:=by omega
 have lp:pv<G.length:=by omega
 simp -dsimp only[zbh.cps,zbh.k8,ho.idx lp,ho.idx la,B.ze];refine ho.ld S (getElem?_eq_getElem lp) ?_;refine ho.ld S (getElem?_eq_getElem la) ?_;refine ho.st S (t:=G[pv]) la λh1 o1=>?_;refine o1.st S (t:=G[a]) (by simpa using lp) λh2 o2=>?_;have e1':V.bin .sub (.int .i64 (b:Int)) (.int .i64 1)=some (.int .i64 ((b-1:Nat):Int)):=zio (a:=b) (b:=1) (by omega) (by omega);simp -dsimp only[zbh.k7,zg8 (show a<4611686018427387904 by omega),e1',B.ze];have W:=zfi la lp (Nat.le_refl _) (by omega) hp1 hp2;have hsl:=zku la lp;refine eq_main S hc (G:=swp G a pv la lp) o2 (by omega) (by omega) ⟨by omega,by omega,by omega,by omega,λk _ _ q1 q2=>by omega,λk _ _ q1 q2=>by omega⟩ λh' i' j' G' p' hlt W' o'=>hq h' i' j' G' p' hlt (W.trans (W'.mono (by omega) (Nat.le_refl _))) (λh1 h2=>?_) o';rw[W'.same (.inl (by omega)) h1 (by omega),zim la lp (by omega) la];split
 ·rename_i e;simp only[e]
 ·rw[if_pos rfl]
end
section
variable{X:Type}{c:X->X->Int}{a n lo r ch:Nat}{G:List X}
end
section
variable{E:z8}{X:Type}{cs:X->List za}{v:X->za}{h0 h:zb}{x f:za}{G:List X}{R:List (List za)}{c:X->X->Int}{Q:zQ}{Y1:zL}{a n lo r ch:Nat}
theorem sift_k1(S:zds E cs v)(W:zo6 (zgi c))(hc:zeo C0 v c fL h0)(ho:Rw E cs h0 h x G R)(hl:G.length<1000000000)(p:SInv c a n lo r G)(hlo:lo <= r)(hch:ch<n)(hp:(ch-1) / 2=r)(hc0:0<ch)
  (hmax:∀k,0<k->k<n->(k-1) / 2=r->(h1:a+ch<G.length)->(h2:a+k<G.length)->¬ c G[a+ch] G[a+k]<0)
  (done:∀h',Heap c a n lo G->Rw E cs h0 h' x G R->Q (.tup []) h')
  (next:∀h' (hr:a+r<G.length) (hcl:a+ch<G.length),SInv c a n lo ch (swp G (a+r) (a+ch) hr hcl)->Rw E cs h0 h' x (swp G (a+r) (a+ch) hr hcl) R->Y1 [.int .i64 (ch:Int)] h'):
  zd9.k1 C E C0 fL Q Y1 x (.int .i64 (n:Int)) (.int .i64 (a:Int)) f (.int .i64 (r:Int)) (.int .i64 (ch:Int)) h:=by
 have hlen:=p.len;have lr:a+r<G.length:=by omega
 have lc:a+ch<G.length:=by omega
 have ar:=zlc (a:=a) (b:=r) (by omega);have ac:=zlc (a:=a) (b:=ch) (by omega);simp -dsimp only[zd9.k1,ar,ac,ho.idx lr,ho.idx lc,B.ze];refine ho.ld S (getElem?_eq_getElem lr) ?_;refine ho.ld S (getElem?_eq_getElem lc) ?_;refine hc.call _ _ _ _ ho.le ?_;simp -dsimp only[V.zeh,V.zjt,B.ze];refine B.zm (λhd=>?_) (λhd=>?_)
 ·have hd':¬ c G[a+r] G[a+ch]<0:=by simpa using hd
  refine done h (p.done λk k0 hk hkp h1 h2=>?_) ho;have:=W.zsv (a:=G[a+r]) (b:=G[a+ch]) (c:=G[a+k]) (by unfold zgi;exact decide_eq_false hd') (by unfold zgi;exact decide_eq_false (hmax k k0 hk hkp lc h2));unfold zgi at this;exact of_decide_eq_false this
 ·have hd':c G[a+r] G[a+ch]<0:=by simpa using hd
  simp -dsimp only[ar,ac,ho.idx lr,ho.idx lc,B.ze];refine ho.ld S (getElem?_eq_getElem lc) ?_;refine ho.ld S (getElem?_eq_getElem lr) ?_;refine ho.st S (t:=G[a+ch]) lr λh1 o1=>?_;refine o1.st S (t:=G[a+r]) (by simpa using lc) λh2 o2=>?_;exact next h2 lr lc (p.step W hlo hch hp hc0 lr lc hd' λk k0 hk hkp h2=>hmax k k0 hk hkp lc h2) o2
theorem zlg(S:zds E cs v)(W:zo6 (zgi c))(hc:zeo C0 v c fL h0)(ho:Rw E cs h0 h x G R)(hl:G.length<1000000000)(p:SInv c a n lo r G)(hlo:lo <= r)(hrn:r <= n){b:Nat}(hb:a+n <= b)
  (hq:∀h' G',Heap c a n lo G'->zc1 a b G G'->Rw E cs h0 h' x G' R->Q (.tup []) h'):
  zd9.cps C E C0 fL x (.int .i64 (r:Int)) (.int .i64 (n:Int)) (.int .i64 (a:Int)) f h Q:=by
 simp -dsimp only[zd9.cps];refine zd.intro (λt vs hh=>∃(r':Nat)(G':List X),r'+t=n /\ vs=[.int .i64 (r':Int)] /\ lo <= r' /\ SInv c a n lo r' G' /\ zc1 a b G G' /\ Rw E cs h0 hh x G' R) (n-r) ?_ ⟨r,G,by omega,rfl,hlo,p,zc1.refl _ _ _,ho⟩;rintro Y t vs hh ⟨r',G',hrt,rfl,hlo',p',W',o⟩ hY;have hlen:=W'.len;have pl:=p'.len;have e1:V.bin .mul (.int .i64 2) (.int .i64 (r':Int))=some (.int .i64 ((2*r':Nat):Int)):=mulN (a:=2) (b:=r') (by omega);simp -dsimp only[zd9.l4,zd9.k3,e1,zg8 (show 2*r'<4611686018427387904 by omega),zzb,B.ze];refine B.zm (λhd=>?_) (λhd=>?_)
 ·rw[decide_eq_true_eq]at hd
  exact hq hh G' (p'.done λk k0 hk hkp _ _=>by omega) W' o
 ·rw[decide_eq_false_iff_not]at hd
  have fin:∀ch,ch<n->(ch-1) / 2=r'->0<ch->(∀k,0<k->k<n->(k-1) / 2=r'->(h1:a+ch<G'.length)->(h2:a+k<G'.length)->¬ c G'[a+ch] G'[a+k]<0)->zd9.k1 C E C0 fL Q Y x (.int .i64 (n:Int)) (.int .i64 (a:Int)) f (.int .i64 (r':Int)) (.int .i64 (ch:Int)) hh:=λch c1 c2 c3 c4=>
   sift_k1 S W hc o (by omega) p' hlo' c1 c2 c3 c4 (λh' hp o'=>hq h' G' hp W' o') λh' hr hcl p2 o2=>hY (n-ch) _ _ (by omega) ⟨ch,_,by omega,rfl,by omega,p2,W'.trans (zfi hr hcl (by omega) (by omega) (by omega) (by omega)),o2⟩
  have irr:∀t:X,¬ c t t<0:=λt=>by
   have:=W.irr t;unfold zgi at this;exact of_decide_eq_false this
  have a1:=zlc (a:=a) (b:=2*r'+1) (by omega);simp -dsimp only[zd9.k2,zg8 (show 2*r'+1<4611686018427387904 by omega),zqg,B.ze];by_cases h2:2*r'+1+1<n
  ·have l1:a+(2*r'+1)<G'.length:=by omega
   have l2:a+(2*r'+1)+1<G'.length:=by omega
   simp -dsimp only[h2,decide_true,B.zi1,B.zdr,a1,zg8 (show a+(2*r'+1)<4611686018427387904 by omega),o.idx l1,o.idx l2,B.ze];refine o.ld S (getElem?_eq_getElem l1) ?_;refine o.ld S (getElem?_eq_getElem l2) ?_;refine hc.call _ _ _ _ o.le ?_;simp -dsimp only[h2,decide_true,B.zi1,B.zdr,V.zeh,B.zhx,B.ze];refine B.zm (λhf=>?_) (λhf=>?_)
   ·have hf':c G'[a+(2*r'+1)] G'[a+(2*r'+1)+1]<0:=by simpa using hf
    simp -dsimp only[zg8 (show 2*r'+1<4611686018427387904 by omega),B.ze];refine fin (2*r'+1+1) h2 (by omega) (by omega) λk k0 hk hkp h1 h3=>?_;rcases (show k=2*r'+1 \/ k=2*r'+1+1 by omega) with rfl|rfl
    ·have:=W.asym (a:=G'[a+(2*r'+1)]) (b:=G'[a+(2*r'+1)+1]) (by unfold zgi;exact decide_eq_true hf')
     unfold zgi at this;exact of_decide_eq_false this
    ·exact irr _
   ·have hf':¬ c G'[a+(2*r'+1)] G'[a+(2*r'+1)+1]<0:=by simpa using hf
    refine fin (2*r'+1) (by omega) (by omega) (by omega) λk k0 hk hkp h1 h3=>?_;rcases (show k=2*r'+1 \/ k=2*r'+1+1 by omega) with rfl|rfl
    ·exact irr _
    ·exact hf'
  ·simp -dsimp only[h2,decide_false,B.zi1,B.zgd,B.ziv,B.cond_false]
   refine fin (2*r'+1) (by omega) (by omega) (by omega) λk k0 hk hkp h1 h3=>?_;have:k=2*r'+1:=by omega
   subst this;exact irr _
end
section
variable{X:Type}{c:X->X->Int}{a b n lo:Nat}{G G':List X}
end
abbrev SiftI(C:zh)(E:z8)(C0:zh)(fL:Nat)(f1:Nat):Prop:=∀(v0 v1 v2 v3 v4:za)(h:zb)(Q:zQ),zd9.cps C E C0 fL v0 v1 v2 v3 v4 h (dn Q)->C f1 [v0,v1,v2,v3,v4] h Q
section
variable{E:z8}{X:Type}{cs:X->List za}{v:X->za}{h0 h:zb}{x f:za}{G:List X}{R:List (List za)}{c:X->X->Int}{Q:zQ}{a b:Nat}
theorem zp6(S:zds E cs v)(W:zo6 (zgi c))(hc:zeo C0 v c fL h0)(ho:Rw E cs h0 h x G R)(hl:G.length <= 100000000)(hab:a <= b)(hb:b <= G.length)
  (hq:∀h' G',zc1 a b G G'->Srt c a b G'->Rw E cs h0 h' x G' R->Q (.tup []) h'):zd0.cps C E C0 fL x (.int .i64 (a:Int)) (.int .i64 (b:Int)) f h Q:=by
 have e0:∀(L:List X),(L.map (λy=>(y,0))).map (λp:X×Nat=>cs p.1)=L.map cs:=λL=>by rw[map_map];rfl
 have e1:∀(L:List (X×Nat)),L.map (λp:X×Nat=>cs p.1)=(L.map (·.1)).map cs:=λL=>by rw[map_map];rfl
 have lt:(G.take a).length=a:=by rw[length_take];omega
 have lm:((G.take b).drop a).length=b-a:=by rw[length_drop,length_take];omega
 refine zlq (P:=(G.take a).map (λy=>(y,0))) (M:=((G.take b).drop a).zipIdx) (U:=(G.drop b).map (λy=>(y,0))) S W ?_ ?_ hc ?_ ?_ ?_ ?_ (R:=R) (h0:=h0)
 ·simp only[length_append,length_map,length_zipIdx,lt,lm,length_drop];omega
 ·have:(((G.take b).drop a).zipIdx.map (·.2)).Pairwise (· < ·):=by
   rw[zipIdx_map_snd];exact pairwise_lt_range'
  rwa [pairwise_map]at this
 ·rw[length_map,lt]
 ·rw[length_map,length_zipIdx,lt,lm];omega
 ·unfold Rw
  rw[map_append,map_append,e0,e0,e1,zipIdx_map_fst,<-map_append,<-map_append,<-split3 hab G];exact ho
 ·intro h' M' hp hs ho'
  have hp':(M'.map (·.1)).Perm ((G.take b).drop a):=by
   have:=hp.map (·.1);rwa [zipIdx_map_fst]at this
  refine hq h' (G.take a++(M'.map (·.1)++G.drop b)) (zyr hab hb hp') (srt_mid hab hb (by rw[hp'.length_eq,lm]) ?_) ?_
  ·rw[pairwise_map]
   refine hs.imp λ{x y} hxy=>?_;have hx:zgi c y.1 x.1=false:=hxy.elim (λh=>W.asym h) λ⟨h,_⟩=>h;unfold zgi at hx;exact of_decide_eq_false hx
  ·unfold Rw at ho' ⊢
   rw[map_append,map_append,e0,e0,e1]at ho'
   rwa [map_append,map_append]
theorem zp7{f1:Nat}(is:SiftI C E C0 fL f1)(S:zds E cs v)(W:zo6 (zgi c))(hc:zeo C0 v c fL h0)(ho:Rw E cs h0 h x G R)(hl:G.length <= 100000000)(hab:a<b)(hb:b <= G.length)
  (hq:∀h' G',zc1 a b G G'->Srt c a b G'->Rw E cs h0 h' x G' R->Q (.tup []) h'):zea.cps C E C0 fL f1 x (.int .i64 (a:Int)) (.int .i64 (b:Int)) f h Q:=by
 have e1:=zio (a:=b) (b:=a) (by omega) (by omega);obtain⟨n,hn⟩:∃n,n=b-a:=⟨_,rfl⟩;have e2:V.bin .quo (.int .i64 ((n-1:Nat):Int)) (.int .i64 2)=some (.int .i64 (((n-1) / 2:Nat):Int)):=by
  rw[V.zmy _ _ _ (by omega),show ((n-1:Nat):Int).tdiv 2=(((n-1) / 2:Nat):Int) from rfl,wrap_i64 (by omega) (by omega)]
 have m1:∀k:Nat,k <= 100000000->V.bin .sub (.int .i64 (k:Int)) (.int .i64 1)=some (.int .i64 ((k:Int)-1)):=λk hk=>by
  rw[V.zi9,wrap_i64 (by omega) (by omega)]
 have m2:∀k:Nat,k <= 100000000->V.bin .sub (.int .i64 ((k+1:Nat)-1:Int)) (.int .i64 1)=some (.int .i64 ((k:Int)-1)):=λk hk=>by
  rw[V.zi9,wrap_i64 (by omega) (by omega)];congr 2;omega
 simp -dsimp only[zea.cps,zea.k5,e1,B.ze];rw[<-hn];simp -dsimp only[zwz (show 1 <= n by omega) (by omega),e2,B.ze];refine zd.intro (λt vs hh=>∃(G':List X),vs=[.int .i64 ((t:Int)-1)] /\ t <= n /\ Heap c a n t G' /\ zc1 a b G G' /\ Rw E cs h0 hh x G' R) ((n-1) / 2+1) ?_ ⟨G,by congr 2;omega,by omega,Heap.none_ (by omega),zc1.refl _ _ _,ho⟩;rintro Y t vs hh ⟨G1,rfl,htn,p1,W1,o1⟩ hY;have l1:=W1.len;simp -dsimp only[zea.l4,zea.k3,V.zk5,B.ze];cases t with
 | succ k=>
  rw[show decide ((0:Int) <= ((k+1:Nat):Int)-1)=true by simp,B.cond_true,show (((k+1:Nat):Int)-1)=(k:Int) by omega];refine is _ _ _ _ _ _ _ (zlg (b:=b) S W hc o1 (by omega) (p1.sinv (by omega)) (Nat.le_refl _) (by omega) (by omega) λh2 G2 p2 w2 o2=>zba ?_);simp -dsimp only[m1 k (by omega),B.ze];exact hY k _ _ (by omega) ⟨G2,rfl,by omega,p2,W1.trans w2,o2⟩
 | zero=>
  rw[show decide ((0:Int) <= ((0:Nat):Int)-1)=false by simp,B.cond_false];simp -dsimp only[m1 n (by omega),B.ze];refine zd.intro (λt vs hh=>∃(G':List X),vs=[.int .i64 ((t:Int)-1)] /\ t <= n /\ Heap c a t 0 G' /\ Cut c a b a (a+t) G' /\ zc1 a b G G' /\ Rw E cs h0 hh x G' R) n ?_ ⟨G1,rfl,Nat.le_refl _,p1,λp q _ _ h3 h4=>by omega,W1,o1⟩;rintro Z t vs hh ⟨G2,rfl,htn,p2,c2,W2,o2⟩ hZ;have l2:=W2.len;simp -dsimp only[zea.l2,zea.k1,V.zk5,B.ze];cases t with
  | zero=>
   rw[show decide ((0:Int) <= ((0:Nat):Int)-1)=false by simp,B.cond_false];exact hq hh G2 W2 (c2.small (by omega)) o2
  | succ k=>
   rw[show decide ((0:Int) <= ((k+1:Nat):Int)-1)=true by simp,B.cond_true,show (((k+1:Nat):Int)-1)=(k:Int) by omega];have ac:=zlc (a:=a) (b:=k) (by omega);have la:a<G2.length:=by omega
   have lk:a+k<G2.length:=by omega
   simp -dsimp only[ac,o2.idx la,o2.idx lk,B.ze];refine o2.ld S (getElem?_eq_getElem lk) ?_;refine o2.ld S (getElem?_eq_getElem la) ?_;refine o2.swap S la lk λh3 o3=>?_;have hsl:=zku la lk;have w3:zc1 a (a+(k+1)) G2 (swp G2 a (a+k) la lk):=zfi la lk (by omega) (by omega) (by omega) (by omega);have c3:=c2.within w3 (Nat.le_refl _) (by omega);have c4:Cut c a b a (a+k) (swp G2 a (a+k) la lk):=λp q h1 h2 h3 h4 h5 h6=>by
    by_cases e:a+(k+1) <= q
    ·exact c3 p q h1 h2 h3 (.inr e) h5 h6
    ·have:q=a+k:=by omega
     subst this;rw[zim la lk h6 (by omega),if_pos rfl,zim la lk h5 (by omega),if_neg (by omega)];split
     ·exact p2.root W (by omega) k (by omega)
     ·have:=p2.root W (by omega) (p-a) (by omega)
      simpa only[show a+(p-a)=p by omega]using this
   have s3:SInv c a k 0 0 (swp G2 a (a+k) la lk):=⟨by omega,λj j0 hj _ hne h1 h2=>by
    rw[zim la lk h1 (by omega),if_neg (by omega),if_neg (by omega),zim la lk h2 (by omega),if_neg (by omega),if_neg (by omega)];exact p2 j j0 (by omega) (by omega) (by omega) (by omega),λ_ h=>by omega⟩
   refine is _ _ _ _ _ _ _ (zlg (r:=0) (b:=a+k) S W hc o3 (by omega) s3 (Nat.le_refl _) (by omega) (by omega) λh4 G4 p4 w4 o4=>zba ?_);simp -dsimp only[m1 k (by omega),B.ze];exact hZ k _ _ (by omega) ⟨G4,rfl,by omega,p4,c4.within w4 (Nat.le_refl _) (by omega),(W2.trans (w3.mono (Nat.le_refl _) (by omega))).trans (w4.mono (Nat.le_refl _) (by omega)),o4⟩
end
section
variable{X:Type}{c:X->X->Int}{A B j:Nat}{G:List X}
end
section
variable{E:z8}{X:Type}{cs:X->List za}{v:X->za}{h0 h:zb}{x f:za}{G:List X}{R:List (List za)}{c:X->X->Int}{Q:zQ}{Y1:zL}{a b i s:Nat}
theorem pis_k3(S:zds E cs v)(hc:zeo C0 v c fL h0)(ho:Rw E cs h0 h x G R)(hl:G.length <= 100000000)(hi0:0<i)(hi:i<b)(hb:b <= G.length)(hs:s <= 5)
  (hY:∀h' G',zc1 i b G G'->Rw E cs h0 h' x G' R->Y1 [.int .i64 (i:Int),.int .i64 ((s+1:Nat):Int)] h'):
  zk.k3 C E C0 fL Q Y1 x (.int .i64 (a:Int)) (.int .i64 (b:Int)) f (.int .i64 (i:Int)) (.int .i64 (s:Int)) h:=by
 have hge:V.bin .geq (.int .i64 ((b-i:Nat):Int)) (.int .i64 2)=some (.bool (decide (2 <= b-i))):=zzb (b:=2);simp -dsimp only[zk.k3,zio (show i <= b by omega) (by omega),hge,zg8 (show s<4611686018427387904 by omega),zg8 (show i<4611686018427387904 by omega),B.ze];refine B.zm (λhd=>?_) (λhd=>?_)
 rotate_left
 ·simp -dsimp only[zg8 (show s<4611686018427387904 by omega),B.ze]
  exact hY h G (zc1.refl _ _ _) ho
 rw[decide_eq_true_eq]at hd;simp -dsimp only[zg8 (show i<4611686018427387904 by omega),B.ze];refine zd.intro (λt vs hh=>∃(j:Nat)(G':List X),j+t=b /\ vs=[.int .i64 (j:Int)] /\ i<j /\ zc1 i b G G' /\ Rw E cs h0 hh x G' R) (b-(i+1)) ?_ ⟨i+1,G,by omega,rfl,by omega,zc1.refl _ _ _,ho⟩;rintro Y t vs hh ⟨j,G1,hjt,rfl,hij,W1,o⟩ hY2;have hlen:=W1.len;simp -dsimp only[zk.l2,zk.k1,zqg,B.ze];refine B.zm (λhe=>?_) (λhe=>?_)
 ·rw[decide_eq_true_eq]at he
  have lj:j<G1.length:=by omega
  have lj1:j-1<G1.length:=by omega
  have sj:=zwz (a:=j) (by omega) (by omega);simp -dsimp only[sj,o.idx lj,o.idx lj1,B.ze];refine o.ld S (getElem?_eq_getElem lj) ?_;refine o.ld S (getElem?_eq_getElem lj1) ?_;refine hc.call _ _ _ _ o.le ?_;simp -dsimp only[V.zeh,V.zjt,B.ze];refine B.zm (λhd=>?_) (λhd=>?_)
  ·simp -dsimp only[zg8 (show s<4611686018427387904 by omega),B.ze]
   exact hY hh G1 W1 o
  ·simp -dsimp only[sj,o.idx lj,o.idx lj1,B.ze]
   refine o.ld S (getElem?_eq_getElem lj1) ?_;refine o.ld S (getElem?_eq_getElem lj) ?_;refine o.swap S lj lj1 λh2 o2=>?_;simp -dsimp only[zg8 (show j<4611686018427387904 by omega),B.ze];exact hY2 (b-(j+1)) _ _ (by omega) ⟨j+1,_,by omega,rfl,by omega,W1.trans (zfi lj lj1 (by omega) (by omega) (by omega) (by omega)),o2⟩
 ·simp -dsimp only[zg8 (show s<4611686018427387904 by omega),B.ze]
  exact hY hh G1 W1 o
theorem pis_k6(S:zds E cs v)(W:zo6 (zgi c))(hc:zeo C0 v c fL h0)(ho:Rw E cs h0 h x G R)(hl:G.length <= 100000000)(hai:a<i)(hi:i<b)(hb:b <= G.length)(hs:s <= 5)(hp:Pre c a b G)(h1:But1 c a i (i-1) G)
  (hY:∀h' G',zc1 a b G G'->Srt c a i G'->Rw E cs h0 h' x G' R->Y1 [.int .i64 (i:Int),.int .i64 ((s+1:Nat):Int)] h'):
  zk.k6 C E C0 fL Q Y1 x (.int .i64 (a:Int)) (.int .i64 (b:Int)) f (.int .i64 (i:Int)) (.int .i64 (s:Int)) h:=by
 have fin:∀{hh G1},Rw E cs h0 hh x G1 R->zc1 a b G G1->Srt c a i G1->zk.k3 C E C0 fL Q Y1 x (.int .i64 (a:Int)) (.int .i64 (b:Int)) f (.int .i64 (i:Int)) (.int .i64 (s:Int)) hh:=λ{hh G1} o W1 s1=>by
  have l1:=W1.len;refine pis_k3 S hc o (by omega) (by omega) hi (by omega) hs λh2 G2 W2 o2=>hY h2 G2 (W1.trans (W2.mono (by omega) (Nat.le_refl _))) (λp q h1 h2 h3 h4 h5=>?_) o2;have l2:=W2.len;rw[W2.same (k:=p) (.inl (by omega)) h4 (by omega),W2.same (k:=q) (.inl (by omega)) h5 (by omega)];exact s1 p q h1 h2 h3 _ _
 have hge:V.bin .geq (.int .i64 ((i-a:Nat):Int)) (.int .i64 2)=some (.bool (decide (2 <= i-a))):=zzb (b:=2);simp -dsimp only[zk.k6,zio (show a <= i by omega) (by omega),hge,zwz (show 1 <= i by omega) (by omega),B.ze];refine B.zm (λhd=>?_) (λhd=>?_)
 ·simp -dsimp only[zwz (show 1 <= i by omega) (show i<4611686018427387904 by omega),B.ze]
  refine zd.intro (λt vs hh=>∃(G':List X),vs=[.int .i64 (t:Int)] /\ a <= t /\ t<i /\ But1 c a i t G' /\ zc1 a b G G' /\ Rw E cs h0 hh x G' R) (i-1) ?_ ⟨G,rfl,by omega,by omega,h1,zc1.refl _ _ _,ho⟩;rintro Y j vs hh ⟨G1,rfl,haj,hji,b1,W1,o⟩ hY2;have hlen:=W1.len;have lj:j<G1.length:=by omega
  have hg1:V.bin .geq (.int .i64 (j:Int)) (.int .i64 1)=some (.bool (decide (1 <= j))):=zzb (b:=1);simp -dsimp only[zk.l5,zk.k4,hg1,B.ze];refine B.zm (λhe=>?_) (λhe=>?_)
  ·rw[decide_eq_true_eq]at he
   have lj1:j-1<G1.length:=by omega
   have sj:=zwz (a:=j) (by omega) (by omega);simp -dsimp only[sj,o.idx lj,o.idx lj1,B.ze];refine o.ld S (getElem?_eq_getElem lj) ?_;refine o.ld S (getElem?_eq_getElem lj1) ?_;refine hc.call _ _ _ _ o.le ?_;simp -dsimp only[V.zeh,V.zjt,B.ze];refine B.zm (λhd=>?_) (λhd=>?_)
   ·exact fin o W1 (b1.done W lj (.inr λ_=>by simpa using hd))
   ·have hlt:c G1[j] G1[j-1]<0:=by simpa using hd
    have haj2:a<j:=by
     rcases Nat.lt_or_ge a j with k|k
     ·exact k
     ·have:j=a:=by omega
      subst this;exact absurd hlt ((hp.within W1) (by omega) j (Nat.le_refl _) (by omega) _ _)
    simp -dsimp only[sj,o.idx lj,o.idx lj1,B.ze];refine o.ld S (getElem?_eq_getElem lj1) ?_;refine o.ld S (getElem?_eq_getElem lj) ?_;refine o.swap S lj lj1 λh2 o2=>?_;exact hY2 (j-1) _ _ (by omega) ⟨_,rfl,by omega,by omega,b1.step W haj2 lj lj1 hlt,W1.trans (zfi lj lj1 (by omega) (by omega) (by omega) (by omega)),o2⟩
  ·rw[decide_eq_false_iff_not]at he
   exact fin o W1 (b1.done W lj (.inl (by omega)))
 ·rw[decide_eq_false_iff_not]at hd
  exact fin ho (zc1.refl _ _ _) λp q _ _ _ _ _=>by omega
theorem zis(S:zds E cs v)(W:zo6 (zgi c))(hc:zeo C0 v c fL h0)(ho:Rw E cs h0 h x G R)(hl:G.length <= 100000000)(hab:a<b)(hb:b <= G.length)(hp:Pre c a b G)
  (hq:∀h' G' t,zc1 a b G G'->(t=true->Srt c a b G')->Rw E cs h0 h' x G' R->Q (.bool t) h'):
  zk.cps C E C0 fL x (.int .i64 (a:Int)) (.int .i64 (b:Int)) f h Q:=by
 simp -dsimp only[zk.cps,zg8 (show a<4611686018427387904 by omega),B.ze];refine zd.intro (λt vs hh=>∃(s i:Nat)(G':List X),s+t=5 /\ vs=[.int .i64 (i:Int),.int .i64 (s:Int)] /\ a<i /\ i <= b /\ Srt c a i G' /\ zc1 a b G G' /\ Rw E cs h0 hh x G' R) 5 ?_ ⟨0,a+1,G,rfl,rfl,by omega,by omega,λp q _ _ _ _ _=>by omega,zc1.refl _ _ _,ho⟩;rintro Y t vs hh ⟨s,i,G1,hst,rfl,hai,hib,s1,W1,o⟩ hY;have hl1:=W1.len;have h5:V.bin .lss (.int .i64 (s:Int)) (.int .i64 5)=some (.bool (decide (s<5))):=zqg (b:=5);simp -dsimp only[zk.l12,zk.k11,h5,B.ze];refine B.zm (λhd=>?_) (λhd=>hq hh G1 false W1 (λh=>by cases h) o);rw[decide_eq_true_eq]at hd;refine zd.intro (λt vs hh=>∃(i:Nat),i+t=b /\ vs=[.int .i64 (i:Int)] /\ a<i /\ Srt c a i G1 /\ Rw E cs h0 hh x G1 R) (b-i) ?_ ⟨i,by omega,rfl,hai,s1,o⟩;rintro Z t vs hh ⟨i,hit,rfl,hai,s2,o2⟩ hZ;simp -dsimp only[zk.l10,zk.k9,zqg,B.ze];by_cases hd2:i<b
 ·have li:i<G1.length:=by omega
  have li1:i-1<G1.length:=by omega
  have si:=zwz (a:=i) (by omega) (by omega);simp -dsimp only[hd2,decide_true,B.zi1,B.zdr,si,o2.idx li,o2.idx li1,B.ze];refine o2.ld S (getElem?_eq_getElem li) ?_;refine o2.ld S (getElem?_eq_getElem li1) ?_;refine hc.call _ _ _ _ o2.le ?_;simp -dsimp only[hd2,decide_true,B.zi1,B.zdr,V.zeh,V.zjt,B.zhx,B.ze];refine B.zm (λhe=>?_) (λhe=>?_)
  ·have hnl:¬ c G1[i] G1[i-1]<0:=by simpa using he
   simp -dsimp only[zg8 (show i<4611686018427387904 by omega),B.ze];refine hZ (t-1) _ _ (by omega) ⟨i+1,by omega,rfl,by omega,?_,o2⟩;exact But1.done W (j:=i) (λp q h1 h2 h3 h4 h5 h6=>s2 p q h1 h2 (by omega) h5 h6) li (.inr λ_=>hnl)
  ·have hlt:c G1[i] G1[i-1]<0:=by simpa using he
   have hne:V.bin .eql (.int .i64 (i:Int)) (.int .i64 (b:Int))=some (.bool false):=by rw[V.zhh];simp;omega
   simp -dsimp only[hne,B.ze,B.cond_false,zk.k8,zk.k7,zio (show a <= b by omega) (show b<4611686018427387904 by omega)];rw[show V.bin .lss (.int .i64 ((b-a:Nat):Int)) (.int .i64 50)=some (.bool (decide (b-a<50))) from zqg (b:=50)];simp -dsimp only[B.ze];refine B.zm (λhf=>hq hh G1 false W1 (λh=>by cases h) o2) (λhf=>?_);simp -dsimp only[zk.k7,si,o2.idx li,o2.idx li1,B.ze];refine o2.ld S (getElem?_eq_getElem li1) ?_;refine o2.ld S (getElem?_eq_getElem li) ?_;refine o2.swap S li li1 λh3 o3=>?_;have hsl:=zku li li1;have w3:zc1 a b G1 (swp G1 i (i-1) li li1):=zfi li li1 (by omega) (by omega) (by omega) (by omega);have W3:=W1.trans w3;refine pis_k6 S W hc o3 (by omega) hai hd2 (by omega) (by omega) (hp.within W3) (λp q h1 h2 h3 h4 h5 h6=>?_) λh4 G4 W4 s4 o4=>hY (5-(s+1)) _ _ (by omega) ⟨s+1,i,G4,by omega,rfl,hai,by omega,s4,W3.trans W4,o4⟩;rw[zim li li1 h6 (by omega),if_neg h4,if_neg (by omega),zim li li1 h5 (by omega),if_neg (by omega),if_neg (by omega)];exact s2 p q h1 h2 h3 _ _
 ·have e:i=b:=by omega
  subst e;have heq:V.bin .eql (.int .i64 (i:Int)) (.int .i64 (i:Int))=some (.bool true):=by rw[V.zhh];simp
  simp -dsimp only[hd2,decide_false,B.zi1,B.zgd,B.ziv,B.cond_false,heq,B.cond_true,B.ze];exact hq hh G1 true W1 (λ_=>s2) o2
end
variable{C C0:zh}{fL:Nat}{N:zN}
section
variable{E:z8}{X:Type}{cs:X->List za}{v:X->za}{h0 h:zb}{x f:za}{G:List X}{R:List (List za)}{Q:zQ}{a b:Nat}
theorem zlv{f1 f2:Nat}(hn:NextI C0 f1)(hp:PowI C0 f2)(S:zds E cs v)(ho:Rw E cs h0 h x G R)(hl:G.length <= 100000000)(hab:a <= b)(hb:b <= G.length)
  (hq:∀h' G',zc1 a b G G'->Rw E cs h0 h' x G' R->Q (.tup []) h'):zbo.cps C E C0 fL f1 f2 x (.int .i64 (a:Int)) (.int .i64 (b:Int)) f h Q:=by
 obtain⟨n,en⟩:∃n,n=b-a:=⟨_,rfl⟩;have e1:=zio hab (show b<4611686018427387904 by omega);rw[<-en]at e1;have g8:V.bin .geq (.int .i64 (n:Int)) (.int .i64 8)=some (.bool (decide (8 <= n))):=zzb (b:=8);simp -dsimp only[zbo.cps,zbo.k8,e1,g8,B.ze];refine B.zm (λhd=>?_) (λhd=>hq h G (zc1.refl _ _ _) ho);rw[decide_eq_true_eq]at hd;simp -dsimp only[zbo.k7,toUN (show n<18446744073709551616 by omega),B.ze];intro id hid;have o:=zcw.zvy ho hid [.int .u64 0];simp only[cons_append,nil_append]at o;refine o.zyp 1 (off:=0) rfl rfl (by simp) λh1 o1 _=>?_;simp only[set_cons_succ,set_cons_zero]at o1;refine hp n _ _ (by omega) (by omega) λm hm0 hm=>?_;have m4:V.bin .quo (.int .i64 (n:Int)) (.int .i64 4)=some (.int .i64 ((n / 4:Nat):Int)):=quo4 (by omega);have m2:V.bin .mul (.int .i64 ((n / 4:Nat):Int)) (.int .i64 2)=some (.int .i64 ((n / 4*2:Nat):Int)):=mulN (a:=n / 4) (b:=2) (by omega);have m5:V.bin .add (.int .i64 (a:Int)) (.int .i64 ((n / 4*2:Nat):Int))=some (.int .i64 ((a+n / 4*2:Nat):Int)):=zlc (by omega);simp -dsimp only[zbo.k6,m4,m2,m5,zwz (show 1 <= a+n / 4*2 by omega) (by omega),B.ze];refine zd.intro (λt vs hh=>∃(i:Nat)(G':List X)(z:Int),i+t=a+n / 4*2+2 /\ vs=[.int .i64 (i:Int)] /\ a <= i /\ zc1 a b G G' /\ zcw h0 hh [.sl E.es x (G'.map cs) R,.box (.ptr id 0 0) [.int .u64 z]]) 3 ?_ ⟨a+n / 4*2-1,G,_,by omega,rfl,by omega,zc1.refl _ _ _,o1⟩;rintro Y t vs hh ⟨i,G1,z,hit,rfl,hai,W1,o2⟩ hY;have l1:=W1.len;simp -dsimp only[zbo.l5,zbo.k4,m4,m2,m5,zg8 (show a+n / 4*2<4611686018427387904 by omega),leqN,B.ze];refine B.zm (λhe=>?_) (λhe=>hq hh G1 W1 (o2.sub (by simp)));rw[decide_eq_true_eq]at he;have oo:=zcw.out (l1:=[.sl E.es x (G1.map cs) R]) (l2:=[.box (.ptr id 0 0) [.int .u64 z]]) o2;simp -dsimp only[zbo.k3];refine hn _ _ _ _ _ oo.2 λw z' h3 o3=>?_;have o4:=oo.1.join o3
 have s1:V.bin .sub (.int .u64 (m:Int)) (.int .u64 1)=some (.int .u64 ((m-1:Nat):Int)):=by
  rw[V.zi9,show (m:Int)-1=((m-1:Nat):Int) by omega,wrapU (by omega)]
 obtain⟨ot,hot,ea⟩:=and_le (z:=w) (m:=m-1) (by omega);simp -dsimp only[s1,ea,toIN (show ot<4611686018427387904 by omega),B.ze,zbo.k2,zzb];have fin:∀k:Nat,k<n->zbo.k1 C E C0 fL f1 f2 Q Y x (.int .i64 (a:Int)) (.int .i64 (n:Int)) (.ptr id 0 0) (.int .u64 (m:Int)) (.int .i64 (i:Int)) (.int .i64 (k:Int)) h3:=λk hk=>by
  have la:a+k<G1.length:=by omega
  have li:i<G1.length:=by omega
  have op:=zcw.perm o4 (List.Perm.swap _ _ []);have oq:=zcw.out (l1:=[.box (.ptr id 0 0) [.int .u64 z']]) (l2:=[.sl E.es x (G1.map cs) R]) op;have orw:Rw E cs _ h3 x G1 R:=oq.2;simp -dsimp only[zbo.k1,zlc (show a+k<4611686018427387904 by omega),orw.idx la,orw.idx li,B.ze];refine orw.ld S (getElem?_eq_getElem la) ?_;refine orw.ld S (getElem?_eq_getElem li) ?_;refine orw.swap S li la λh5 o5=>?_;simp -dsimp only[zg8 (show i<4611686018427387904 by omega),B.ze];have o6:=oq.1.join o5;exact hY (a+n / 4*2+2-(i+1)) _ _ (by omega) ⟨i+1,_,z',by omega,rfl,by omega,W1.trans (zfi li la (by omega) (by omega) (by omega) (by omega)),o6.perm (List.Perm.swap _ _ [])⟩
 refine B.zm (λhf=>?_) (λhf=>?_)
 ·rw[decide_eq_true_eq]at hf
  simp -dsimp only[zio hf (show ot<4611686018427387904 by omega),B.ze];exact fin (ot-n) (by omega)
 ·rw[decide_eq_false_iff_not]at hf
  exact fin ot (by omega)
end
section
variable{X:Type}{c:X->X->Int}{a b m A0 Z0:Nat}{G G':List X}
end
structure PdqI(C:zh)(E:z8)(C0:zh)(fL:Nat)(f1 f2 f3 f4 f5 f6 f7 f8 f9 g1 g2 g3 g4 g5 g6:Nat):Prop where
 eq:I5 (zbh.cps C E C0 fL) C f1
 part:I5 (zw.cps C E C0 fL) C f2
 pdq:I5 (zb4.cps C E C0 fL f1 f2 f3 f4 f5 f6 f7 f8 f9) C f3
 pis:I4 (zk.cps C E C0 fL) C f4
 rev:I4 (zf0.cps C E C0 fL) C f5
 piv:I4 (zb6.cps C E C0 fL g2 g3) C f6
 brk:I4 (zbo.cps C E C0 fL g5 g6) C f7
 heap:I4 (zea.cps C E C0 fL g4) C f8
 ins:I4 (zd0.cps C E C0 fL) C f9
 ord:O2I C E C0 fL g1
 med:MedI C E C0 fL g1 g2
 adj:AdjI C E C0 fL g2 g3
 sift:SiftI C E C0 fL g4
 next:NextI C0 g5
 pow:PowI C0 g6
section
variable{E:z8}{X:Type}{cs:X->List za}{v:X->za}{h0 h:zb}{x f:za}{G:List X}{R:List (List za)}{c:X->X->Int}{Q:zQ}{Y:zL}{f1 f2 f3 f4 f5 f6 f7 f8 f9 g1 g2 g3 g4 g5 g6:Nat}
theorem pdq_k1(J:PdqI C E C0 fL f1 f2 f3 f4 f5 f6 f7 f8 f9 g1 g2 g3 g4 g5 g6)(S:zds E cs v)(W:zo6 (zgi c))(hc:zeo C0 v c fL h0){A0 Z0 a b:Nat}{G0:List X}{lim:Int}{w1 w2:Bool}{pv:Nat}(p:PS E cs h0 x R c A0 Z0 G0 a b G h)(hl:G.length <= 100000000)(hBl:Z0 <= G.length)
  (h1:a <= pv) (h2:pv<b)
  (rcs:∀(a' b':Nat)(lim:Int)(h:zb)(G:List X)(Q:zQ),b'-a'<b-a->a' <= b'->b' <= G.length->G.length <= 100000000->Pre c a' b' G->Rw E cs h0 h x G R->(∀h' G',zc1 a' b' G G'->Srt c a' b' G'->Rw E cs h0 h' x G' R->Q (.tup []) h') ->
   C f3 [x,.int .i64 (a':Int),.int .i64 (b':Int),.int .i64 lim,f] h Q)
  (hY:Go1 E cs h0 x R c A0 Z0 G0 (b-a) Y):
  zb4.k1 C E C0 fL f1 f2 f3 f4 f5 f6 f7 f8 f9 Q Y x (.int .i64 (a:Int)) (.int .i64 (b:Int)) (.int .i64 lim) f (.bool w1) (.bool w2) (.int .i64 ((b-a:Nat):Int)) (.int .i64 (pv:Int)) h:=by
 have hA:=p.hA;have hB:=p.hB;have o:=p.o;have lp:pv<G.length:=by omega
 have part:zb4.k1 C E C0 fL f1 f2 f3 f4 f5 f6 f7 f8 f9 Q Y x (.int .i64 (a:Int)) (.int .i64 (b:Int)) (.int .i64 lim) f (.bool w1) (.bool w2) (.int .i64 ((b-a:Nat):Int)) (.int .i64 (pv:Int)) h =
  zb4.k1 C E C0 fL f1 f2 f3 f4 f5 f6 f7 f8 f9 Q Y x (.int .i64 (a:Int)) (.int .i64 (b:Int)) (.int .i64 lim) f (.bool w1) (.bool w2) (.int .i64 ((b-a:Nat):Int)) (.int .i64 (pv:Int)) h:=rfl
 clear part;have part:C f2 [x,.int .i64 (a:Int),.int .i64 (b:Int),.int .i64 (pv:Int),f] h (λv111 h=>
  B.pv (V.ext 0 v111) λv112=>
  B.pv (V.ext 1 v111) λv113=>
  B.pv (V.bin .sub v112 (.int .i64 (a:Int))) λv117=>
  B.pv (V.bin .sub (.int .i64 (b:Int)) v112) λv120=>
  B.pv (V.bin .quo (.int .i64 ((b-a:Nat):Int)) (.int .i64 8)) λv122=>
  B.pv (V.bin .lss v117 v120) λv125=>
  B.cond v125
  (B.pv (V.bin .geq v117 v122) λv128=>
  B.call C f3 [x,.int .i64 (a:Int),v112,.int .i64 lim,f] h λv134 h=>
  B.pv (V.bin .add v112 (.int .i64 1)) λv136=>
  Y [v136,.int .i64 (b:Int),.int .i64 lim,v128,v113] h)
  (B.pv (V.bin .geq v120 v122) λv139=>
  B.pv (V.bin .add v112 (.int .i64 1)) λv142=>
  B.call C f3 [x,v142,.int .i64 (b:Int),.int .i64 lim,f] h λv146 h=>
  Y [.int .i64 (a:Int),v112,.int .i64 lim,v139,v113] h)):=by
  refine J.part _ _ _ _ _ _ _ (zoz S hc o (by omega) h1 h2 (by omega) λh3 m G3 t pt W3 o3=>zba ?_);have p3:=p.zqk W3 o3;have l3:=W3.len;have m1:=pt.ge;have m2:=pt.lt;have q8:V.bin .quo (.int .i64 ((b-a:Nat):Int)) (.int .i64 8)=some (.int .i64 (((b-a) / 8:Nat):Int)):=by
   rw[V.zmy _ _ _ (by omega),show ((b-a:Nat):Int).tdiv 8=(((b-a) / 8:Nat):Int) from rfl,wrap_i64 (by omega) (by omega)]
  simp -dsimp only[V.zit,getElem?_cons_zero,getElem?_cons_succ,B.ze,zio m1 (show m<4611686018427387904 by omega),zio (show m <= b by omega) (show b<4611686018427387904 by omega),q8,zqg,zzb,zg8 (show m<4611686018427387904 by omega)];refine B.zm (λhd=>?_) (λhd=>?_)
  ·simp -dsimp only[zzb,zg8 (show m<4611686018427387904 by omega),B.ze]
   refine rcs a m lim _ G3 _ (by omega) m1 (by omega) (by omega) (p3.pre.sub (by omega)) o3 λh4 G4 W4 s4 o4=>?_;have pt4:=pt.left W W4;have cut4:=(p3.cut.within (W4.mono (Nat.le_refl _) (by omega)) hA hB).left W pt4 s4;simp -dsimp only[zg8 (show m<4611686018427387904 by omega),B.ze];exact hY (m+1) b lim _ _ G4 h4 (by omega) ⟨by omega,by omega,hB,p3.W.trans (W4.mono hA (by omega)),cut4,cut4.pre (by omega) hB,o4⟩
  ·have c3:Pre c (m+1) b G3:=λh0 i k1 k2 k3 k4=>pt.pair W (p:=m+1-1) (q:=i) (by omega) (by omega) k2 (by omega) (by omega) k4 k3
   simp -dsimp only[zzb,zg8 (show m<4611686018427387904 by omega),B.ze];refine rcs (m+1) b lim _ G3 _ (by omega) (by omega) (by omega) (by omega) c3 o3 λh4 G4 W4 s4 o4=>?_;have pt4:=pt.right W W4;have W4':zc1 a b G3 G4:=W4.mono (by omega) (Nat.le_refl _);have cut4:=(p3.cut.within W4' hA hB).right W pt4 s4;exact hY a m lim _ _ G4 h4 (by omega) ⟨hA,m1,by omega,p3.W.trans (W4.mono (by omega) hB),cut4,(p3.pre.within W4').sub (by omega),o4⟩
 simp -dsimp only[zb4.k1];have g0:V.bin .gtr (.int .i64 (a:Int)) (.int .i64 0)=some (.bool (decide (0<a))):=gtrN (b:=0);simp -dsimp only[g0,B.ze];by_cases ha:0<a
 ·have la:a-1<G.length:=by omega
  simp -dsimp only[ha,decide_true,B.zi1,B.zdr,zwz (show 1 <= a by omega) (show a<4611686018427387904 by omega),o.idx la,o.idx lp,B.ze];refine o.ld S (getElem?_eq_getElem la) ?_;refine o.ld S (getElem?_eq_getElem lp) ?_;refine hc.call _ _ _ _ o.le ?_;simp -dsimp only[ha,decide_true,B.zi1,B.zdr,V.zeh,V.zjt,B.zhx,B.ze];refine B.zm (λhe=>?_) (λhe=>part);have hd:¬ c G[a-1] G[pv]<0:=by simpa using he
  refine J.eq _ _ _ _ _ _ _ (zkx S hc o (by omega) h1 h2 (by omega) λh3 i j G3 pe hji W3 e3 o3=>zba ?_);have p3:=p.zqk W3 o3;have l3:=W3.len;have k1:=pe.hi;have k2:=pe.hij;have k3:=pe.hj
  have cut4:=p3.cut.equal W pe hji ha p3.pre (by omega) λq1 q2=>by
   rw[e3 q2 lp,W3.same (.inl (by omega)) q1 la];exact hd
  exact hY i b lim _ _ G3 h3 (by omega) ⟨by omega,by omega,hB,p3.W,cut4,cut4.pre (by omega) hB,o3⟩
 ·simp -dsimp only[ha,decide_false,B.zi1,B.zgd,B.ziv,B.cond_false]
  exact part
theorem pdq_spec(J:PdqI C E C0 fL f1 f2 f3 f4 f5 f6 f7 f8 f9 g1 g2 g3 g4 g5 g6)(S:zds E cs v)(W:zo6 (zgi c))(hc:zeo C0 v c fL h0):∀(n:Nat)(A0 Z0:Nat)(lim:Int)(h:zb)(G:List X)(Q:zQ),Z0-A0=n->A0 <= Z0->Z0 <= G.length->G.length <= 100000000->Pre c A0 Z0 G->Rw E cs h0 h x G R ->
  (∀h' G',zc1 A0 Z0 G G'->Srt c A0 Z0 G'->Rw E cs h0 h' x G' R->Q (.tup []) h')->zb4.cps C E C0 fL f1 f2 f3 f4 f5 f6 f7 f8 f9 x (.int .i64 (A0:Int)) (.int .i64 (Z0:Int)) (.int .i64 lim) f h Q:=by
 intro n
 induction n using Nat.strongRecOn with
 | ind n ih=>
 intro A0 Z0 lim h G0 Q hn hAB hBl hl hpre ho hq;simp -dsimp only[zb4.cps];refine zd.intro (λt vs hh=>∃(a b:Nat)(lim:Int)(w1 w2:Bool)(G:List X),t=b-a /\ vs=[.int .i64 (a:Int),.int .i64 (b:Int),.int .i64 lim,.bool w1,.bool w2] /\ PS E cs h0 x R c A0 Z0 G0 a b G hh) (Z0-A0) ?_
  ⟨A0,Z0,lim,true,true,G0,rfl,rfl,⟨Nat.le_refl _,hAB,Nat.le_refl _,zc1.refl _ _ _,λp q _ _ _ k=>by omega,hpre,ho⟩⟩
 rintro Y t vs hh ⟨a,b,lim,w1,w2,G,rfl,rfl,p⟩ hY';have hY:Go1 E cs h0 x R c A0 Z0 G0 (b-a) Y:=λa' b' lim' w1' w2' G' h' hlt p'=>hY' (b'-a') _ _ hlt ⟨a',b',lim',w1',w2',G',rfl,rfl,p'⟩;clear hY';have hA:=p.hA;have hab:=p.hab;have hB:=p.hB;have lG:=p.W.len;have rcs:∀(a' b':Nat)(lim:Int)(h:zb)(G:List X)(Q:zQ),b'-a'<b-a->a' <= b'->b' <= G.length->G.length <= 100000000->Pre c a' b' G->Rw E cs h0 h x G R->(∀h' G',zc1 a' b' G G'->Srt c a' b' G'->Rw E cs h0 h' x G' R->Q (.tup []) h') ->
   C f3 [x,.int .i64 (a':Int),.int .i64 (b':Int),.int .i64 lim,f] h Q:=λa' b' lim h G Q k1 k2 k3 k4 k5 k6 k7=>
  J.pdq _ _ _ _ _ _ _ (ih (b'-a') (by omega) a' b' lim h G _ rfl k2 k3 k4 k5 k6 λh' G' w s o=>zba (k7 h' G' w s o))
 have fin:∀{hh G G2},PS E cs h0 x R c A0 Z0 G0 a b G hh->∀h',zc1 a b G G2->Srt c a b G2->Rw E cs h0 h' x G2 R->Q (.tup []) h':=λp h' w s o=>by
  have p2:=p.zqk w o;exact hq h' _ p2.W (p2.cut.join s) o
 have e12:V.bin .leq (.int .i64 ((b-a:Nat):Int)) (.int .i64 12)=some (.bool (decide (b-a <= 12))):=leqN (b:=12);simp -dsimp only[zb4.l8,zio hab (show b<4611686018427387904 by omega),B.ze,zb4.k7,e12];refine B.zm (λhd=>?_) (λhd=>?_)
 ·exact J.ins _ _ _ _ _ _ (zp6 S W hc p.o (by omega) hab (by omega) λh' G' w s o=>zba (fin p h' w s o))
 rw[decide_eq_false_iff_not]at hd;simp -dsimp only[zb4.k6,V.zhh,B.ze];refine B.zm (λ_=>?_) (λ_=>?_)
 ·exact J.heap _ _ _ _ _ _ (zp7 J.sift S W hc p.o (by omega) (by omega) (by omega) λh' G' w s o=>zba (fin p h' w s o))
 have k4:∀{hh G}(lim:Int),PS E cs h0 x R c A0 Z0 G0 a b G hh->zb4.k4 C E C0 fL f1 f2 f3 f4 f5 f6 f7 f8 f9 Q Y x (.int .i64 (a:Int)) (.int .i64 (b:Int)) (.int .i64 lim) f (.bool w1) (.bool w2) (.int .i64 ((b-a:Nat):Int)) hh:=λ{hh G} lim p=>by
  have lG:=p.W.len;simp -dsimp only[zb4.k4];refine J.piv _ _ _ _ _ _ (zmw J.ord J.med J.adj S (zcw.zgz p.o 0 rfl) p.o.le hc (by omega) (by omega) (by omega) λm hint h2 m1 m2 hle=>zba ?_);have p2:PS E cs h0 x R c A0 Z0 G0 a b G h2:=⟨p.hA,p.hab,p.hB,p.W,p.cut,p.pre,zcw.grow p.o hle⟩;simp -dsimp only[V.zit,getElem?_cons_zero,getElem?_cons_succ,B.ze,zb4.k3,V.zhh];have k2:∀{hh G}(pv:Nat)(hint:Int),a <= pv->pv<b->PS E cs h0 x R c A0 Z0 G0 a b G hh->zb4.k2 C E C0 fL f1 f2 f3 f4 f5 f6 f7 f8 f9 Q Y x (.int .i64 (a:Int)) (.int .i64 (b:Int)) (.int .i64 lim) f (.bool w1) (.bool w2) (.int .i64 ((b-a:Nat):Int)) (.int .i64 (pv:Int)) (.int .i64 hint) hh:=λ{hh G} pv hint q1 q2 p=>by
   have lG:=p.W.len;have go:=pdq_k1 (Q:=Q) (lim:=lim) (w1:=w1) (w2:=w2) J S W hc p (by omega) (by omega) q1 q2 rcs hY;simp -dsimp only[zb4.k2];have two:B.cond (.bool true) (B.call C f4 [x,.int .i64 (a:Int),.int .i64 (b:Int),f] hh λv80 h=>
     B.cond v80 (Q (.tup []) h) (zb4.k1 C E C0 fL f1 f2 f3 f4 f5 f6 f7 f8 f9 Q Y x (.int .i64 (a:Int)) (.int .i64 (b:Int)) (.int .i64 lim) f (.bool w1) (.bool w2) (.int .i64 ((b-a:Nat):Int)) (.int .i64 (pv:Int)) h))
     (zb4.k1 C E C0 fL f1 f2 f3 f4 f5 f6 f7 f8 f9 Q Y x (.int .i64 (a:Int)) (.int .i64 (b:Int)) (.int .i64 lim) f (.bool w1) (.bool w2) (.int .i64 ((b-a:Nat):Int)) (.int .i64 (pv:Int)) hh):=by
    rw[B.cond_true];refine J.pis _ _ _ _ _ _ (zis S W hc p.o (by omega) (by omega) (by omega) p.pre λh' G' t w s o=>zba ?_);have p':=p.zqk w o;have lG':=p'.W.len;refine B.zm (λht=>fin p h' w (s ht) o) (λ_=>?_);exact pdq_k1 (Q:=Q) (lim:=lim) (w1:=w1) (w2:=w2) J S W hc p' (by omega) (by omega) q1 q2 rcs hY
   cases w1<;>cases w2
   ·simp -dsimp only[B.zi1,B.zgd,B.ziv,B.cond_false];exact go
   ·simp -dsimp only[B.zi1,B.zgd,B.ziv,B.cond_false];exact go
   ·simp -dsimp only[B.zi1,B.zdr,B.zgd,B.zhx,B.ziv,B.cond_false];exact go
   ·by_cases hh1:hint=1
    ·simp -dsimp only[B.zi1,B.zdr,V.zhh,hh1,decide_true,B.ze,B.zhx];exact two
    ·simp -dsimp only[B.zi1,B.zdr,V.zhh,hh1,decide_false,B.ze,B.zhx,B.cond_false];exact go
  refine B.zm (λ_=>?_) (λ_=>k2 m hint m1 m2 p2);refine J.rev _ _ _ _ _ _ (zmc S (by omega) p2.o (by omega) (by omega) λh3 G3 w3 o3=>zba ?_);simp -dsimp only[zwz (show 1 <= b by omega) (show b<4611686018427387904 by omega),zio m1 (show m<4611686018427387904 by omega),zio (show m-a <= b-1 by omega) (show b-1<4611686018427387904 by omega),B.ze];exact k2 (b-1-(m-a)) 1 (by omega) (by omega) (p2.zqk w3 o3)
 simp -dsimp only[zb4.k5,V.zjt,B.ze];refine B.zm (λ_=>?_) (λ_=>k4 lim p);refine J.brk _ _ _ _ _ _ (zlv J.next J.pow S p.o (by omega) hab (by omega) λh' G' w o=>zba ?_);simp -dsimp only[V.zi9,B.ze];exact k4 _ (p.zqk w o)
end
end Go.Ab.Ord
namespace Go.Ab
open List
def Cst(C:zh):zh:=λf args h Q=>C f args.dropLast h Q
abbrev J4(F:za->za->za->za->zb->(zQ)->Prop)(C:zh)(n:Nat):Prop:=∀(v0 v1 v2 v3:za)(h:zb)(Q:zQ),F v0 v1 v2 v3 h (dn Q)->C n [v0,v1,v2,v3] h Q
abbrev J3(F:za->za->za->zb->(zQ)->Prop)(C:zh)(n:Nat):Prop:=∀(v0 v1 v2:za)(h:zb)(Q:zQ),F v0 v1 v2 h (dn Q)->C n [v0,v1,v2] h Q
structure OrdI(C:zh)(E:z8)(fL e p q s r v b k n ad md o2 sd nx pw:Nat):Prop where
 eq:J4 (z7.cps C E fL) C e
 part:J4 (zl.cps C E fL) C p
 pdq:J4 (zbg.cps C E fL e p q s r v b k n) C q
 pis:J3 (zi.cps C E fL) C s
 rev:J3 (zd6.cps C E) C r
 piv:J3 (zbp.cps C E ad md) C v
 brk:J3 (z6.cps C E nx pw) C b
 heap:J3 (zcd.cps C E sd) C k
 ins:J3 (zcr.cps C E fL) C n
 adj:J3 (zhz.cps C E md) C ad
 med:∀(v0 v1 v2 v3 v4:za)(h:zb)(Q:zQ),zhw.cps C E o2 v0 v1 v2 v3 v4 h (dn Q)->C md [v0,v1,v2,v3,v4] h Q
 ord:J4 (zhv.cps C E fL) C o2
 sift:J4 (zcx.cps C E fL) C sd
 next:NextI C nx
 pow:PowI C pw
theorem e4{F:za->za->za->za->za->zb->(zQ)->Prop}{G:za->za->za->za->zb->(zQ)->Prop}{C:zh}{f:Nat}(i:J4 G C f)(e:∀v0 v1 v2 v3 v4 h Q,F v0 v1 v2 v3 v4 h Q=G v0 v1 v2 v3 h Q):I5 F (Cst C) f:=
 λv0 v1 v2 v3 v4 h Q x=>i v0 v1 v2 v3 h Q (by rw[<-e v0 v1 v2 v3 v4];exact x)
theorem e3{F:za->za->za->za->zb->(zQ)->Prop}{G:za->za->za->zb->(zQ)->Prop}{C:zh}{f:Nat}(i:J3 G C f)(e:∀v0 v1 v2 v3 h Q,F v0 v1 v2 v3 h Q=G v0 v1 v2 h Q):I4 F (Cst C) f:=
 λv0 v1 v2 v3 h Q x=>i v0 v1 v2 h Q (by rw[<-e v0 v1 v2 v3];exact x)
section
variable{C:zh}{E:z8}{fL e p q s r v b k n ad md o2 sd nx pw:Nat}
theorem t_eq:∀v0 v1 v2 v3 v4 h Q,zbh.cps (Cst C) E C fL v0 v1 v2 v3 v4 h Q=z7.cps C E fL v0 v1 v2 v3 h Q:=by intros;kernel_rfl
theorem t_part:∀v0 v1 v2 v3 v4 h Q,zw.cps (Cst C) E C fL v0 v1 v2 v3 v4 h Q=zl.cps C E fL v0 v1 v2 v3 h Q:=by intros;kernel_rfl
theorem t_pdq:∀v0 v1 v2 v3 v4 h Q,zb4.cps (Cst C) E C fL e p q s r v b k n v0 v1 v2 v3 v4 h Q=zbg.cps C E fL e p q s r v b k n v0 v1 v2 v3 h Q:=by intros;kernel_rfl
theorem t_pis:∀v0 v1 v2 v3 h Q,zk.cps (Cst C) E C fL v0 v1 v2 v3 h Q=zi.cps C E fL v0 v1 v2 h Q:=by intros;kernel_rfl
theorem t_rev:∀v0 v1 v2 v3 h Q,zf0.cps (Cst C) E C fL v0 v1 v2 v3 h Q=zd6.cps C E v0 v1 v2 h Q:=by intros;kernel_rfl
theorem t_piv:∀v0 v1 v2 v3 h Q,zb6.cps (Cst C) E C fL md ad v0 v1 v2 v3 h Q=zbp.cps C E ad md v0 v1 v2 h Q:=by intros;kernel_rfl
theorem t_brk:∀v0 v1 v2 v3 h Q,zbo.cps (Cst C) E C fL nx pw v0 v1 v2 v3 h Q=z6.cps C E nx pw v0 v1 v2 h Q:=by intros;kernel_rfl
theorem t_heap:∀v0 v1 v2 v3 h Q,zea.cps (Cst C) E C fL sd v0 v1 v2 v3 h Q=zcd.cps C E sd v0 v1 v2 h Q:=by intros;kernel_rfl
theorem t_ins:∀v0 v1 v2 v3 h Q,zd0.cps (Cst C) E C fL v0 v1 v2 v3 h Q=zcr.cps C E fL v0 v1 v2 h Q:=by intros;kernel_rfl
theorem t_adj:∀v0 v1 v2 v3 h Q,zgo.cps (Cst C) E C fL md v0 v1 v2 v3 h Q=zhz.cps C E md v0 v1 v2 h Q:=by intros;kernel_rfl
theorem t_med:∀v0 v1 v2 v3 v4 v5 h Q,zir.cps (Cst C) E C fL o2 v0 v1 v2 v3 v4 v5 h Q=zhw.cps C E o2 v0 v1 v2 v3 v4 h Q:=by intros;kernel_rfl
theorem t_ord:∀v0 v1 v2 v3 v4 h Q,ziq.cps (Cst C) E C fL v0 v1 v2 v3 v4 h Q=zhv.cps C E fL v0 v1 v2 v3 h Q:=by intros;kernel_rfl
theorem t_sift:∀v0 v1 v2 v3 v4 h Q,zd9.cps (Cst C) E C fL v0 v1 v2 v3 v4 h Q=zcx.cps C E fL v0 v1 v2 v3 h Q:=by intros;kernel_rfl
theorem OrdI.toT(J:OrdI C E fL e p q s r v b k n ad md o2 sd nx pw):Ord.PdqI (Cst C) E C fL e p q s r v b k n o2 md ad sd nx pw where
 eq:=e4 J.eq t_eq
 part:=e4 J.part t_part
 pdq:=e4 J.pdq t_pdq
 pis:=e3 J.pis t_pis
 rev:=e3 J.rev t_rev
 piv:=e3 J.piv t_piv
 brk:=e3 J.brk t_brk
 heap:=e3 J.heap t_heap
 ins:=e3 J.ins t_ins
 ord:=e4 J.ord t_ord
 med:=λv0 v1 v2 v3 v4 v5 h Q x=>J.med v0 v1 v2 v3 v4 h Q (by rw[<-t_med (C:=C) (fL:=fL) v0 v1 v2 v3 v4 v5];exact x)
 adj:=e3 J.adj t_adj
 sift:=e4 J.sift t_sift
 next:=J.next
 pow:=J.pow
theorem Sort_spec{X:Type}{cs:X->List za}{v':X->za}{h0 h:zb}{x:za}{G:List X}{R:List (List za)}{c:X->X->Int}{Q:zQ}{fl:Nat}(J:OrdI C E fL e p q s r v b k n ad md o2 sd nx pw)(hlen:LenI C fl)(S:zds E cs v')(W:zo6 (zgi c))
  (hc:Ord.zeo C v' c fL h0) (hl:G.length <= 100000000) (ho:Rw E cs h0 h x G R) (hq:∀h' G',G'.Perm G->G'.Pairwise (λs t=>¬ c t s<0)->Rw E cs h0 h' x G' R->Q (.tup []) h'):zk7.cps C E fl q x h Q:=by
 simp -dsimp only[zk7.cps,zk7.k1,ho.lenE,toUN (show G.length<18446744073709551616 by omega),B.ze];refine hlen _ _ _ hl λr hr _=>?_;refine J.pdq _ _ _ _ _ _ ?_;rw[<-t_pdq (C:=C) _ _ _ _ .nilf];refine Ord.pdq_spec J.toT S W hc _ 0 G.length r h G _ rfl (by omega) (Nat.le_refl _) hl (λh=>by omega) ho λh' G' w s o=>zba ?_;refine hq h' G' w.perm ?_ o;rw[pairwise_iff_getElem];intro i j hi hj hij;have:=w.len;exact s i j (by omega) hij (by omega) hi hj
end
variable{C:zh}
variable{C:zh}{N:zN}
def lotE:z8:=ztv 6 56 [.int .i64 0,.str [],.int .i64 0,.int .i64 0,.int .i64 0,.bool false] 0 []
theorem lotS:zds lotE Lot.cs (λl=> .agg l.cs):=seqF (by omega) (by omega) rfl λ_=>rfl
theorem zzj{E:z8}{X:Type}{cs:X->List za}{v:X->za}(S:zds E cs v){x:za}{L:List X}{R:List (List za)}{h:zb}{Q:zQ}(hx:SlX h E.es x (L.map cs) R)(hlen:L.length <= 100000000)
  (hq:∀x' h',Rw E cs h h' x' L []->Q x' h'):zpt.cps C E x h Q:=by
 have cp:B.zif h E.es E.bytes .sz x (λv7 h=>Q v7 h):=by
  have hm:=Nat.mul_le_mul hlen S.small;refine zcw.zif ((zcw.start h).sz E.es) 0 rfl hx S.pos (by simp;omega) (by simp[maxLen];omega) λx' h' h1 _=>hq x' h' ?_;simpa[Rw]using h1
 rcases hx.2 with⟨e1,e2,rfl|rfl⟩|⟨id,g,off,cp',b,hi,rfl,h3⟩
 ·simp -dsimp[V.eqSl]
  refine hq _ _ ?_;unfold Rw;rw[e1];exact(zcw.start h).zbj E.es
 ·simp -dsimp[V.eqSl]
  exact cp
 ·simp -dsimp[V.eqSl]
  rw[length_map]at cp;exact cp
variable{C:zh}{N:zN}
def PredSpec(C:zh)(f:za)(p:znh->Bool)(h:zb):Prop:=∀(l:znh)(h':zb)(K:zQ),h.le h'->K (.bool (p l)) h'->B.zi0 h' C f [.agg l.cs] K
def idxOf(p:znh->Bool)(L:List znh):Int:=match L.findIdx? p with|some i=>(i:Int)|none=> -1
def z9.Spec(C:zh)(N:zN):Prop:=∀(x f:za)(p:znh->Bool)(L:List znh)(R:List (List za))(h:zb)(Q:zQ),SlX h 8 x (L.map znh.cs) R->L.length <= 100000000->PredSpec C f p h->Q (.int .i64 (idxOf p L)) h->C (N 206) [x,f] h Q
theorem zvl{α:Type}{p:α->Bool}{L:List α}{k:Nat}(hk:k<L.length)(h:∀i,i<k->∀a,L[i]?=some a->p a=false)(hp:p L[k]=true):L.findIdx? p=some k:=by
 rw[findIdx?_eq_some_iff_getElem];exact⟨hk,hp,λj hj=>by simp[h j hj _ (getElem?_eq_getElem (by omega))]⟩
theorem z9.spec(i:z9.Imp C N):z9.Spec C N:=by
 intro x f p L R h Q hx hlen hf hq;refine i _ _ _ _ ?_;have e1:=hx.zbi;rw[length_map]at e1;simp -dsimp only[z9.cps,zcq.cps,e1,B.ze];refine zd.intro (λt vs hh=>hh=h /\ ∃k:Nat,k+t=L.length /\ vs=[.int .i64 (k:Int)] /\ ∀i,i<k->∀a,L[i]?=some a->p a=false) L.length ?_ ⟨rfl,0,by omega,rfl,λi hi=>by omega⟩;rintro Y t vs h ⟨rfl,k,ht,rfl,hno⟩ hY;simp -dsimp only[zcq.l2,zcq.k1,zqg,B.ze];refine B.zm (λhb=>?_) (λhb=>?_)<;>simp only[decide_eq_true_eq,decide_eq_false_iff_not]at hb
 ·have hg:(L.map znh.cs)[k]?=some (L[k]).cs:=by rw[getElem?_map,getElem?_eq_getElem hb];rfl
  have hidx:V.zb3 8 x (.int .i64 (k:Int))=some (elp 8 x k 0):=hx.zjp (by simpa using hb);simp -dsimp only[ztv,hidx,B.ze,B.zn5,hx.elem hg];refine hf _ _ _ (zb.le_refl _) ?_;refine B.zm (λhc=>?_) (λhc=>?_)
  ·have:idxOf p L=(k:Int):=by rw[idxOf,zvl hb hno hc]
   rw[this]at hq;exact zba hq
  ·simp -dsimp only[zg8 (show k<4611686018427387904 by omega),B.ze]
   refine hY (L.length-(k+1)) _ _ (by omega) ⟨rfl,k+1,by omega,rfl,λi hi a ha=>?_⟩;by_cases e:i=k
   ·subst e;rw[getElem?_eq_getElem hb]at ha;cases ha;exact hc
   ·exact hno i (by omega) a ha
 ·have:idxOf p L= -1:=by
   have:L.findIdx? p=none:=by
    rw[findIdx?_eq_none_iff];intro a ha;obtain⟨j,hj,rfl⟩:=getElem_of_mem ha;exact hno j (by omega) _ (getElem?_eq_getElem hj)
   rw[idxOf,this]
  rw[this]at hq;exact zba hq
theorem zcw.cutTo{h0 h:zb}{es:Nat}{x:za}{L R:List (List za)}(ho:zcw h0 h [.sl es x L R])(hes:0<es){k:Nat}(hk:k <= L.length):∃y,V.zhj es x none (some (.int .i64 (k:Int)))=some y /\ zcw h0 h [.sl es y (L.take k) (L.drop k++R)]:=by
 obtain⟨y,h1,h2,h3⟩:=(ho.zgz 0 rfl).slice hes (a:=none) (b:=some (.int .i64 (k:Int))) (lo:=0) (hi:=k) (.inl ⟨rfl,rfl⟩) (.inr ⟨_,rfl⟩) (by omega) (by omega);rw[drop_zero,take_append_of_le_length hk,drop_append_of_le_length hk]at h2;refine⟨y,h1,?_⟩;have:=ho.zqk (h':=h) 0 rfl (o':= .sl es y (L.take k) (L.drop k++R)) h2 (λid b hf hb=>ho.zqs 0 rfl id b (by rw[show Ob.zhy (.sl es x L R)=zhy x from rfl,<-h3];exact hf) hb) (λ_ _ h _=>h) (.inl (by rw[show Ob.zhy (.sl es y _ _)=zhy y from rfl,h3];rfl));simpa using this
variable{C:zh}{N:zN}
section
variable{α:Type}[DecidableEq α]
def zg7:List α->List α|[]=>[]|[a]=>[a]|a::b::r=>if a=b then zg7 (b::r) else a::zg7 (b::r)
theorem zum(a b:α):∀P:List α,zg7 (P++[a,b])=if a=b then zg7 (P++[a]) else zg7 (P++[a])++[b]
 | []=>by simp only[nil_append,zg7];split<;>simp_all
 | [p]=>by
  simp only[cons_append,nil_append,zg7]
  split<;>split<;>simp_all
 | p::q::P=>by
  have ih:=zum a b (q::P)
  simp only[cons_append]at ih ⊢
  simp only[zg7]
  rw[ih]
  split<;>split<;>simp_all
theorem zul{L:List α}{k:Nat}(h1:0<k)(h2:k<L.length):zg7 (L.take (k+1))=if L[k]=L[k-1] then zg7 (L.take k) else zg7 (L.take k)++[L[k]]:=by
 have e1:L.take (k+1)=L.take k++[L[k]]:=by rw[take_add_one,getElem?_eq_getElem h2];rfl
 have e2:L.take k=L.take (k-1)++[L[k-1]]:=by
  conv=>lhs;rw[show k=(k-1)+1 by omega]
  rw[take_add_one,getElem?_eq_getElem (by omega)];rfl
 have:=zum L[k-1] L[k] (L.take (k-1));rw[e1,e2,append_assoc];simp only[cons_append,nil_append];rw[this];simp only[eq_comm]
theorem zv6:∀L:List α,(zg7 L).length <= L.length
 | []=>Nat.le_refl _
 | [a]=>Nat.le_refl _
 | a::b::r=>by
  have:=zv6 (b::r)
  simp only[zg7]
  split<;>simp_all<;>omega
theorem compactG_spec{bytes f:Nat}{z:za}{v:α->za}(hb:bytes <= 1000)(hv:∀t,(v t).zbm=true)(heq:∀a b,V.bin .eql (v a) (v b)=some (.bool (decide (a=b))))(hne':∀a b,V.bin .neq (v a) (v b)=some (.bool (!decide (a=b))))
  {h0 h:zb} {x:za} {L:List α} {R:List (List za)} {Q:zQ} (ho:zcw h0 h [.sl 1 x (L.map λa=>[v a]) R]) (hlen:L.length <= 100000000) (hq:∀y h' R',zcw h0 h' [.sl 1 y ((zg7 L).map λa=>[v a]) R']->Q y h'):zc9.cps C (zc7 bytes z f) x h Q:=by
 have S:zds (zc7 bytes z f) (λa:α=>[v a]) v:=seqS hb hv;have o:Rw (zc7 bytes z f) (λa:α=>[v a]) h0 h x L R:=ho;have l2:V.bin .lss (.int .i64 (L.length:Int)) (.int .i64 2)=some (.bool (decide (L.length<2))):=zqg (b:=2);simp -dsimp only[zc9.cps,zc9.k5,o.lenE,l2,B.ze];refine B.zm (λhd=>?_) (λhd=>?_)
 ·rw[decide_eq_true_eq]at hd
  have:zg7 L=L:=by
   match L,hd with
   | [],_=>rfl
   | [a],_=>rfl
  exact hq x h R (by rw[this];exact ho)
 rw[decide_eq_false_iff_not]at hd;refine zd.intro (λt vs hh=>hh=h /\ ∃k:Nat,k+t=L.length /\ vs=[.int .i64 (k:Int)] /\ 0<k /\ zg7 (L.take k)=L.take k) (L.length-1) ?_ ⟨rfl,1,by omega,rfl,by omega,?_⟩
 rotate_left
 ·cases L with
  | nil=>rfl
  | cons a r=>rfl
 rintro Y t vs hh ⟨rfl,k,hkt,rfl,hk0,hck⟩ hY;simp -dsimp only[zc9.l4,o.lenE,zqg,B.ze];refine B.zm (λhk=>?_) (λhk=>?_)
 rotate_left
 ·rw[decide_eq_false_iff_not]at hk
  have:k=L.length:=by omega
  rw[this,take_length]at hck;exact hq x hh R (by rw[hck];exact ho)
 rw[decide_eq_true_eq]at hk;have e1:V.bin .sub (.int .i64 (k:Int)) (.int .i64 1)=some (.int .i64 ((k-1:Nat):Int)):=zio (b:=1) (by omega) (by omega);have ik:=o.idx hk;have ik1:=o.idx (show k-1<L.length by omega);simp -dsimp only[zc9.k3,ik,B.ze];refine o.ld S (getElem?_eq_getElem hk) ?_;simp -dsimp only[e1,ik1,B.ze];refine o.ld S (getElem?_eq_getElem (show k-1<L.length by omega)) ?_;simp -dsimp only[heq,B.ze];have hct:=zul hk0 hk;refine B.zm (λhe=>?_) (λhe=>?_)
 rotate_left
 ·rw[decide_eq_false_iff_not]at he
  rw[if_neg he,hck]at hct;simp -dsimp only[zg8 (show k<4611686018427387904 by omega),B.ze];refine hY (t-1) _ _ (by omega) ⟨rfl,k+1,by omega,rfl,by omega,?_⟩;rw[hct,take_add_one,getElem?_eq_getElem hk];rfl
 rw[decide_eq_true_eq]at he;rw[if_pos he,hck]at hct;have cut:∀{h':zb}{G:List α}{R':List (List za)},Rw (zc7 bytes z f) (λa=>[v a]) h0 h' x G R'->G.length=L.length->∃y R2,V.zhj 1 x (some (.int .i64 (k:Int))) none=some y /\ SlX h' 1 y ((G.drop k).map (λa=>[v a])) R2:=λ{h' G R'} o' hG=>by
  obtain⟨y,R2,h1,h2,_⟩:=(zcw.zgz o' 0 rfl).sliceIn (Nat.one_pos) (a:=some (.int .i64 (k:Int))) (b:=none) (lo:=k) (hi:=G.length) (.inr ⟨_,rfl⟩) (.inl ⟨rfl,rfl⟩) (by omega) (Nat.le_refl _);rw[take_length]at h2;exact⟨y,R2,h1,h2⟩
 obtain⟨s2,_,hs2,_⟩:=cut o rfl;have cut2:∀{h':zb}{G:List α},Rw (zc7 bytes z f) (λa=>[v a]) h0 h' x G R->G.length=L.length->∃R2,SlX h' 1 s2 ((G.drop k).map (λa=>[v a])) R2:=λ{h' G} o' hG=>by
  obtain⟨y,R2,e1,e2⟩:=cut o' hG;rw[hs2]at e1;cases e1;exact⟨R2,e2⟩
 have hs2':V.zhj (zc7 bytes z f).es x (some (.int .i64 (k:Int))) none=some s2:=hs2;simp -dsimp only[hs2',B.ze];refine zd.intro (λt vs h2=>∃(i j:Nat)(G:List α),k+j+t=L.length /\ vs=[.int .i64 (i:Int),.int .i64 (j:Int)] /\ k <= i /\ i+1 <= k+j /\ 0<j /\ G.length=L.length /\ G.take i=zg7 (L.take (k+j)) /\ (∀q,k+j <= q+1->G[q]?=L[q]?) /\ Rw (zc7 bytes z f) (λa=>[v a]) h0 h2 x G R) (L.length-(k+1)) ?_
  ⟨k,1,L,by omega,rfl,Nat.le_refl _,Nat.le_refl _,Nat.one_pos,rfl,hct.symm,λ_ _=>rfl,o⟩
 rintro Z t2 vs h2 ⟨i,j,G,hjt,rfl,hki,hij,hj0,hGl,hGt,hGq,o2⟩ hZ;obtain⟨R2,x2⟩:=cut2 o2 hGl;have ln2:V.zbi s2=some (.int .i64 ((L.length-k:Nat):Int)):=by have:=x2.zbi;simpa[hGl]using this
 simp -dsimp only[zc9.l2,zc9.k1,ln2,zqg,B.ze];refine B.zm (λhlt=>?_) (λhlt=>?_)
 ·rw[decide_eq_true_eq]at hlt
  have dl:∀q,q<L.length-k->(G.drop k)[q]?=G[k+q]? :=λq _=>by rw[getElem?_drop]
  have lj:j<((G.drop k).map (λa=>[v a])).length:=by simp;omega
  have lj1:j-1<((G.drop k).map (λa=>[v a])).length:=by simp;omega
  have gj:((G.drop k).map (λa=>[v a]))[j]?=some ((λa=>[v a]) L[k+j]):=by
   rw[getElem?_map,dl j hlt,hGq (k+j) (by omega),getElem?_eq_getElem (by omega)];rfl
  have gj1:((G.drop k).map (λa=>[v a]))[j-1]?=some ((λa=>[v a]) L[k+j-1]):=by
   rw[getElem?_map,dl (j-1) (by omega),show k+(j-1)=k+j-1 by omega,hGq (k+j-1) (by omega),getElem?_eq_getElem (by omega)];rfl
  have ij:V.zb3 (zc7 bytes z f).es s2 (.int .i64 (j:Int))=some (elp 1 s2 j 0):=x2.zjp lj;have ij1:V.zb3 (zc7 bytes z f).es s2 (.int .i64 ((j-1:Nat):Int))=some (elp 1 s2 (j-1) 0):=x2.zjp lj1;have e2:V.bin .sub (.int .i64 (j:Int)) (.int .i64 1)=some (.int .i64 ((j-1:Nat):Int)):=zio (b:=1) (by omega) (by omega);simp -dsimp only[ij,B.ze];refine S.ld x2 gj ?_;simp -dsimp only[e2,ij1,B.ze];refine S.ld x2 gj1 ?_;simp -dsimp only[hne',B.ze];have hst:=zul (L:=L) (k:=k+j) (by omega) (by omega);refine B.zm (λhne=>?_) (λhne=>?_)
  ·have hne:L[k+j]≠L[k+j-1]:=by simpa using hne
   rw[if_neg hne]at hst;simp -dsimp only[ij,B.ze];refine S.ld x2 gj ?_;simp -dsimp only[o2.idx (show i<G.length by omega),B.ze];refine o2.st S (t:=L[k+j]) (by omega) λh3 o3=>?_;simp -dsimp only[zg8 (show i<4611686018427387904 by omega),zg8 (show j<4611686018427387904 by omega),B.ze];refine hZ (t2-1) _ _ (by omega) ⟨i+1,j+1,_,by omega,rfl,by omega,by omega,by omega,by simpa using hGl,?_,λq hq'=>?_,o3⟩
   ·rw[<-Nat.add_assoc,hst,<-hGt,take_add_one]
    rw[getElem?_set_self (by omega),take_set_of_le (Nat.le_refl _)];rfl
   ·rw[getElem?_set_ne (by omega)];exact hGq q (by omega)
  ·have hne:L[k+j]=L[k+j-1]:=by simpa using hne
   rw[if_pos hne]at hst;simp -dsimp only[zg8 (show j<4611686018427387904 by omega),B.ze];exact hZ (t2-1) _ _ (by omega) ⟨i,j+1,G,by omega,rfl,hki,by omega,by omega,hGl,by rw[<-Nat.add_assoc,hst];exact hGt,λq hq'=>hGq q (by omega),o2⟩
 ·rw[decide_eq_false_iff_not]at hlt
  have:k+j=L.length:=by omega
  rw[this,take_length]at hGt
  obtain⟨y,y1,y2⟩:=zcw.clrTail (z:=[z]) (lo:=i) (K:=λv h=>B.pv (V.zhj 1 x none (some (.int .i64 (i:Int)))) λv59=>Q v59 h) o2 0 rfl rfl (by simp;omega) λh3 o3 _=>by
   have o3:zcw h0 h3 [.sl 1 x ((G.map (λa=>[v a])).take i++List.replicate ((G.map (λa=>[v a])).length-i) [z]) R]:=o3;obtain⟨z',z1,z2⟩:=o3.cutTo Nat.one_pos (k:=i) (by simp;omega);simp -dsimp only[z1,B.ze];have e3:((G.map (λa=>[v a])).take i++List.replicate ((G.map (λa=>[v a])).length-i) [z]).take i=(zg7 L).map (λa=>[v a]):=by
    rw[take_append_of_le_length (by simp;omega),take_take,Nat.min_self,<-map_take,hGt]
   rw[e3]at z2;exact hq z' h3 _ z2
  have y1':V.zhj (zc7 bytes z f).es x (some (.int .i64 (i:Int))) none=some y:=y1;simp -dsimp only[y1',B.ze];exact y2
end
variable{C:zh}{N:zN}
theorem V.bin_slss(a b:List UInt8):V.bin .lss (.str a) (.str b)=some (.bool (zij a b)):=rfl
theorem weakB:zo6 (zgi cmpB):=by
 constructor<;>simp only[zgi,decide_eq_true_eq,decide_eq_false_iff_not,zuo]
 ·intro a b h;rw[zpf h];simp
 ·intro a b c h1 h2 h3
  have h1:zij a b=false:=by simpa using h1
  have h2:zij b c=false:=by simpa using h2
  by_cases e:a=b
  ·subst e;rw[h2]at h3;cases h3
  ·have:=zmh (zop h1 e) h3
   rw[h2]at this;cases this
def zei.Spec(C:zh)(N:zN):Prop:=∀(a:List UInt8)(h:zb)(Q:zQ),Q (.bool false) h->C (N 389) [.str a] h Q
theorem zei.spec(i:zei.Imp C N):zei.Spec C N:=by
 intro a h Q hq;apply i;simp -dsimp;exact zba hq
def zen.Spec(C:zh)(N:zN):Prop:=∀(a b:List UInt8)(h:zb)(Q:zQ),Q (.bool (zij a b)) h->C (N 377) [.str a,.str b] h Q
theorem zen.spec(i:zen.Imp C N)(s1:zei.Spec C N):zen.Spec C N:=by
 intro a b h Q hq;apply i;simp -dsimp;refine s1 _ _ _ ?_;simp -dsimp[V.bin_slss];exact zba hq
def SortedB(L:List (List UInt8)):Prop:=L.Pairwise λs t=>zij t s=false
def zb7.Spec(C:zh)(N:zN):Prop:=∀(h0 h:zb)(x:za)(L:List (List UInt8))(R:List (List za))(Q:zQ),zcw h0 h [.sl 1 x (L.map tc) R]->L.length <= 100000000->(∀h' (L':List (List UInt8)),L'.Perm L->SortedB L'->zcw h0 h' [.sl 1 x (L'.map tc) R]->Q (.tup []) h')->C (N 364) [x] h Q
theorem seqT:zds (zc7 16 (.str []) 0) tc (λa:List UInt8=>za.str a):=seqS (by omega) λ_=>rfl
theorem zb7.spec(i:zb7.Imp C N)(j1:zcm.Imp C N)(j2:zdd.Imp C N)(j3:zdp.Imp C N)(j4:zb9.Imp C N)
  (j5:zcy.Imp C N) (j6:zc4.Imp C N) (j7:zcu.Imp C N) (j8:zdk.Imp C N) (j9:zcs.Imp C N) (k1:zco.Imp C N)
  (k2:zdy.Imp C N) (k3:zdw.Imp C N) (k4:zdi.Imp C N) (k5:NextI C (N 298)) (k6:PowI C (N 299)) (hl:LenI C (N 287)) (s1:zen.Spec C N):zb7.Spec C N:=by
 intro h0 h x L R Q ho hlen hq;have J:OrdI C (zc7 16 (.str []) 0) (N 377) (N 378) (N 379) (N 375) (N 380) (N 381) (N 382) (N 383) (N 384) (N 385) (N 387) (N 388) (N 390) (N 386) (N 298) (N 299):=⟨j1,j2,j3,j4,j5,j6,j7,j8,j9,k1,k2,k3,k4,k5,k6⟩;have hc:Ord.zeo C (λa:List UInt8=>za.str a) cmpB (N 377) h0:=⟨λh' a b K _ hk=>s1 _ _ _ _ (by
  rw[show zij a b=decide (cmpB a b<0) by rw[Bool.eq_iff_iff,decide_eq_true_eq];exact zuo.symm];exact hk)⟩
 refine i _ _ _ (Sort_spec J hl seqT weakB hc hlen (show Rw _ _ _ _ _ _ _ from ho) λh' G' hp hs o'=>zba (hq h' G' hp (hs.imp λ{a b} hab=>?_) o'));rw[zuo]at hab;simpa using hab
def zbx.Spec(C:zh)(N:zN):Prop:=∀(h0 h:zb)(x:za)(L:List (List UInt8))(R:List (List za))(Q:zQ),zcw h0 h [.sl 1 x (L.map tc) R]->L.length <= 100000000->(∀y h' R',zcw h0 h' [.sl 1 y ((zg7 L).map tc) R']->Q y h')->C (N 365) [x] h Q
theorem zbx.spec(i:zbx.Imp C N):zbx.Spec C N:=λh0 h x L R Q ho hlen hq=>i x h Q (compactG_spec (v:=λa:List UInt8=>za.str a) (by omega) (λ_=>rfl) V.zrz V.bin_sneq ho hlen λy h' R' o=>zba (hq y h' R' o))
theorem repL_one:∀(n:Nat)(v:za),zfs n [v]=List.replicate n v|0,_=>rfl|n+1,v=>(congrArg (v:: ·) (repL_one n v)).trans rfl
def zch.Spec(C:zh)(N:zN):Prop:=∀(n:Nat)(h:zb)(Q:zQ),n <= 100000000->(∀x h' R,zcw h h' [.sl 1 x [] R]->Q x h')->C (N 376) [.zbj,.int .i64 (n:Int)] h Q
theorem zch.spec(i:zch.Imp C N):zch.Spec C N:=by
 intro n h Q hn hq;apply i;have e0:V.bin .lss (.int .i64 (n:Int)) (.int .i64 0)=some (.bool (decide (n<0))):=zqg (b:=0);have e1:V.bin .sub (.int .i64 0) (.int .i64 0)=some (.int .i64 0):=rfl;have e2:V.bin .sub (.int .i64 (n:Int)) (.int .i64 0)=some (.int .i64 (n:Int)):=zio (b:=0) (by omega) (by omega);simp -dsimp only[zch.cps,zjw.cps,zjw.k1,e0,e1,e2,V.capSl,V.zbi,V.bin_gtr,B.ze,Nat.not_lt_zero,decide_false,B.cond_false];refine B.zm (λhb=>?_) (λhb=>?_)
 ·have hb:0<n:=by simpa using hb
  have e3:V.zhj (zc7 16 (.str []) 0).es .zbj none (some (.int .i64 0))=some .zbj:=rfl;have ec:V.capSl .zbj=some (.int .i64 0):=rfl;have el:V.zbi .zbj=some (.int .i64 0):=rfl;simp -dsimp only[ec,e3,B.ze];refine⟨⟨rfl,by omega,by simp[zc7];omega,by simp[maxLen];omega⟩,λid hid=>?_⟩;have hr:zfs (n:Int).toNat (zc7 16 (.str []) 0).z=List.replicate n (.str []):=by rw[Int.toNat_natCast];exact repL_one n _
  rw[hr];have o:=(zcw.start h).zpz (id:=id) (n:=n) (cp:=n) (es:=1) (cs:=List.replicate n (.str [])) (L:=List.replicate n [.str []]) (R:=[]) hid (by simp) (by simp) (by simp) (by simp);obtain⟨y,e4,e5⟩:=zcw.cutTo (x:= .sl id 0 0 n 1 n) o Nat.one_pos (k:=0) (by omega);rw[Int.toNat_natCast];simp -dsimp only[el,B.ze];have e4':V.zhj (zc7 16 (.str []) 0).es (.sl id 0 0 n (zc7 16 (.str []) 0).es n) none (some (.int .i64 0))=some y:=e4;simp -dsimp only[e4',B.ze];exact zba (hq y _ _ e5)
 ·exact zba (hq _ _ _ ((zcw.start h).zbj 1))
theorem zwy{α:Type}{L:List (List α)}{k:Nat}(hk:k<L.length):((L.take (k+1)).flatten).length=(L.take k).flatten.length+L[k].length:=by
 rw[take_add_one,getElem?_eq_getElem hk];simp only[Option.toList_some,flatten_append,length_append,flatten_singleton]
theorem sumLen_le{α:Type}(L:List (List α))(k:Nat):((L.take k).flatten).length <= L.flatten.length:=by
 conv=>rhs;rw[<-take_append_drop k L]
 simp only[flatten_append,length_append];omega
def zp.Spec(C:zh)(N:zN):Prop:=∀(x:za)(xs:List za)(L:List (List (List UInt8)))(R:List (List za))(h:zb)(Q:zQ),SlX h 1 x (xs.map λy=>[y]) R->xs.length=L.length->(∀(i:Nat)(y:za)(l:List (List UInt8)),xs[i]?=some y->L[i]?=some l->∃R,SlX h 1 y (l.map tc) R)->L.length <= 1000->L.flatten.length <= 100000000->(∀x' h' R',zcw h h' [.sl 1 x' (L.flatten.map tc) R']->Q x' h')->C (N 373) [x] h Q
theorem zp.spec(i:zp.Imp C N)(s1:zch.Spec C N):zp.Spec C N:=by
 intro x xs L R h Q hx hxl hin hl1 hl2 hq;apply i;have hlen:=hx.zbi;rw[length_map,hxl]at hlen;simp -dsimp only[zp.cps,hlen,B.ze];have cell:∀{hh:zb}(hle:h.le hh){k:Nat}(hk:k<L.length){K:za->Prop},(∀y R2,SlX hh 1 y (L[k].map tc) R2->K y)->B.pv (V.zb3 1 x (.int .i64 (k:Int))) (λv=>B.ld hh v K):=λ{hh} hle {k} hk {K} hK=>by
  have hg:(xs.map λy=>[y])[k]?=some [xs[k]'(by omega)]:=by rw[getElem?_map,getElem?_eq_getElem (by omega)];rfl
  have hidx:V.zb3 1 x (.int .i64 (k:Int))=some (elp 1 x k 0):=hx.zjp (by simp;omega);rw[hidx,B.ze];rw[B.zha,(hx.mono hle).cell hg,B.ze];obtain⟨R2,h2⟩:=hin k _ _ (getElem?_eq_getElem (by omega)) (getElem?_eq_getElem hk);exact hK _ _ (h2.mono hle)
 refine zd.intro (λt vs hh=>hh=h /\ ∃k:Nat,k+t=L.length /\ vs=[.int .i64 ((L.take k).flatten.length:Int),.int .i64 (k:Int)]) L.length ?_ ⟨rfl,0,by omega,rfl⟩;rintro Y t vs hh ⟨rfl,k,ht,rfl⟩ hY;simp -dsimp only[zp.l4,zp.k3,zqg,B.ze];refine B.zm (λhb=>?_) (λhb=>?_)
 ·rw[decide_eq_true_eq]at hb
  have hs:=zwy hb;have hle:=sumLen_le L (k+1);refine cell (zb.le_refl _) hb λy R2 hy=>?_;have e1:=hy.zbi;rw[length_map]at e1;have e2:V.bin .lss (.int .i64 (((L.take k).flatten.length+L[k].length:Nat):Int)) (.int .i64 0)=some (.bool false):=by
   exact(zqg (b:=0)).trans (by simp)
  simp -dsimp only[e1,zlc (a:=(L.take k).flatten.length) (b:=L[k].length) (by omega),e2,B.ze,B.cond_false,zg8 (show k<4611686018427387904 by omega)];exact hY (t-1) _ _ (by omega) ⟨rfl,k+1,by omega,by rw[hs]⟩
 ·rw[decide_eq_false_iff_not]at hb
  have hk:k=L.length:=by omega
  subst hk;rw[take_length];refine s1 _ _ _ hl2 λy0 h1 R1 o1=>?_;simp -dsimp only[hlen,B.ze];refine zd.intro (λt vs h2=>∃(k:Nat)(y:za)(R2:List (List za)),k+t=L.length /\ vs=[y,.int .i64 (k:Int)] /\ zcw hh h2 [.sl 1 y ((L.take k).flatten.map tc) R2]) L.length ?_ ⟨0,y0,R1,by omega,rfl,o1⟩;rintro Z t2 vs h2 ⟨k,y,R2,ht2,rfl,o2⟩ hZ;simp -dsimp only[zp.l2,zp.k1,zqg,B.ze];refine B.zm (λhc=>?_) (λhc=>?_)
  ·rw[decide_eq_true_eq]at hc
   have hs:=zwy hc;have hle:=sumLen_le L (k+1);refine cell o2.le hc λz R3 hz=>?_;refine o2.zif 0 rfl hz Nat.one_pos (by simp only[length_map];omega) (by simp only[length_map,maxLen];omega) λx' h' o3 _=>?_;simp -dsimp only[zg8 (show k<4611686018427387904 by omega),B.ze];refine hZ (t2-1) _ _ (by omega) ⟨k+1,x',[],by omega,rfl,?_⟩;rw[take_add_one,getElem?_eq_getElem hc,Option.toList_some,flatten_append,flatten_singleton,map_append];exact o3
  ·rw[decide_eq_false_iff_not]at hc
   have hk:k=L.length:=by omega
   subst hk;rw[take_length]at o2;exact zba (hq _ _ _ o2)
variable{C:zh}{N:zN}
theorem itm_get{h:zb}{x:za}{L:List Itm}(hx:Dl zd3 h x L){i:Nat}{r:Itm}(hr:L[i]?=some r):∃p o,V.zb3 4 x (.int .i64 (i:Int))=some (elp 4 x i 0) /\ A.zo3 h (elp 4 x i 0) 4=some (.agg (iCells r (p,o))) /\ V.fieldAddr 0 (elp 4 x i 0)=some (elp 4 x i 0) /\
  V.fieldAddr 2 (elp 4 x i 0)=some (elp 4 x i 2) /\ V.fieldAddr 3 (elp 4 x i 0)=some (elp 4 x i 3) /\ A.ldv h (elp 4 x i 0)=some (.str r.Code) /\ A.ldv h (elp 4 x i 2)=some p /\ A.ldv h (elp 4 x i 3)=some o /\ zd3.at_ h r (p,o):=by
 obtain⟨a,ea⟩:=hx.get hr;exact⟨a.1,a.2,ea.idx,ea.ldn,ea.fld 0 0,ea.fld 0 2,ea.fld 0 3,ea.ld 0 (by decide),ea.ld 2 (by decide),ea.ld 3 (by decide),ea.at_⟩
variable{C:zh}{N:zN}
@[simp] def zso.k1(C:zh)(n fm:Nat)(Q:zQ)(Y1:zL)(v3 v4:za)(h:zb):Prop:=B.pv (V.zbi v3) λv23=>B.pv (V.bin .lss v4 v23) λv24=>B.cond v24 (B.call C fm [(.int .i64 2),v4] h λv30 h=>B.pv (V.zb3 n v3 v4) λv31=>B.stn h v31 n v30 λh=>B.pv (V.bin .add v4 (.int .i64 1)) λv26=>Y1 [v26] h) (Q (.tup []) h)
@[simp] def zso.l2(C:zh)(n fm:Nat)(Q:zQ)(v3:za):zG|[v4],h,Y1=>zso.k1 C n fm Q Y1 v3 v4 h|_,_,_=>False
@[simp] def zso.k3(C:zh)(n fm:Nat)(Q:zQ)(v0:za)(h:zb):Prop:=B.pv (V.zbi v0) λv18=>B.pv (V.bin .add v18 (.int .i64 12)) λv19=>B.pv (V.zhj n v0 none (some v19)) λv20=>zd (zso.l2 C n fm Q v20) [(.int .i64 0)] h
@[simp] def zso.k4(C:zh)(n fo fm:Nat)(Q:zQ)(Y2:zL)(v0 v2:za)(h:zb):Prop:=B.pv (V.zbi v0) λv7=>B.pv (V.bin .lss v2 v7) λv8=>B.cond v8 (B.pv (V.zb3 n v0 v2) λv13=>B.ldn h v13 n λv14=>B.call C fo [v14] h λv15 h=>B.pv (V.bin .add v2 (.int .i64 1)) λv10=>Y2 [v10] h) (zso.k3 C n fm Q v0 h)
@[simp] def zso.l5(C:zh)(n fo fm:Nat)(Q:zQ)(v0:za):zG|[v2],h,Y2=>zso.k4 C n fo fm Q Y2 v0 v2 h|_,_,_=>False
def zso(C:zh)(n fo fm:Nat)(v0:za)(h:zb)(Q:zQ):Prop:=zd (zso.l5 C n fo fm Q v0) [(.int .i64 0)] h
section
variable{T Ad:Type}(K:DK T Ad)
def OverE(K:DK T Ad)(C:zh)(f:Nat):Prop:=∀(t:T)(a:Ad)(h0 h:zb)(Q:zQ),K.ok t->zcw h0 h (K.obs true t a)->(∀h',h0.le h'->Q (.tup []) h')->C f [.agg (K.cells t a)] h Q
theorem overD_spec{mk:Int->Int->T}{fo fm:Nat}(so:OverE K C fo)(sm:MarkE K mk C fm){h0 h:zb}{x:za}{P PM:List (T×Ad)}{Q:zQ}(ho:zcw h0 h (.sl K.n x (P.map K.cs) (PM.map K.cs)::(K.os true P++K.os false PM)))(hok:∀p∈P,K.ok p.1)(hM:PM.length=12)(hl:P.length <= 100000000)
  (hq:∀h',h0.le h'->Q (.tup []) h'):zso C K.n fo fm x h Q:=by
 have ho1:zcw h0 h (.sl K.n x (P.map K.cs) (PM.map K.cs)::K.os true P):=ho.sub (List.Sublist.cons_cons _ (sublist_append_left _ _));have e1:IntKind.i64.wrap ((P.length:Int)+12)=((P.length+12:Nat):Int):=by rw[wrap_i64 (by omega) (by omega)];omega
 refine zd.intro (λn vs hh=>∃k:Nat,k+n=P.length /\ vs=[.int .i64 k] /\ zcw h0 hh (.sl K.n x (P.map K.cs) (PM.map K.cs)::K.os true (P.drop k))) P.length ?_ ⟨0,by omega,rfl,ho1⟩;rintro Y n vs hh ⟨k,hk,rfl,o⟩ hY;have hx:=o.zgz 0 rfl;have hlx:=hx.zbi;rw[length_map]at hlx;simp -dsimp only[zso.l5,zso.k4,hlx,zqg,B.ze];refine B.zm (λhb=>?_) (λhb=>?_)
 ·rw[decide_eq_true_eq]at hb
  have hd:P.drop k=P[k]::P.drop (k+1):=drop_eq_getElem_cons hb;have hg:(P.map K.cs)[k]?=some (K.cells P[k].1 P[k].2):=by rw[getElem?_map,getElem?_eq_getElem hb];rfl
  have hidx:V.zb3 K.n x (.int .i64 (k:Int))=some (elp K.n x k 0):=hx.zjp (by simpa using hb);simp -dsimp only[hidx,B.zn5,hx.elem hg,B.ze];rw[hd]at o;have eo:K.os true (P[k]::P.drop (k+1))=K.obs true P[k].1 P[k].2++K.os true (P.drop (k+1)):=by simp only[DK.os,flatMap_cons]
  rw[eo]at o;have o':zcw h0 hh ((.sl K.n x (P.map K.cs) (PM.map K.cs)::K.os true (P.drop (k+1)))++K.obs true P[k].1 P[k].2):=o.perm (by
   rw[cons_append];exact List.Perm.cons _ (perm_append_comm))
  obtain⟨o1,o2⟩:=o'.out;refine so _ _ _ _ _ (hok _ (getElem_mem hb)) o2 λh' hle=>?_;simp -dsimp only[zg8 (show k<4611686018427387904 by omega),B.ze];exact hY (n-1) _ _ (by omega) ⟨k+1,by omega,rfl,o1.grow hle⟩
 ·rw[decide_eq_false_iff_not]at hb
  have o1:zcw h0 hh [.sl K.n x (P.map K.cs) (PM.map K.cs)]:=o.sub (List.Sublist.cons_cons _ (nil_sublist _));obtain⟨z,e2,e3,e4⟩:=hx.slice K.pos (lo:=0) (hi:=P.length+12) (a:=none) (b:=some (.int .i64 ((P.length+12:Nat):Int))) (.inl ⟨rfl,rfl⟩) (.inr ⟨_,rfl⟩) (by omega) (by simp;omega);have h1:((P.map K.cs++PM.map K.cs).take (P.length+12)).drop 0=P.map K.cs++PM.map K.cs:=by rw[drop_zero,take_of_length_le];simp;omega
  rw[h1]at e3;simp -dsimp only[zso.k3,hlx,V.zex,e1,e2,B.ze];have hoz:zcw h0 hh [.sl K.n z (P.map K.cs++PM.map K.cs) ((P.map K.cs++PM.map K.cs).drop (P.length+12))]:=o1.zqk 0 rfl (o':= .sl K.n z (P.map K.cs++PM.map K.cs) ((P.map K.cs++PM.map K.cs).drop (P.length+12))) e3 (λid b hf hb=>o1.zqs 0 rfl id b (by show zhy x=some id;rw[<-e4];exact hf) hb) (λj b hb _=>hb) (.inl e4);refine zd.intro (λn vs hh=>∃(k:Nat)(L':List (List za)),k+n=P.length+12 /\ vs=[.int .i64 k] /\ L'.length=P.length+12 /\ zcw h0 hh [.sl K.n z L' ((P.map K.cs++PM.map K.cs).drop (P.length+12))]) (P.length+12) ?_ ⟨0,_,by omega,rfl,by simp[hM],hoz⟩;rintro Y n vs hh ⟨k,L',hn,rfl,hl',ho'⟩ hY;have hlz:=(ho'.zgz 0 rfl).zbi;rw[hl']at hlz;simp -dsimp only[zso.l2,zso.k1,hlz,zqg,B.ze];refine B.zm (λhc=>?_) (λhc=>?_)
  ·rw[decide_eq_true_eq]at hc
   have hk:k<L'.length:=by omega
   refine sm _ _ _ _ λa' h2 o2=>?_;simp -dsimp only[(ho'.zgz 0 rfl).zjp hk,B.ze];refine(ho'.grow o2.le).stElem 0 rfl (c:=L'[k]) (by simp[hk]) (K.len _ a') λh3 o3 _=>?_;simp -dsimp only[zg8 (show k<4611686018427387904 by omega),B.ze];exact hY (P.length+12-(k+1)) _ _ (by omega) ⟨k+1,_,by omega,rfl,by simp[hl'],o3⟩
  ·exact hq _ ho'.le
end
variable{C:zh}{N:zN}
def zf7.Spec(C:zh)(N:zN):Prop:=OverE zd3 C (N 401)
theorem zf7.spec(i:zf7.Imp C N)(s1:zfl.Spec C N)(s2:zew.Spec C N):zf7.Spec C N:=by
 intro t a h0 h Q hok ho hq;apply i;have ho:zcw h0 h ([.sl 2 a.1 (t.zgc.map Part.cs) zn2]++[.sl 1 a.2 (t.zep.map tc) zh2]):=ho;have ho':=ho.perm (perm_append_comm);obtain⟨o1,o2⟩:=ho'.out;simp -dsimp[zd3];refine s1 _ _ _ _ _ _ o2 (by simp[marks]) (by rw[length_map];exact hok.1) λh1 hle=>?_;refine s2 _ _ _ _ _ _ (o1.grow hle) (by simp[zh2,zjq]) (by rw[length_map];exact hok.2) λh2 hle2=>?_;exact zba (hq _ hle2)
def zc3.Spec(C:zh)(N:zN):Prop:=∀(x:za)(P PM:List (Itm×za×za))(h0 h:zb)(Q:zQ),zcw h0 h (.sl 4 x (P.map zd3.cs) (PM.map zd3.cs)::(zd3.os true P++zd3.os false PM))->(∀p∈P,zd3.ok p.1)->PM.length=12->P.length <= 100000000->(∀h',h0.le h'->Q (.tup []) h')->C (N 393) [x] h Q
theorem zc3.spec(i:zc3.Imp C N)(s1:zf7.Spec C N)(s2:zff.Spec C N):zc3.Spec C N:=λx P PM h0 h Q ho hok hM hl hq=>i x h Q (overD_spec zd3 s1 s2 ho hok hM hl λh' hle=>zba (hq h' hle))
end Go.Ab
