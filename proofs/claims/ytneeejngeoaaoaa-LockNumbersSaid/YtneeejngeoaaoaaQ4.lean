/- What is proved: a part of the way to the statement: SrtT. No conditions. -/
import Derived.Test.YtneeejngeoaaoaaQ3
set_option linter.unusedVariables false
set_option linter.unusedSimpArgs false
namespace Go.Ab
open List
@[simp] def zcy.k1(C:z5)(E:zbc)(C0:z5)(fL:Nat)(Q:zQ)(Y1:zL)(Y2:zL)(v0 v1 v2 v3 v8 v9:za)(h:zb):Prop:=B.pv (V.bin .gtr v9 v1) λv20=>B.gd h v20 true (λK=>K v0 h) λv23 h=>B.gd h v20 true (λK=>K v9 h) λv24 h=>B.gd h v20 true (λK=>B.pv (V.zda E.es v23 v24) λv=>K v h) λv25 h=>B.gd h v20 true (λK=>E.ld h v25 λv=>K v h) λv26 h=>B.gd h v20 true (λK=>K v0 h) λv27 h=>B.gd h v20 true (λK=>K v9 h) λv28 h=>B.gd h v20 true (λK=>B.pv (V.bin .sub v28 (.int .i64 1)) λv=>K v h) λv29 h=>B.gd h v20 true (λK=>B.pv (V.zda E.es v27 v29) λv=>K v h) λv30 h=>B.gd h v20 true (λK=>E.ld h v30 λv=>K v h) λv31 h=>B.gd h v20 true (λK=>B.call C0 fL [v26,v31] h K) λv33 h=>B.pick v20 v33 (.bool false) λv34=>B.cond v34 (B.pv (V.bin .sub v9 (.int .i64 1)) λv41=>B.pv (V.bin .sub v9 (.int .i64 1)) λv44=>B.pv (V.zda E.es v0 v44) λv45=>E.ld h v45 λv46=>B.pv (V.zda E.es v0 v9) λv49=>E.ld h v49 λv50=>B.pv (V.zda E.es v0 v9) λv51=>E.st h v51 v46 λh=>B.pv (V.zda E.es v0 v41) λv52=>E.st h v52 v50 λh=>B.pv (V.bin .sub v9 (.int .i64 1)) λv36=>Y2 [v36] h) (B.pv (V.bin .add v8 (.int .i64 1)) λv16=>Y1 [v16] h)
@[simp] def zcy.l2(C:z5)(E:zbc)(C0:z5)(fL:Nat)(Q:zQ)(Y1:zL)(v0 v1 v2 v3 v8:za):zG|[v9],h,Y2=>zcy.k1 C E C0 fL Q Y1 Y2 v0 v1 v2 v3 v8 v9 h|_,_,_=>False
@[simp] def zcy.l3(C:z5)(E:zbc)(C0:z5)(fL:Nat)(Q:zQ)(v0 v1 v2 v3:za):zG|[v8],h,Y1=>B.pv (V.bin .lss v8 v2) λv14=>B.cond v14 (z0 (zcy.l2 C E C0 fL Q Y1 v0 v1 v2 v3 v8) [v8] h) (Q (.tup []) h)|_,_,_=>False
@[simp] def zcy.cps(C:z5)(E:zbc)(C0:z5)(fL:Nat)(v0 v1 v2 v3:za)(h:zb)(Q:zQ):Prop:=B.pv (V.bin .add v1 (.int .i64 1)) λv11=>z0 (zcy.l3 C E C0 fL Q v0 v1 v2 v3) [v11] h
@[simp] def zba.k1(C:z5)(E:zbc)(C0:z5)(fL:Nat)(f1 f2 f3 f4 f5 f6 f7 f8 f9:Nat)(Q:zQ)(Y1:zL)(v0 v1 v2 v3 v4 v10 v11 v12 v13:za)(h:zb):Prop:=B.pv (V.bin .gtr v1 (.int .i64 0)) λv82=>B.gd h v82 true (λK=>K v0 h) λv85 h=>B.gd h v82 true (λK=>K v1 h) λv86 h=>B.gd h v82 true (λK=>B.pv (V.bin .sub v86 (.int .i64 1)) λv=>K v h) λv87 h=>B.gd h v82 true (λK=>B.pv (V.zda E.es v85 v87) λv=>K v h) λv88 h=>B.gd h v82 true (λK=>E.ld h v88 λv=>K v h) λv89 h=>B.gd h v82 true (λK=>K v0 h) λv90 h=>B.gd h v82 true (λK=>K v13 h) λv91 h=>B.gd h v82 true (λK=>B.pv (V.zda E.es v90 v91) λv=>K v h) λv92 h=>B.gd h v82 true (λK=>E.ld h v92 λv=>K v h) λv93 h=>B.gd h v82 true (λK=>B.call C0 fL [v89,v93] h K) λv95 h=>B.gd h v82 true (λK=>B.pv (V.un .not v95) λv=>K v h) λv96 h=>B.pick v82 v96 (.bool false) λv97=>B.cond v97 (B.call C f1 [v0,v1,v2,v13,v4] h λv103 h=>Y1 [v103,v2,v3,v10,v11] h) (B.call C f2 [v0,v1,v2,v13,v4] h λv111 h=>B.pv (V.ext 0 v111) λv112=>B.pv (V.ext 1 v111) λv113=>B.pv (V.bin .sub v112 v1) λv117=>B.pv (V.bin .sub v2 v112) λv120=>B.pv (V.bin .quo v12 (.int .i64 8)) λv122=>B.pv (V.bin .lss v117 v120) λv125=>B.cond v125 (B.pv (V.bin .geq v117 v122) λv128=>B.call C f3 [v0,v1,v112,v3,v4] h λv134 h=>B.pv (V.bin .add v112 (.int .i64 1)) λv136=>Y1 [v136,v2,v3,v128,v113] h) (B.pv (V.bin .geq v120 v122) λv139=>B.pv (V.bin .add v112 (.int .i64 1)) λv142=>B.call C f3 [v0,v142,v2,v3,v4] h λv146 h=>Y1 [v1,v112,v3,v139,v113] h))
@[simp] def zba.k2(C:z5)(E:zbc)(C0:z5)(fL:Nat)(f1 f2 f3 f4 f5 f6 f7 f8 f9:Nat)(Q:zQ)(Y1:zL)(v0 v1 v2 v3 v4 v10 v11 v12 v13 v14:za)(h:zb):Prop:=B.gd h v10 true (λK=>K v11 h) λv70 h=>B.pick v10 v70 (.bool false) λv71=>B.gd h v71 true (λK=>K v14 h) λv73 h=>B.gd h v71 true (λK=>B.pv (V.bin .eql v73 (.int .i64 1)) λv=>K v h) λv74 h=>B.pick v71 v74 (.bool false) λv75=>B.cond v75 (B.call C f4 [v0,v1,v2,v4] h λv80 h=>B.cond v80 (Q (.tup []) h) (zba.k1 C E C0 fL f1 f2 f3 f4 f5 f6 f7 f8 f9 Q Y1 v0 v1 v2 v3 v4 v10 v11 v12 v13 h)) (zba.k1 C E C0 fL f1 f2 f3 f4 f5 f6 f7 f8 f9 Q Y1 v0 v1 v2 v3 v4 v10 v11 v12 v13 h)
@[simp] def zba.k3(C:z5)(E:zbc)(C0:z5)(fL:Nat)(f1 f2 f3 f4 f5 f6 f7 f8 f9:Nat)(Q:zQ)(Y1:zL)(v0 v1 v2 v3 v4 v10 v11 v12 v13 v14:za)(h:zb):Prop:=B.pv (V.bin .eql v14 (.int .i64 2)) λv56=>B.cond v56 (B.call C f5 [v0,v1,v2,v4] h λv61 h=>B.pv (V.bin .sub v2 (.int .i64 1)) λv63=>B.pv (V.bin .sub v13 v1) λv66=>B.pv (V.bin .sub v63 v66) λv67=>zba.k2 C E C0 fL f1 f2 f3 f4 f5 f6 f7 f8 f9 Q Y1 v0 v1 v2 v3 v4 v10 v11 v12 v67 (.int .i64 1) h) (zba.k2 C E C0 fL f1 f2 f3 f4 f5 f6 f7 f8 f9 Q Y1 v0 v1 v2 v3 v4 v10 v11 v12 v13 v14 h)
@[simp] def zba.k4(C:z5)(E:zbc)(C0:z5)(fL:Nat)(f1 f2 f3 f4 f5 f6 f7 f8 f9:Nat)(Q:zQ)(Y1:zL)(v0 v1 v2 v3 v4 v10 v11 v12:za)(h:zb):Prop:=B.call C f6 [v0,v1,v2,v4] h λv52 h=>B.pv (V.ext 0 v52) λv53=>B.pv (V.ext 1 v52) λv54=>zba.k3 C E C0 fL f1 f2 f3 f4 f5 f6 f7 f8 f9 Q Y1 v0 v1 v2 v3 v4 v10 v11 v12 v53 v54 h
@[simp] def zba.k5(C:z5)(E:zbc)(C0:z5)(fL:Nat)(f1 f2 f3 f4 f5 f6 f7 f8 f9:Nat)(Q:zQ)(Y1:zL)(v0 v1 v2 v3 v4 v10 v11 v12:za)(h:zb):Prop:=B.pv (V.un .not v10) λv39=>B.cond v39 (B.call C f7 [v0,v1,v2,v4] h λv44 h=>B.pv (V.bin .sub v3 (.int .i64 1)) λv46=>zba.k4 C E C0 fL f1 f2 f3 f4 f5 f6 f7 f8 f9 Q Y1 v0 v1 v2 v46 v4 v10 v11 v12 h) (zba.k4 C E C0 fL f1 f2 f3 f4 f5 f6 f7 f8 f9 Q Y1 v0 v1 v2 v3 v4 v10 v11 v12 h)
@[simp] def zba.k6(C:z5)(E:zbc)(C0:z5)(fL:Nat)(f1 f2 f3 f4 f5 f6 f7 f8 f9:Nat)(Q:zQ)(Y1:zL)(v0 v1 v2 v3 v4 v10 v11 v12:za)(h:zb):Prop:=B.pv (V.bin .eql v3 (.int .i64 0)) λv32=>B.cond v32 (B.call C f8 [v0,v1,v2,v4] h λv37 h=>Q (.tup []) h) (zba.k5 C E C0 fL f1 f2 f3 f4 f5 f6 f7 f8 f9 Q Y1 v0 v1 v2 v3 v4 v10 v11 v12 h)
@[simp] def zba.k7(C:z5)(E:zbc)(C0:z5)(fL:Nat)(f1 f2 f3 f4 f5 f6 f7 f8 f9:Nat)(Q:zQ)(Y1:zL)(v0 v1 v2 v3 v4 v10 v11 v12:za)(h:zb):Prop:=B.pv (V.bin .leq v12 (.int .i64 12)) λv25=>B.cond v25 (B.call C f9 [v0,v1,v2,v4] h λv30 h=>Q (.tup []) h) (zba.k6 C E C0 fL f1 f2 f3 f4 f5 f6 f7 f8 f9 Q Y1 v0 v1 v2 v3 v4 v10 v11 v12 h)
@[simp] def zba.l8(C:z5)(E:zbc)(C0:z5)(fL:Nat)(f1 f2 f3 f4 f5 f6 f7 f8 f9:Nat)(Q:zQ)(v0 v4:za):zG|[v1,v2,v3,v10,v11],h,Y1=>B.pv (V.bin .sub v2 v1) λv23=>zba.k7 C E C0 fL f1 f2 f3 f4 f5 f6 f7 f8 f9 Q Y1 v0 v1 v2 v3 v4 v10 v11 v23 h|_,_,_=>False
@[simp] def zba.cps(C:z5)(E:zbc)(C0:z5)(fL:Nat)(f1 f2 f3 f4 f5 f6 f7 f8 f9:Nat)(v0 v1 v2 v3 v4:za)(h:zb)(Q:zQ):Prop:=z0 (zba.l8 C E C0 fL f1 f2 f3 f4 f5 f6 f7 f8 f9 Q v0 v4) [v1,v2,v3,(.bool true),(.bool true)] h
@[simp] def zc9.k1(C:z5)(E:zbc)(C0:z5)(fL:Nat)(f1:Nat)(Q:zQ)(Y1:zL)(v0 v3 v8 v9 v12:za)(h:zb):Prop:=B.pv (V.bin .geq v12 (.int .i64 0)) λv33=>B.cond v33 (B.pv (V.bin .add v8 v12) λv41=>B.pv (V.bin .add v8 v12) λv45=>B.pv (V.zda E.es v0 v45) λv46=>E.ld h v46 λv47=>B.pv (V.zda E.es v0 v8) λv50=>E.ld h v50 λv51=>B.pv (V.zda E.es v0 v8) λv52=>E.st h v52 v47 λh=>B.pv (V.zda E.es v0 v41) λv53=>E.st h v53 v51 λh=>B.call C f1 [v0,v9,v12,v8,v3] h λv59 h=>B.pv (V.bin .sub v12 (.int .i64 1)) λv35=>Y1 [v35] h) (Q (.tup []) h)
@[simp] def zc9.l2(C:z5)(E:zbc)(C0:z5)(fL:Nat)(f1:Nat)(Q:zQ)(v0 v3 v8 v9:za):zG|[v12],h,Y1=>zc9.k1 C E C0 fL f1 Q Y1 v0 v3 v8 v9 v12 h|_,_,_=>False
@[simp] def zc9.k3(C:z5)(E:zbc)(C0:z5)(fL:Nat)(f1:Nat)(Q:zQ)(Y2:zL)(v0 v3 v8 v9 v10 v11:za)(h:zb):Prop:=B.pv (V.bin .geq v11 (.int .i64 0)) λv21=>B.cond v21 (B.call C f1 [v0,v11,v10,v8,v3] h λv29 h=>B.pv (V.bin .sub v11 (.int .i64 1)) λv23=>Y2 [v23] h) (B.pv (V.bin .sub v10 (.int .i64 1)) λv31=>z0 (zc9.l2 C E C0 fL f1 Q v0 v3 v8 v9) [v31] h)
@[simp] def zc9.l4(C:z5)(E:zbc)(C0:z5)(fL:Nat)(f1:Nat)(Q:zQ)(v0 v3 v8 v9 v10:za):zG|[v11],h,Y2=>zc9.k3 C E C0 fL f1 Q Y2 v0 v3 v8 v9 v10 v11 h|_,_,_=>False
@[simp] def zc9.k5(C:z5)(E:zbc)(C0:z5)(fL:Nat)(f1:Nat)(Q:zQ)(v0 v3 v8 v9 v10:za)(h:zb):Prop:=B.pv (V.bin .sub v10 (.int .i64 1)) λv18=>B.pv (V.bin .quo v18 (.int .i64 2)) λv19=>z0 (zc9.l4 C E C0 fL f1 Q v0 v3 v8 v9 v10) [v19] h
@[simp] def zc9.cps(C:z5)(E:zbc)(C0:z5)(fL:Nat)(f1:Nat)(v0 v1 v2 v3:za)(h:zb)(Q:zQ):Prop:=B.pv (V.bin .sub v2 v1) λv16=>zc9.k5 C E C0 fL f1 Q v0 v3 v1 (.int .i64 0) v16 h
@[simp] def z3.k1(C:z5)(E:zbc)(C0:z5)(fL:Nat)(f1 f2:Nat)(Q:zQ)(Y1:zL)(v0 v1 v8 v9 v10 v11 v12:za)(h:zb):Prop:=B.pv (V.bin .add v1 v12) λv54=>B.pv (V.bin .add v1 v12) λv58=>B.pv (V.zda E.es v0 v58) λv59=>E.ld h v59 λv60=>B.pv (V.zda E.es v0 v11) λv63=>E.ld h v63 λv64=>B.pv (V.zda E.es v0 v11) λv65=>E.st h v65 v60 λh=>B.pv (V.zda E.es v0 v54) λv66=>E.st h v66 v64 λh=>B.pv (V.bin .add v11 (.int .i64 1)) λv37=>Y1 [v37] h
@[simp] def z3.k2(C:z5)(E:zbc)(C0:z5)(fL:Nat)(f1 f2:Nat)(Q:zQ)(Y1:zL)(v0 v1 v8 v9 v10 v11 v12:za)(h:zb):Prop:=B.pv (V.bin .geq v12 v8) λv45=>B.cond v45 (B.pv (V.bin .sub v12 v8) λv48=>z3.k1 C E C0 fL f1 f2 Q Y1 v0 v1 v8 v9 v10 v11 v48 h) (z3.k1 C E C0 fL f1 f2 Q Y1 v0 v1 v8 v9 v10 v11 v12 h)
@[simp] def z3.k3(C:z5)(E:zbc)(C0:z5)(fL:Nat)(f1 f2:Nat)(Q:zQ)(Y1:zL)(v0 v1 v8 v9 v10 v11:za)(h:zb):Prop:=B.call C0 f1 [v9] h λv38 h=>B.pv (V.bin .sub v10 (.int .u64 1)) λv40=>B.pv (V.bin .and v38 v40) λv41=>B.pv (V.toInt .i64 v41) λv42=>z3.k2 C E C0 fL f1 f2 Q Y1 v0 v1 v8 v9 v10 v11 v42 h
@[simp] def z3.k4(C:z5)(E:zbc)(C0:z5)(fL:Nat)(f1 f2:Nat)(Q:zQ)(Y1:zL)(v0 v1 v8 v9 v10 v11:za)(h:zb):Prop:=B.pv (V.bin .quo v8 (.int .i64 4)) λv31=>B.pv (V.bin .mul v31 (.int .i64 2)) λv32=>B.pv (V.bin .add v1 v32) λv33=>B.pv (V.bin .add v33 (.int .i64 1)) λv34=>B.pv (V.bin .leq v11 v34) λv35=>B.cond v35 (z3.k3 C E C0 fL f1 f2 Q Y1 v0 v1 v8 v9 v10 v11 h) (Q (.tup []) h)
@[simp] def z3.l5(C:z5)(E:zbc)(C0:z5)(fL:Nat)(f1 f2:Nat)(Q:zQ)(v0 v1 v8 v9 v10:za):zG|[v11],h,Y1=>z3.k4 C E C0 fL f1 f2 Q Y1 v0 v1 v8 v9 v10 v11 h|_,_,_=>False
@[simp] def z3.k6(C:z5)(E:zbc)(C0:z5)(fL:Nat)(f1 f2:Nat)(Q:zQ)(v0 v1 v8 v9 v10:za)(h:zb):Prop:=B.pv (V.bin .quo v8 (.int .i64 4)) λv24=>B.pv (V.bin .mul v24 (.int .i64 2)) λv25=>B.pv (V.bin .add v1 v25) λv26=>B.pv (V.bin .sub v26 (.int .i64 1)) λv27=>z0 (z3.l5 C E C0 fL f1 f2 Q v0 v1 v8 v9 v10) [v27] h
@[simp] def z3.k7(C:z5)(E:zbc)(C0:z5)(fL:Nat)(f1 f2:Nat)(Q:zQ)(v0 v1 v8:za)(h:zb):Prop:=B.pv (V.toInt .u64 v8) λv19=>B.zf2 h (some [.int .u64 0]) λi9 h=>B.st h (.ptr i9 0 0) v19 λh=>B.call C0 f2 [v8] h λv21 h=>z3.k6 C E C0 fL f1 f2 Q v0 v1 v8 (.ptr i9 0 0) v21 h
@[simp] def z3.k8(C:z5)(E:zbc)(C0:z5)(fL:Nat)(f1 f2:Nat)(Q:zQ)(v0 v1 v2:za)(h:zb):Prop:=B.pv (V.bin .sub v2 v1) λv15=>B.pv (V.bin .geq v15 (.int .i64 8)) λv17=>B.cond v17 (z3.k7 C E C0 fL f1 f2 Q v0 v1 v15 h) (Q (.tup []) h)
@[simp] def z3.cps(C:z5)(E:zbc)(C0:z5)(fL:Nat)(f1 f2:Nat)(v0 v1 v2 v3:za)(h:zb)(Q:zQ):Prop:=z3.k8 C E C0 fL f1 f2 Q v0 v1 v2 h
@[simp] def zbb.k1(C:z5)(E:zbc)(C0:z5)(fL:Nat)(f1 f2:Nat)(Q:zQ)(v11 v13:za)(h:zb):Prop:=B.ld h v11 λv55=>B.pv (V.bin .eql v55 (.int .i64 0)) λv58=>B.cond v58 (Q (.tup [v13,(.int .i64 1)]) h) (B.pv (V.bin .eql v55 (.int .i64 12)) λv61=>B.cond v61 (Q (.tup [v13,(.int .i64 2)]) h) (Q (.tup [v13,(.int .i64 0)]) h))
@[simp] def zbb.k2(C:z5)(E:zbc)(C0:z5)(fL:Nat)(f1 f2:Nat)(Q:zQ)(v0 v3 v10 v11 v12 v13 v14:za)(h:zb):Prop:=B.pv (V.bin .geq v10 (.int .i64 50)) λv36=>B.cond v36 (B.call C f2 [v0,v12,v11,v3] h λv40 h=>B.call C f2 [v0,v13,v11,v3] h λv44 h=>B.call C f2 [v0,v14,v11,v3] h λv48 h=>B.call C f1 [v0,v40,v44,v48,v11,v3] h λv54 h=>zbb.k1 C E C0 fL f1 f2 Q v11 v54 h) (B.call C f1 [v0,v12,v13,v14,v11,v3] h λv54 h=>zbb.k1 C E C0 fL f1 f2 Q v11 v54 h)
@[simp] def zbb.k3(C:z5)(E:zbc)(C0:z5)(fL:Nat)(f1 f2:Nat)(Q:zQ)(v0 v3 v10 v11 v12 v13 v14:za)(h:zb):Prop:=B.pv (V.bin .geq v10 (.int .i64 8)) λv34=>B.cond v34 (zbb.k2 C E C0 fL f1 f2 Q v0 v3 v10 v11 v12 v13 v14 h) (zbb.k1 C E C0 fL f1 f2 Q v11 v13 h)
@[simp] def zbb.k4(C:z5)(E:zbc)(C0:z5)(fL:Nat)(f1 f2:Nat)(Q:zQ)(v0 v1 v3 v10 v11 v12 v13:za)(h:zb):Prop:=B.pv (V.bin .quo v10 (.int .i64 4)) λv30=>B.pv (V.bin .mul v30 (.int .i64 3)) λv31=>B.pv (V.bin .add v1 v31) λv32=>zbb.k3 C E C0 fL f1 f2 Q v0 v3 v10 v11 v12 v13 v32 h
@[simp] def zbb.k5(C:z5)(E:zbc)(C0:z5)(fL:Nat)(f1 f2:Nat)(Q:zQ)(v0 v1 v3 v10 v11 v12:za)(h:zb):Prop:=B.pv (V.bin .quo v10 (.int .i64 4)) λv25=>B.pv (V.bin .mul v25 (.int .i64 2)) λv26=>B.pv (V.bin .add v1 v26) λv27=>zbb.k4 C E C0 fL f1 f2 Q v0 v1 v3 v10 v11 v12 v27 h
@[simp] def zbb.k6(C:z5)(E:zbc)(C0:z5)(fL:Nat)(f1 f2:Nat)(Q:zQ)(v0 v1 v3 v10 v11:za)(h:zb):Prop:=B.pv (V.bin .quo v10 (.int .i64 4)) λv20=>B.pv (V.bin .mul v20 (.int .i64 1)) λv21=>B.pv (V.bin .add v1 v21) λv22=>zbb.k5 C E C0 fL f1 f2 Q v0 v1 v3 v10 v11 v22 h
@[simp] def zbb.cps(C:z5)(E:zbc)(C0:z5)(fL:Nat)(f1 f2:Nat)(v0 v1 v2 v3:za)(h:zb)(Q:zQ):Prop:=B.pv (V.bin .sub v2 v1) λv17=>B.zf2 h (some [.int .i64 0]) λi11 h=>zbb.k6 C E C0 fL f1 f2 Q v0 v1 v3 v17 (.ptr i11 0 0) h
@[simp] def zdy.k1(C:z5)(E:zbc)(C0:z5)(fL:Nat)(Q:zQ)(Y1:zL)(v0 v8 v9:za)(h:zb):Prop:=B.pv (V.bin .lss v8 v9) λv15=>B.cond v15 (B.pv (V.zda E.es v0 v9) λv22=>E.ld h v22 λv23=>B.pv (V.zda E.es v0 v8) λv26=>E.ld h v26 λv27=>B.pv (V.zda E.es v0 v8) λv28=>E.st h v28 v23 λh=>B.pv (V.zda E.es v0 v9) λv29=>E.st h v29 v27 λh=>B.pv (V.bin .add v8 (.int .i64 1)) λv31=>B.pv (V.bin .sub v9 (.int .i64 1)) λv33=>Y1 [v31,v33] h) (Q (.tup []) h)
@[simp] def zdy.l2(C:z5)(E:zbc)(C0:z5)(fL:Nat)(Q:zQ)(v0:za):zG|[v8,v9],h,Y1=>zdy.k1 C E C0 fL Q Y1 v0 v8 v9 h|_,_,_=>False
@[simp] def zdy.cps(C:z5)(E:zbc)(C0:z5)(fL:Nat)(v0 v1 v2 v3:za)(h:zb)(Q:zQ):Prop:=B.pv (V.bin .sub v2 (.int .i64 1)) λv12=>z0 (zdy.l2 C E C0 fL Q v0) [v1,v12] h
@[simp] def zh.k1(C:z5)(E:zbc)(C0:z5)(fL:Nat)(Q:zQ)(Y1:zL)(Y2:zL)(v0 v1 v2 v3 v9 v10 v12:za)(h:zb):Prop:=B.pv (V.bin .lss v12 v2) λv109=>B.cond v109 (B.pv (V.zda E.es v0 v12) λv115=>E.ld h v115 λv116=>B.pv (V.bin .sub v12 (.int .i64 1)) λv119=>B.pv (V.zda E.es v0 v119) λv120=>E.ld h v120 λv121=>B.call C0 fL [v116,v121] h λv123 h=>B.pv (V.un .not v123) λv124=>B.cond v124 (B.pv (V.bin .add v10 (.int .i64 1)) λv18=>Y1 [v9,v18] h) (B.pv (V.bin .sub v12 (.int .i64 1)) λv129=>B.pv (V.bin .sub v12 (.int .i64 1)) λv132=>B.pv (V.zda E.es v0 v132) λv133=>E.ld h v133 λv134=>B.pv (V.zda E.es v0 v12) λv137=>E.ld h v137 λv138=>B.pv (V.zda E.es v0 v12) λv139=>E.st h v139 v134 λh=>B.pv (V.zda E.es v0 v129) λv140=>E.st h v140 v138 λh=>B.pv (V.bin .add v12 (.int .i64 1)) λv111=>Y2 [v111] h)) (B.pv (V.bin .add v10 (.int .i64 1)) λv18=>Y1 [v9,v18] h)
@[simp] def zh.l2(C:z5)(E:zbc)(C0:z5)(fL:Nat)(Q:zQ)(Y1:zL)(v0 v1 v2 v3 v9 v10:za):zG|[v12],h,Y2=>zh.k1 C E C0 fL Q Y1 Y2 v0 v1 v2 v3 v9 v10 v12 h|_,_,_=>False
@[simp] def zh.k3(C:z5)(E:zbc)(C0:z5)(fL:Nat)(Q:zQ)(Y1:zL)(v0 v1 v2 v3 v9 v10:za)(h:zb):Prop:=B.pv (V.bin .sub v2 v9) λv103=>B.pv (V.bin .geq v103 (.int .i64 2)) λv104=>B.cond v104 (B.pv (V.bin .add v9 (.int .i64 1)) λv106=>z0 (zh.l2 C E C0 fL Q Y1 v0 v1 v2 v3 v9 v10) [v106] h) (B.pv (V.bin .add v10 (.int .i64 1)) λv18=>Y1 [v9,v18] h)
@[simp] def zh.k4(C:z5)(E:zbc)(C0:z5)(fL:Nat)(Q:zQ)(Y1:zL)(Y3:zL)(v0 v1 v2 v3 v9 v10 v11:za)(h:zb):Prop:=B.pv (V.bin .geq v11 (.int .i64 1)) λv69=>B.cond v69 (B.pv (V.zda E.es v0 v11) λv75=>E.ld h v75 λv76=>B.pv (V.bin .sub v11 (.int .i64 1)) λv79=>B.pv (V.zda E.es v0 v79) λv80=>E.ld h v80 λv81=>B.call C0 fL [v76,v81] h λv83 h=>B.pv (V.un .not v83) λv84=>B.cond v84 (zh.k3 C E C0 fL Q Y1 v0 v1 v2 v3 v9 v10 h) (B.pv (V.bin .sub v11 (.int .i64 1)) λv89=>B.pv (V.bin .sub v11 (.int .i64 1)) λv92=>B.pv (V.zda E.es v0 v92) λv93=>E.ld h v93 λv94=>B.pv (V.zda E.es v0 v11) λv97=>E.ld h v97 λv98=>B.pv (V.zda E.es v0 v11) λv99=>E.st h v99 v94 λh=>B.pv (V.zda E.es v0 v89) λv100=>E.st h v100 v98 λh=>B.pv (V.bin .sub v11 (.int .i64 1)) λv71=>Y3 [v71] h)) (zh.k3 C E C0 fL Q Y1 v0 v1 v2 v3 v9 v10 h)
@[simp] def zh.l5(C:z5)(E:zbc)(C0:z5)(fL:Nat)(Q:zQ)(Y1:zL)(v0 v1 v2 v3 v9 v10:za):zG|[v11],h,Y3=>zh.k4 C E C0 fL Q Y1 Y3 v0 v1 v2 v3 v9 v10 v11 h|_,_,_=>False
@[simp] def zh.k6(C:z5)(E:zbc)(C0:z5)(fL:Nat)(Q:zQ)(Y1:zL)(v0 v1 v2 v3 v9 v10:za)(h:zb):Prop:=B.pv (V.bin .sub v9 v1) λv64=>B.pv (V.bin .geq v64 (.int .i64 2)) λv65=>B.cond v65 (B.pv (V.bin .sub v9 (.int .i64 1)) λv67=>z0 (zh.l5 C E C0 fL Q Y1 v0 v1 v2 v3 v9 v10) [v67] h) (zh.k3 C E C0 fL Q Y1 v0 v1 v2 v3 v9 v10 h)
@[simp] def zh.k7(C:z5)(E:zbc)(C0:z5)(fL:Nat)(Q:zQ)(Y1:zL)(v0 v1 v2 v3 v9 v10:za)(h:zb):Prop:=B.pv (V.bin .sub v9 (.int .i64 1)) λv50=>B.pv (V.bin .sub v9 (.int .i64 1)) λv53=>B.pv (V.zda E.es v0 v53) λv54=>E.ld h v54 λv55=>B.pv (V.zda E.es v0 v9) λv58=>E.ld h v58 λv59=>B.pv (V.zda E.es v0 v9) λv60=>E.st h v60 v55 λh=>B.pv (V.zda E.es v0 v50) λv61=>E.st h v61 v59 λh=>zh.k6 C E C0 fL Q Y1 v0 v1 v2 v3 v9 v10 h
@[simp] def zh.k8(C:z5)(E:zbc)(C0:z5)(fL:Nat)(Q:zQ)(Y1:zL)(v0 v1 v2 v3 v9 v10:za)(h:zb):Prop:=B.pv (V.bin .sub v2 v1) λv44=>B.pv (V.bin .lss v44 (.int .i64 50)) λv45=>B.cond v45 (Q (.bool false) h) (zh.k7 C E C0 fL Q Y1 v0 v1 v2 v3 v9 v10 h)
@[simp] def zh.k9(C:z5)(E:zbc)(C0:z5)(fL:Nat)(Q:zQ)(Y1:zL)(Y4:zL)(v0 v1 v2 v3 v9 v10:za)(h:zb):Prop:=B.pv (V.bin .lss v9 v2) λv21=>B.gd h v21 true (λK=>K v0 h) λv24 h=>B.gd h v21 true (λK=>K v9 h) λv25 h=>B.gd h v21 true (λK=>B.pv (V.zda E.es v24 v25) λv=>K v h) λv26 h=>B.gd h v21 true (λK=>E.ld h v26 λv=>K v h) λv27 h=>B.gd h v21 true (λK=>K v0 h) λv28 h=>B.gd h v21 true (λK=>K v9 h) λv29 h=>B.gd h v21 true (λK=>B.pv (V.bin .sub v29 (.int .i64 1)) λv=>K v h) λv30 h=>B.gd h v21 true (λK=>B.pv (V.zda E.es v28 v30) λv=>K v h) λv31 h=>B.gd h v21 true (λK=>E.ld h v31 λv=>K v h) λv32 h=>B.gd h v21 true (λK=>B.call C0 fL [v27,v32] h K) λv34 h=>B.gd h v21 true (λK=>B.pv (V.un .not v34) λv=>K v h) λv35 h=>B.pick v21 v35 (.bool false) λv36=>B.cond v36 (B.pv (V.bin .add v9 (.int .i64 1)) λv38=>Y4 [v38] h) (B.pv (V.bin .eql v9 v2) λv41=>B.cond v41 (Q (.bool true) h) (zh.k8 C E C0 fL Q Y1 v0 v1 v2 v3 v9 v10 h))
@[simp] def zh.l10(C:z5)(E:zbc)(C0:z5)(fL:Nat)(Q:zQ)(Y1:zL)(v0 v1 v2 v3 v10:za):zG|[v9],h,Y4=>zh.k9 C E C0 fL Q Y1 Y4 v0 v1 v2 v3 v9 v10 h|_,_,_=>False
@[simp] def zh.k11(C:z5)(E:zbc)(C0:z5)(fL:Nat)(Q:zQ)(Y1:zL)(v0 v1 v2 v3 v9 v10:za)(h:zb):Prop:=B.pv (V.bin .lss v10 (.int .i64 5)) λv16=>B.cond v16 (z0 (zh.l10 C E C0 fL Q Y1 v0 v1 v2 v3 v10) [v9] h) (Q (.bool false) h)
@[simp] def zh.l12(C:z5)(E:zbc)(C0:z5)(fL:Nat)(Q:zQ)(v0 v1 v2 v3:za):zG|[v9,v10],h,Y1=>zh.k11 C E C0 fL Q Y1 v0 v1 v2 v3 v9 v10 h|_,_,_=>False
@[simp] def zh.cps(C:z5)(E:zbc)(C0:z5)(fL:Nat)(v0 v1 v2 v3:za)(h:zb)(Q:zQ):Prop:=B.pv (V.bin .add v1 (.int .i64 1)) λv14=>z0 (zh.l12 C E C0 fL Q v0 v1 v2 v3) [v14,(.int .i64 0)] h
@[simp] def zt.k1(C:z5)(E:zbc)(C0:z5)(fL:Nat)(Q:zQ)(Y1:zL)(v0 v1 v4 v11 v12:za)(h:zb):Prop:=B.pv (V.bin .gtr v11 v12) λv70=>B.cond v70 (Q v11 h) (B.pv (V.zda E.es v0 v12) λv77=>E.ld h v77 λv78=>B.pv (V.zda E.es v0 v11) λv81=>E.ld h v81 λv82=>B.pv (V.zda E.es v0 v11) λv83=>E.st h v83 v78 λh=>B.pv (V.zda E.es v0 v12) λv84=>E.st h v84 v82 λh=>B.pv (V.bin .add v11 (.int .i64 1)) λv86=>B.pv (V.bin .sub v12 (.int .i64 1)) λv88=>Y1 [v86,v88] h)
@[simp] def zt.k2(C:z5)(E:zbc)(C0:z5)(fL:Nat)(Q:zQ)(Y1:zL)(Y2:zL)(v0 v1 v4 v11 v12:za)(h:zb):Prop:=B.pv (V.bin .leq v11 v12) λv52=>B.gd h v52 true (λK=>K v0 h) λv55 h=>B.gd h v52 true (λK=>K v1 h) λv56 h=>B.gd h v52 true (λK=>B.pv (V.zda E.es v55 v56) λv=>K v h) λv57 h=>B.gd h v52 true (λK=>E.ld h v57 λv=>K v h) λv58 h=>B.gd h v52 true (λK=>K v0 h) λv59 h=>B.gd h v52 true (λK=>K v12 h) λv60 h=>B.gd h v52 true (λK=>B.pv (V.zda E.es v59 v60) λv=>K v h) λv61 h=>B.gd h v52 true (λK=>E.ld h v61 λv=>K v h) λv62 h=>B.gd h v52 true (λK=>B.call C0 fL [v58,v62] h K) λv64 h=>B.pick v52 v64 (.bool false) λv65=>B.cond v65 (B.pv (V.bin .sub v12 (.int .i64 1)) λv67=>Y2 [v67] h) (zt.k1 C E C0 fL Q Y1 v0 v1 v4 v11 v12 h)
@[simp] def zt.l3(C:z5)(E:zbc)(C0:z5)(fL:Nat)(Q:zQ)(Y1:zL)(v0 v1 v4 v11:za):zG|[v12],h,Y2=>zt.k2 C E C0 fL Q Y1 Y2 v0 v1 v4 v11 v12 h|_,_,_=>False
@[simp] def zt.k4(C:z5)(E:zbc)(C0:z5)(fL:Nat)(Q:zQ)(Y1:zL)(Y3:zL)(v0 v1 v4 v11 v12:za)(h:zb):Prop:=B.pv (V.bin .leq v11 v12) λv33=>B.gd h v33 true (λK=>K v0 h) λv36 h=>B.gd h v33 true (λK=>K v1 h) λv37 h=>B.gd h v33 true (λK=>B.pv (V.zda E.es v36 v37) λv=>K v h) λv38 h=>B.gd h v33 true (λK=>E.ld h v38 λv=>K v h) λv39 h=>B.gd h v33 true (λK=>K v0 h) λv40 h=>B.gd h v33 true (λK=>K v11 h) λv41 h=>B.gd h v33 true (λK=>B.pv (V.zda E.es v40 v41) λv=>K v h) λv42 h=>B.gd h v33 true (λK=>E.ld h v42 λv=>K v h) λv43 h=>B.gd h v33 true (λK=>B.call C0 fL [v39,v43] h K) λv45 h=>B.gd h v33 true (λK=>B.pv (V.un .not v45) λv=>K v h) λv46 h=>B.pick v33 v46 (.bool false) λv47=>B.cond v47 (B.pv (V.bin .add v11 (.int .i64 1)) λv49=>Y3 [v49] h) (z0 (zt.l3 C E C0 fL Q Y1 v0 v1 v4 v11) [v12] h)
@[simp] def zt.l5(C:z5)(E:zbc)(C0:z5)(fL:Nat)(Q:zQ)(Y1:zL)(v0 v1 v4 v12:za):zG|[v11],h,Y3=>zt.k4 C E C0 fL Q Y1 Y3 v0 v1 v4 v11 v12 h|_,_,_=>False
@[simp] def zt.l6(C:z5)(E:zbc)(C0:z5)(fL:Nat)(Q:zQ)(v0 v1 v4:za):zG|[v11,v12],h,Y1=>z0 (zt.l5 C E C0 fL Q Y1 v0 v1 v4 v12) [v11] h|_,_,_=>False
@[simp] def zt.k7(C:z5)(E:zbc)(C0:z5)(fL:Nat)(Q:zQ)(v0 v1 v2 v4:za)(h:zb):Prop:=B.pv (V.bin .add v1 (.int .i64 1)) λv28=>B.pv (V.bin .sub v2 (.int .i64 1)) λv30=>z0 (zt.l6 C E C0 fL Q v0 v1 v4) [v28,v30] h
@[simp] def zt.k8(C:z5)(E:zbc)(C0:z5)(fL:Nat)(Q:zQ)(v0 v1 v2 v3 v4:za)(h:zb):Prop:=B.pv (V.zda E.es v0 v3) λv19=>E.ld h v19 λv20=>B.pv (V.zda E.es v0 v1) λv23=>E.ld h v23 λv24=>B.pv (V.zda E.es v0 v1) λv25=>E.st h v25 v20 λh=>B.pv (V.zda E.es v0 v3) λv26=>E.st h v26 v24 λh=>zt.k7 C E C0 fL Q v0 v1 v2 v4 h
@[simp] def zt.cps(C:z5)(E:zbc)(C0:z5)(fL:Nat)(v0 v1 v2 v3 v4:za)(h:zb)(Q:zQ):Prop:=zt.k8 C E C0 fL Q v0 v1 v2 v3 v4 h
@[simp] def zl.k1(C:z5)(E:zbc)(C0:z5)(fL:Nat)(Q:zQ)(v0 v1 v13:za)(h:zb):Prop:=B.pv (V.zda E.es v0 v1) λv169=>E.ld h v169 λv170=>B.pv (V.zda E.es v0 v13) λv173=>E.ld h v173 λv174=>B.pv (V.zda E.es v0 v13) λv175=>E.st h v175 v170 λh=>B.pv (V.zda E.es v0 v1) λv176=>E.st h v176 v174 λh=>Q (.tup [v13,(.bool false)]) h
@[simp] def zl.k2(C:z5)(E:zbc)(C0:z5)(fL:Nat)(Q:zQ)(Y1:zL)(v0 v1 v4 v12 v13:za)(h:zb):Prop:=B.pv (V.bin .gtr v12 v13) λv144=>B.cond v144 (zl.k1 C E C0 fL Q v0 v1 v13 h) (B.pv (V.zda E.es v0 v13) λv151=>E.ld h v151 λv152=>B.pv (V.zda E.es v0 v12) λv155=>E.ld h v155 λv156=>B.pv (V.zda E.es v0 v12) λv157=>E.st h v157 v152 λh=>B.pv (V.zda E.es v0 v13) λv158=>E.st h v158 v156 λh=>B.pv (V.bin .add v12 (.int .i64 1)) λv160=>B.pv (V.bin .sub v13 (.int .i64 1)) λv162=>Y1 [v160,v162] h)
@[simp] def zl.k3(C:z5)(E:zbc)(C0:z5)(fL:Nat)(Q:zQ)(Y1:zL)(Y2:zL)(v0 v1 v4 v12 v13:za)(h:zb):Prop:=B.pv (V.bin .leq v12 v13) λv125=>B.gd h v125 true (λK=>K v0 h) λv128 h=>B.gd h v125 true (λK=>K v13 h) λv129 h=>B.gd h v125 true (λK=>B.pv (V.zda E.es v128 v129) λv=>K v h) λv130 h=>B.gd h v125 true (λK=>E.ld h v130 λv=>K v h) λv131 h=>B.gd h v125 true (λK=>K v0 h) λv132 h=>B.gd h v125 true (λK=>K v1 h) λv133 h=>B.gd h v125 true (λK=>B.pv (V.zda E.es v132 v133) λv=>K v h) λv134 h=>B.gd h v125 true (λK=>E.ld h v134 λv=>K v h) λv135 h=>B.gd h v125 true (λK=>B.call C0 fL [v131,v135] h K) λv137 h=>B.gd h v125 true (λK=>B.pv (V.un .not v137) λv=>K v h) λv138 h=>B.pick v125 v138 (.bool false) λv139=>B.cond v139 (B.pv (V.bin .sub v13 (.int .i64 1)) λv141=>Y2 [v141] h) (zl.k2 C E C0 fL Q Y1 v0 v1 v4 v12 v13 h)
@[simp] def zl.l4(C:z5)(E:zbc)(C0:z5)(fL:Nat)(Q:zQ)(Y1:zL)(v0 v1 v4 v12:za):zG|[v13],h,Y2=>zl.k3 C E C0 fL Q Y1 Y2 v0 v1 v4 v12 v13 h|_,_,_=>False
@[simp] def zl.k5(C:z5)(E:zbc)(C0:z5)(fL:Nat)(Q:zQ)(Y1:zL)(Y3:zL)(v0 v1 v4 v12 v13:za)(h:zb):Prop:=B.pv (V.bin .leq v12 v13) λv107=>B.gd h v107 true (λK=>K v0 h) λv110 h=>B.gd h v107 true (λK=>K v12 h) λv111 h=>B.gd h v107 true (λK=>B.pv (V.zda E.es v110 v111) λv=>K v h) λv112 h=>B.gd h v107 true (λK=>E.ld h v112 λv=>K v h) λv113 h=>B.gd h v107 true (λK=>K v0 h) λv114 h=>B.gd h v107 true (λK=>K v1 h) λv115 h=>B.gd h v107 true (λK=>B.pv (V.zda E.es v114 v115) λv=>K v h) λv116 h=>B.gd h v107 true (λK=>E.ld h v116 λv=>K v h) λv117 h=>B.gd h v107 true (λK=>B.call C0 fL [v113,v117] h K) λv119 h=>B.pick v107 v119 (.bool false) λv120=>B.cond v120 (B.pv (V.bin .add v12 (.int .i64 1)) λv122=>Y3 [v122] h) (z0 (zl.l4 C E C0 fL Q Y1 v0 v1 v4 v12) [v13] h)
@[simp] def zl.l6(C:z5)(E:zbc)(C0:z5)(fL:Nat)(Q:zQ)(Y1:zL)(v0 v1 v4 v13:za):zG|[v12],h,Y3=>zl.k5 C E C0 fL Q Y1 Y3 v0 v1 v4 v12 v13 h|_,_,_=>False
@[simp] def zl.l7(C:z5)(E:zbc)(C0:z5)(fL:Nat)(Q:zQ)(v0 v1 v4:za):zG|[v12,v13],h,Y1=>z0 (zl.l6 C E C0 fL Q Y1 v0 v1 v4 v13) [v12] h|_,_,_=>False
@[simp] def zl.k8(C:z5)(E:zbc)(C0:z5)(fL:Nat)(Q:zQ)(v0 v1 v4 v12 v13:za)(h:zb):Prop:=B.pv (V.bin .add v12 (.int .i64 1)) λv102=>B.pv (V.bin .sub v13 (.int .i64 1)) λv104=>z0 (zl.l7 C E C0 fL Q v0 v1 v4) [v102,v104] h
@[simp] def zl.k9(C:z5)(E:zbc)(C0:z5)(fL:Nat)(Q:zQ)(v0 v1 v4 v12 v13:za)(h:zb):Prop:=B.pv (V.zda E.es v0 v13) λv93=>E.ld h v93 λv94=>B.pv (V.zda E.es v0 v12) λv97=>E.ld h v97 λv98=>B.pv (V.zda E.es v0 v12) λv99=>E.st h v99 v94 λh=>B.pv (V.zda E.es v0 v13) λv100=>E.st h v100 v98 λh=>zl.k8 C E C0 fL Q v0 v1 v4 v12 v13 h
@[simp] def zl.k10(C:z5)(E:zbc)(C0:z5)(fL:Nat)(Q:zQ)(v0 v1 v4 v12 v13:za)(h:zb):Prop:=B.pv (V.bin .gtr v12 v13) λv71=>B.cond v71 (B.pv (V.zda E.es v0 v1) λv78=>E.ld h v78 λv79=>B.pv (V.zda E.es v0 v13) λv82=>E.ld h v82 λv83=>B.pv (V.zda E.es v0 v13) λv84=>E.st h v84 v79 λh=>B.pv (V.zda E.es v0 v1) λv85=>E.st h v85 v83 λh=>Q (.tup [v13,(.bool true)]) h) (zl.k9 C E C0 fL Q v0 v1 v4 v12 v13 h)
@[simp] def zl.k11(C:z5)(E:zbc)(C0:z5)(fL:Nat)(Q:zQ)(Y4:zL)(v0 v1 v4 v12 v13:za)(h:zb):Prop:=B.pv (V.bin .leq v12 v13) λv52=>B.gd h v52 true (λK=>K v0 h) λv55 h=>B.gd h v52 true (λK=>K v13 h) λv56 h=>B.gd h v52 true (λK=>B.pv (V.zda E.es v55 v56) λv=>K v h) λv57 h=>B.gd h v52 true (λK=>E.ld h v57 λv=>K v h) λv58 h=>B.gd h v52 true (λK=>K v0 h) λv59 h=>B.gd h v52 true (λK=>K v1 h) λv60 h=>B.gd h v52 true (λK=>B.pv (V.zda E.es v59 v60) λv=>K v h) λv61 h=>B.gd h v52 true (λK=>E.ld h v61 λv=>K v h) λv62 h=>B.gd h v52 true (λK=>B.call C0 fL [v58,v62] h K) λv64 h=>B.gd h v52 true (λK=>B.pv (V.un .not v64) λv=>K v h) λv65 h=>B.pick v52 v65 (.bool false) λv66=>B.cond v66 (B.pv (V.bin .sub v13 (.int .i64 1)) λv68=>Y4 [v68] h) (zl.k10 C E C0 fL Q v0 v1 v4 v12 v13 h)
@[simp] def zl.l12(C:z5)(E:zbc)(C0:z5)(fL:Nat)(Q:zQ)(v0 v1 v4 v12:za):zG|[v13],h,Y4=>zl.k11 C E C0 fL Q Y4 v0 v1 v4 v12 v13 h|_,_,_=>False
@[simp] def zl.k13(C:z5)(E:zbc)(C0:z5)(fL:Nat)(Q:zQ)(Y5:zL)(v0 v1 v4 v12 v13:za)(h:zb):Prop:=B.pv (V.bin .leq v12 v13) λv34=>B.gd h v34 true (λK=>K v0 h) λv37 h=>B.gd h v34 true (λK=>K v12 h) λv38 h=>B.gd h v34 true (λK=>B.pv (V.zda E.es v37 v38) λv=>K v h) λv39 h=>B.gd h v34 true (λK=>E.ld h v39 λv=>K v h) λv40 h=>B.gd h v34 true (λK=>K v0 h) λv41 h=>B.gd h v34 true (λK=>K v1 h) λv42 h=>B.gd h v34 true (λK=>B.pv (V.zda E.es v41 v42) λv=>K v h) λv43 h=>B.gd h v34 true (λK=>E.ld h v43 λv=>K v h) λv44 h=>B.gd h v34 true (λK=>B.call C0 fL [v40,v44] h K) λv46 h=>B.pick v34 v46 (.bool false) λv47=>B.cond v47 (B.pv (V.bin .add v12 (.int .i64 1)) λv49=>Y5 [v49] h) (z0 (zl.l12 C E C0 fL Q v0 v1 v4 v12) [v13] h)
@[simp] def zl.l14(C:z5)(E:zbc)(C0:z5)(fL:Nat)(Q:zQ)(v0 v1 v4 v13:za):zG|[v12],h,Y5=>zl.k13 C E C0 fL Q Y5 v0 v1 v4 v12 v13 h|_,_,_=>False
@[simp] def zl.k15(C:z5)(E:zbc)(C0:z5)(fL:Nat)(Q:zQ)(v0 v1 v2 v4:za)(h:zb):Prop:=B.pv (V.bin .add v1 (.int .i64 1)) λv29=>B.pv (V.bin .sub v2 (.int .i64 1)) λv31=>z0 (zl.l14 C E C0 fL Q v0 v1 v4 v31) [v29] h
@[simp] def zl.k16(C:z5)(E:zbc)(C0:z5)(fL:Nat)(Q:zQ)(v0 v1 v2 v3 v4:za)(h:zb):Prop:=B.pv (V.zda E.es v0 v3) λv20=>E.ld h v20 λv21=>B.pv (V.zda E.es v0 v1) λv24=>E.ld h v24 λv25=>B.pv (V.zda E.es v0 v1) λv26=>E.st h v26 v21 λh=>B.pv (V.zda E.es v0 v3) λv27=>E.st h v27 v25 λh=>zl.k15 C E C0 fL Q v0 v1 v2 v4 h
@[simp] def zl.cps(C:z5)(E:zbc)(C0:z5)(fL:Nat)(v0 v1 v2 v3 v4:za)(h:zb)(Q:zQ):Prop:=zl.k16 C E C0 fL Q v0 v1 v2 v3 v4 h
@[simp] def zc8.k1(C:z5)(E:zbc)(C0:z5)(fL:Nat)(Q:zQ)(Y1:zL)(v0 v2 v3 v4 v10 v11:za)(h:zb):Prop:=B.pv (V.bin .add v3 v10) λv47=>B.pv (V.zda E.es v0 v47) λv48=>E.ld h v48 λv49=>B.pv (V.bin .add v3 v11) λv53=>B.pv (V.zda E.es v0 v53) λv54=>E.ld h v54 λv55=>B.call C0 fL [v49,v55] h λv57 h=>B.pv (V.un .not v57) λv58=>B.cond v58 (Q (.tup []) h) (B.pv (V.bin .add v3 v10) λv62=>B.pv (V.bin .add v3 v11) λv66=>B.pv (V.bin .add v3 v11) λv70=>B.pv (V.zda E.es v0 v70) λv71=>E.ld h v71 λv72=>B.pv (V.bin .add v3 v10) λv76=>B.pv (V.zda E.es v0 v76) λv77=>E.ld h v77 λv78=>B.pv (V.zda E.es v0 v62) λv79=>E.st h v79 v72 λh=>B.pv (V.zda E.es v0 v66) λv80=>E.st h v80 v78 λh=>Y1 [v11] h)
@[simp] def zc8.k2(C:z5)(E:zbc)(C0:z5)(fL:Nat)(Q:zQ)(Y1:zL)(v0 v2 v3 v4 v10 v11:za)(h:zb):Prop:=B.pv (V.bin .add v11 (.int .i64 1)) λv20=>B.pv (V.bin .lss v20 v2) λv22=>B.gd h v22 true (λK=>K v0 h) λv25 h=>B.gd h v22 true (λK=>K v3 h) λv26 h=>B.gd h v22 true (λK=>K v11 h) λv27 h=>B.gd h v22 true (λK=>B.pv (V.bin .add v26 v27) λv=>K v h) λv28 h=>B.gd h v22 true (λK=>B.pv (V.zda E.es v25 v28) λv=>K v h) λv29 h=>B.gd h v22 true (λK=>E.ld h v29 λv=>K v h) λv30 h=>B.gd h v22 true (λK=>K v0 h) λv31 h=>B.gd h v22 true (λK=>K v3 h) λv32 h=>B.gd h v22 true (λK=>K v11 h) λv33 h=>B.gd h v22 true (λK=>B.pv (V.bin .add v32 v33) λv=>K v h) λv34 h=>B.gd h v22 true (λK=>B.pv (V.bin .add v34 (.int .i64 1)) λv=>K v h) λv35 h=>B.gd h v22 true (λK=>B.pv (V.zda E.es v31 v35) λv=>K v h) λv36 h=>B.gd h v22 true (λK=>E.ld h v36 λv=>K v h) λv37 h=>B.gd h v22 true (λK=>B.call C0 fL [v30,v37] h K) λv39 h=>B.pick v22 v39 (.bool false) λv40=>B.cond v40 (B.pv (V.bin .add v11 (.int .i64 1)) λv42=>zc8.k1 C E C0 fL Q Y1 v0 v2 v3 v4 v10 v42 h) (zc8.k1 C E C0 fL Q Y1 v0 v2 v3 v4 v10 v11 h)
@[simp] def zc8.k3(C:z5)(E:zbc)(C0:z5)(fL:Nat)(Q:zQ)(Y1:zL)(v0 v2 v3 v4 v10:za)(h:zb):Prop:=B.pv (V.bin .mul (.int .i64 2) v10) λv14=>B.pv (V.bin .add v14 (.int .i64 1)) λv15=>B.pv (V.bin .geq v15 v2) λv18=>B.cond v18 (Q (.tup []) h) (zc8.k2 C E C0 fL Q Y1 v0 v2 v3 v4 v10 v15 h)
@[simp] def zc8.l4(C:z5)(E:zbc)(C0:z5)(fL:Nat)(Q:zQ)(v0 v2 v3 v4:za):zG|[v10],h,Y1=>zc8.k3 C E C0 fL Q Y1 v0 v2 v3 v4 v10 h|_,_,_=>False
@[simp] def zc8.cps(C:z5)(E:zbc)(C0:z5)(fL:Nat)(v0 v1 v2 v3 v4:za)(h:zb)(Q:zQ):Prop:=z0 (zc8.l4 C E C0 fL Q v0 v2 v3 v4) [v1] h
@[simp] def zef.k1(C:z5)(E:zbc)(C0:z5)(fL:Nat)(f1:Nat)(Q:zQ)(v0 v1 v2 v3:za)(h:zb):Prop:=B.pv (V.bin .sub v1 (.int .i64 1)) λv11=>B.pv (V.bin .add v1 (.int .i64 1)) λv14=>B.call C f1 [v0,v11,v1,v14,v2,v3] h λv17 h=>Q v17 h
@[simp] def zef.cps(C:z5)(E:zbc)(C0:z5)(fL:Nat)(f1:Nat)(v0 v1 v2 v3:za)(h:zb)(Q:zQ):Prop:=zef.k1 C E C0 fL f1 Q v0 v1 v2 v3 h
@[simp] def zfu.k1(C:z5)(E:zbc)(C0:z5)(fL:Nat)(f1:Nat)(Q:zQ)(v0 v1 v2 v3 v4 v5:za)(h:zb):Prop:=B.call C f1 [v0,v1,v2,v4,v5] h λv19 h=>B.pv (V.ext 0 v19) λv20=>B.pv (V.ext 1 v19) λv21=>B.call C f1 [v0,v21,v3,v4,v5] h λv28 h=>B.pv (V.ext 0 v28) λv29=>B.pv (V.ext 1 v28) λv30=>B.call C f1 [v0,v20,v29,v4,v5] h λv37 h=>B.pv (V.ext 0 v37) λv38=>B.pv (V.ext 1 v37) λv39=>Q v39 h
@[simp] def zfu.cps(C:z5)(E:zbc)(C0:z5)(fL:Nat)(f1:Nat)(v0 v1 v2 v3 v4 v5:za)(h:zb)(Q:zQ):Prop:=zfu.k1 C E C0 fL f1 Q v0 v1 v2 v3 v4 v5 h
@[simp] def zft.k1(C:z5)(E:zbc)(C0:z5)(fL:Nat)(Q:zQ)(v0 v1 v2 v3 v4:za)(h:zb):Prop:=B.pv (V.zda E.es v0 v2) λv15=>E.ld h v15 λv16=>B.pv (V.zda E.es v0 v1) λv19=>E.ld h v19 λv20=>B.call C0 fL [v16,v20] h λv22 h=>B.cond v22 (B.nilCheck v3 λv24=>B.ld h v24 λv25=>B.pv (V.bin .add v25 (.int .i64 1)) λv26=>B.nilCheck v3 λv27=>B.st h v27 v26 λh=>Q (.tup [v2,v1]) h) (Q (.tup [v1,v2]) h)
@[simp] def zft.cps(C:z5)(E:zbc)(C0:z5)(fL:Nat)(v0 v1 v2 v3 v4:za)(h:zb)(Q:zQ):Prop:=zft.k1 C E C0 fL Q v0 v1 v2 v3 v4 h
structure zne{T:Type}(less:T->T->Bool):Prop where
 asym:∀{a b},less a b=true->less b a=false
 zo7:∀{a b c},less a b=false->less b c=false->less a c=false
section
variable{T:Type}{less:T->T->Bool}
theorem zne.irr(W:zne less)(a:T):less a a=false:=by
 cases h:less a a with
 | false=>rfl
 | true=>have:=W.asym h;rw[h]at this;cases this
theorem zne.trans(W:zne less){a b c:T}(h1:less a b=true)(h2:less b c=true):less a c=true:=by
 cases h:less a c with
 | true=>rfl
 | false=>have:=W.zo7 h (W.asym h2);rw[h1]at this;cases this
def lt'(less:T->T->Bool)(x y:T×Nat):Prop:=less x.1 y.1=true \/ (less y.1 x.1=false /\ x.2<y.2)
theorem lt'_trans(W:zne less){x y z:T×Nat}(h1:lt' less x y)(h2:lt' less y z):lt' less x z:=by
 unfold lt' at *;rcases h1 with h1|⟨h1,n1⟩<;>rcases h2 with h2|⟨h2,n2⟩
 ·exact .inl (W.trans h1 h2)
 ·left
  cases h:less x.1 z.1 with
  | true=>rfl
  | false=>have:=W.zo7 h h2;rw[h1]at this;cases this
 ·left
  cases h:less x.1 z.1 with
  | true=>rfl
  | false=>have:=W.zo7 h1 h;rw[h2]at this;cases this
 ·exact .inr ⟨W.zo7 h2 h1,by omega⟩
theorem lt'_gt{x y:T×Nat}(hn:y.2<x.2):lt' less x y↔less x.1 y.1=true:=⟨λh=>h.elim id λ⟨_,h⟩=>by omega,.inl⟩
theorem lt'_le(W:zne less){x y:T×Nat}(hn:x.2<y.2):lt' less x y↔less y.1 x.1=false:=⟨λh=>h.elim (λh=>W.asym h) λ⟨h,_⟩=>h,λh=> .inr ⟨h,hn⟩⟩
end
variable{C:z5}{N:zN}
theorem zgm{a:Nat}(h:a<4611686018427387904):V.bin .add (.int .i64 (a:Int)) (.int .i64 1)=some (.int .i64 ((a+1:Nat):Int)):=by
 rw[V.zia,wrap_i64 (by omega) (by omega)];simp
theorem sub1{a:Nat}(h:1 <= a)(ha:a<4611686018427387904):V.bin .sub (.int .i64 (a:Int)) (.int .i64 1)=some (.int .i64 ((a-1:Nat):Int)):=by
 rw[V.zjc,wrap_i64 (by omega) (by omega)];congr 2;omega
theorem zoq{a b:Nat}:V.bin .lss (.int .i64 (a:Int)) (.int .i64 (b:Int))=some (.bool (decide (a<b))):=by rw[V.zey];congr 3;exact propext (by omega)
theorem leqN{a b:Nat}:V.bin .leq (.int .i64 (a:Int)) (.int .i64 (b:Int))=some (.bool (decide (a <= b))):=by rw[V.bin_leq];congr 3;exact propext (by omega)
theorem gtrN{a b:Nat}:V.bin .gtr (.int .i64 (a:Int)) (.int .i64 (b:Int))=some (.bool (decide (b<a))):=by rw[V.znc];congr 3;exact propext (by omega)
structure zea(E:zbc){X:Type}(cs:X->List za)(v:X->za):Prop where
 pos:0<E.es
 small:E.bytes <= 1000
 zlen:E.z.length=E.es
 len:∀t,(cs t).length=E.es
 new:∀t,zee [(0,E.kp,v t)] (zf7 1 E.z)=some (cs t)
 ld:∀{h:zb}{x:za}{L R:List (List za)}{i:Nat}{t:X}{K:za->Prop},SlX h E.es x L R->L[i]?=some (cs t)->K (v t)->E.ld h (elp E.es x i 0) K
 kpt:∀{h:zb}{x:za}{L R:List (List za)}{i:Nat}{t:X},SlX h E.es x L R->L[i]?=some (cs t)->Kp h (elp E.es x i 0) E.kp
 st:∀{h0 h:zb}{x:za}{L R:List (List za)}{i:Nat}{c:List za}{t:X}{K:zb->Prop},zc6 h0 h [.sl E.es x L R]->L[i]?=some c ->
  (∀h',zc6 h0 h' [.sl E.es x (L.set i (cs t)) R]->K h')->E.st h (elp E.es x i 0) (v t) K
theorem zea.comp{E:zbc}{X Y:Type}{cs:X->List za}{v:X->za}(S:zea E cs v)(f:Y->X):zea E (λy=>cs (f y)) (λy=>v (f y)):=⟨S.pos,S.small,S.zlen,λt=>S.len _,λt=>S.new _,λh1 h2 h3=>S.ld h1 h2 h3,λh1 h2=>S.kpt h1 h2,λh1 h2 h3=>S.st h1 h2 h3⟩
theorem seqS{X:Type}{bytes f:Nat}{z:za}{v:X->za}(hb:bytes <= 1000)(hc:∀t,(v t).zec=true):zea (zdh bytes z f) (λt=>[v t]) v where
 pos:=Nat.one_pos
 small:=hb
 zlen:=rfl
 len _:=rfl
 new t:=by simp[zdh,hc,zf7]
 ld hs hcc hk:=by
  simp only[zdh,B.zeh]at hs ⊢;rw[hs.cell hcc];exact hk
 kpt hs hcc:=⟨_,hs.cell hcc⟩
 st {h0 h x L R i c t K} ho hcc hk:=by
  have hs:SlX h 1 x L R:=ho.zj4 0 rfl;have hcl:c.length=1:=hs.len c (mem_append_left _ (mem_of_getElem? hcc));obtain⟨u,rfl⟩:=length_eq_one_iff.1 hcl;exact ho.st 0 rfl hcc (by show 0<1;omega) (hc _) λh' h1 _=>hk h' h1
def Rw(E:zbc){X:Type}(cs:X->List za)(h0 h:zb)(x:za)(G:List X)(R:List (List za)):Prop:=zc6 h0 h [.sl E.es x (G.map cs) R]
section
variable{E:zbc}{X:Type}{cs:X->List za}{v:X->za}{h0 h:zb}{x:za}{G:List X}{R:List (List za)}
theorem Rw.idx(ho:Rw E cs h0 h x G R){i:Nat}(hi:i<G.length):V.zda E.es x (.int .i64 (i:Int))=some (elp E.es x i 0):=(zc6.zj4 ho 0 rfl).zmq (by simpa using hi)
theorem Rw.lenE(ho:Rw E cs h0 h x G R):V.zde x=some (.int .i64 G.length):=by have:=(zc6.zj4 ho 0 rfl).zde;simpa using this
theorem Rw.le(ho:Rw E cs h0 h x G R):h0.le h:=zc6.le ho
theorem Rw.ld(ho:Rw E cs h0 h x G R)(S:zea E cs v){i:Nat}{t:X}(hg:G[i]?=some t){K:za->Prop}(hk:K (v t)):E.ld h (elp E.es x i 0) K:=
 S.ld (zc6.zj4 ho 0 rfl) (by rw[getElem?_map,hg];rfl) hk
theorem Rw.st(ho:Rw E cs h0 h x G R)(S:zea E cs v){i:Nat}{t:X}(hi:i<G.length){K:zb->Prop}(hk:∀h',Rw E cs h0 h' x (G.set i t) R->K h'):E.st h (elp E.es x i 0) (v t) K:=
 S.st ho (c:=cs G[i]) (by rw[getElem?_map,getElem?_eq_getElem hi];rfl) λh' h1=>hk h' (by unfold Rw;rwa [map_set])
theorem set_mid{P Q:List X}{a b:X}{i:Nat}(hi:i=P.length):(P++a::Q).set i b=P++b::Q:=by subst hi;simp
theorem get_mid{P Q:List X}{a:X}{i:Nat}(hi:i=P.length):(P++a::Q)[i]?=some a:=by subst hi;simp
theorem set_mid2{P Q T:List X}{a b c:X}{j:Nat}(hj:j=P.length+1+Q.length):(P++a::(Q++b::T)).set j c=P++a::(Q++c::T):=by
 have:=set_mid (P:=P++a::Q) (Q:=T) (a:=b) (b:=c) (i:=j) (by simp;omega);simpa using this
theorem get_mid2{P Q T:List X}{a b:X}{j:Nat}(hj:j=P.length+1+Q.length):(P++a::(Q++b::T))[j]?=some b:=by
 have:=get_mid (P:=P++a::Q) (Q:=T) (a:=b) (i:=j) (by simp;omega);simpa using this
theorem Rw.swapDn{P Q T:List X}{a b:X}{i j:Nat}(ho:Rw E cs h0 h x (P++a::(Q++b::T)) R)(S:zea E cs v)(hi:i=P.length)(hj:j=P.length+1+Q.length){K:zb->Prop}
  (hk:∀h',Rw E cs h0 h' x (P++b::(Q++a::T)) R->K h'):E.st h (elp E.es x j 0) (v a) λh=>E.st h (elp E.es x i 0) (v b) K:=by
 refine ho.st S (by simp;omega) λh1 o1=>?_;rw[set_mid2 hj]at o1;refine o1.st S (by simp;omega) λh2 o2=>hk h2 ?_
 rwa [set_mid hi]at o2
end
section
variable{E:zbc}{T:Type}{cs:T->List za}{v:T->za}{c:T->T->Int}{h0 h:zb}{x f:za}{R:List (List za)}{Q:zQ}
def zex(c:T->T->Int)(a b:T):Bool:=decide (c a b<0)
theorem nil_or_snoc{X:Type}(L:List X):L=[] \/ ∃L0 y,L=L0++[y]:=by
 rcases eq_nil_or_concat L with h|⟨A,b,h⟩
 ·exact .inl h
 ·exact .inr ⟨A,b,by rw[h,concat_eq_append]⟩
end
variable{C:z5}{N:zN}
section
variable{E:zbc}{X:Type}{cs:X->List za}{v:X->za}{h0 h:zb}{x f:za}{R:List (List za)}{Q:zQ}
end
variable{C:z5}{N:zN}
section
variable{E:zbc}{T:Type}{cs:T->List za}{v:T->za}{c:T->T->Int}{h0 h:zb}{x f:za}{R:List (List za)}{Q:zQ}
end
variable{C:z5}{N:zN}
section
variable{E:zbc}{T:Type}{cs:T->List za}{v:T->za}{c:T->T->Int}{h0 h:zb}{x f:za}{R:List (List za)}{Q:zQ}
end
variable{C:z5}{N:zN}
section
variable{E:zbc}{T:Type}{cs:T->List za}{v:T->za}{c:T->T->Int}{h0 h:zb}{x f:za}{R:List (List za)}{Q:zQ}
end
variable{C:z5}{N:zN}
section
variable{E:zbc}{T:Type}{cs:T->List za}{v:T->za}{c:T->T->Int}{h0 h:zb}{x f:za}{R:List (List za)}{Q:zQ}
end
variable{C:z5}{N:zN}
section
variable{E:zbc}{T:Type}{cs:T->List za}{v:T->za}{c:T->T->Int}{h0 h:zb}{x f:za}{R:List (List za)}{Q:zQ}
end
variable{C:z5}{N:zN}
section
variable{E:zbc}{T:Type}{cs:T->List za}{v:T->za}{c:T->T->Int}{h0 h:zb}{x f:za}{R:List (List za)}{Q:zQ}
end
section
variable{T:Type}{c:T->T->Int}
end
variable{C:z5}{N:zN}
section
variable{E:zbc}{T:Type}{cs:T->List za}{v:T->za}
end
variable{C:z5}
structure zdi{X:Type}(a b:Nat)(G G':List X):Prop where
 perm:G'.Perm G
 out:∀i,i<a \/ b <= i->G'[i]?=G[i]?
theorem zdi.refl{X:Type}(a b:Nat)(G:List X):zdi a b G G:=⟨.refl _,λ_ _=>rfl⟩
theorem zdi.trans{X:Type}{a b:Nat}{G G' G'':List X}(x:zdi a b G G')(y:zdi a b G' G''):zdi a b G G'':=⟨y.perm.trans x.perm,λi hi=>(y.out i hi).trans (x.out i hi)⟩
theorem zdi.mono{X:Type}{a b a' b':Nat}{G G':List X}(x:zdi a b G G')(ha:a' <= a)(hb:b <= b'):zdi a' b' G G':=⟨x.perm,λi hi=>x.out i (by omega)⟩
theorem zdi.len{X:Type}{a b:Nat}{G G':List X}(x:zdi a b G G'):G'.length=G.length:=x.perm.length_eq
theorem zdi.same{X:Type}{a b:Nat}{G G':List X}(w:zdi a b G G'){k:Nat}(hk:k<a \/ b <= k)(h1:k<G'.length)(h2:k<G.length):G'[k]=G[k]:=by
 have:=w.out k hk;rw[getElem?_eq_getElem h1,getElem?_eq_getElem h2]at this;exact Option.some.inj this
def swp{X:Type}(G:List X)(i j:Nat)(hi:i<G.length)(hj:j<G.length):List X:=(G.set i G[j]).set j G[i]
theorem swp_perm{X:Type}{G:List X}{i j:Nat}(hi:i<G.length)(hj:j<G.length):(swp G i j hi hj).Perm G:=by
 unfold swp;exact set_set_perm hi hj
theorem swp_get{X:Type}{G:List X}{i j:Nat}(hi:i<G.length)(hj:j<G.length)(k:Nat):(swp G i j hi hj)[k]?=if k=j then some G[i] else if k=i then some G[j] else G[k]? :=by
 unfold swp;rw[getElem?_set];by_cases e:j=k
 ·subst e;simp[hj]
 ·rw[if_neg e,if_neg (Ne.symm e),getElem?_set]
  by_cases e2:i=k
  ·subst e2;simp[hi]
  ·rw[if_neg e2,if_neg (Ne.symm e2)]
theorem zfb{X:Type}{G:List X}{i j a b:Nat}(hi:i<G.length)(hj:j<G.length)(h1:a <= i)(h2:i<b)(h3:a <= j)(h4:j<b):zdi a b G (swp G i j hi hj):=⟨swp_perm hi hj,λk hk=>by
 rw[swp_get,if_neg (by omega),if_neg (by omega)]⟩
section
variable{E:zbc}{X:Type}{cs:X->List za}{v:X->za}{h0 h:zb}{x f:za}{G:List X}{R:List (List za)}{c:X->X->Int}
theorem Rw.swap(ho:Rw E cs h0 h x G R)(S:zea E cs v){i j:Nat}(hi:i<G.length)(hj:j<G.length){K:zb->Prop}(hk:∀h',Rw E cs h0 h' x (swp G i j hi hj) R->K h'):
  E.st h (elp E.es x i 0) (v G[j]) λh=>E.st h (elp E.es x j 0) (v G[i]) K:=by
 refine ho.st S (t:=G[j]) hi λh1 o1=>?_;exact o1.st S (t:=G[i]) (by simpa using hj) λh2 o2=>hk h2 o2
theorem quo4{a:Nat}(h:a<4611686018427387904):V.bin .quo (.int .i64 (a:Int)) (.int .i64 4)=some (.int .i64 ((a / 4:Nat):Int)):=by
 rw[V.bin_quo _ _ _ (by omega),show (a:Int).tdiv 4=((a / 4:Nat):Int) from rfl,wrap_i64 (by omega) (by omega)]
theorem mulN{a b:Nat}(h:a*b<4611686018427387904):V.bin .mul (.int .i64 (a:Int)) (.int .i64 (b:Int))=some (.int .i64 ((a*b:Nat):Int)):=by
 rw[V.bin_mul,show (a:Int)*(b:Int)=((a*b:Nat):Int) by simp,wrap_i64 (by omega) (by omega)]
theorem zpv{a b:Nat}(h:a+b<4611686018427387904):V.bin .add (.int .i64 (a:Int)) (.int .i64 (b:Int))=some (.int .i64 ((a+b:Nat):Int)):=by
 rw[V.zia,show (a:Int)+(b:Int)=((a+b:Nat):Int) by simp,wrap_i64 (by omega) (by omega)]
theorem zj2{a b:Nat}(h:b <= a)(h2:a<4611686018427387904):V.bin .sub (.int .i64 (a:Int)) (.int .i64 (b:Int))=some (.int .i64 ((a-b:Nat):Int)):=by
 rw[V.zjc,show (a:Int)-(b:Int)=((a-b:Nat):Int) by omega,wrap_i64 (by omega) (by omega)]
theorem geqN{a b:Nat}:V.bin .geq (.int .i64 (a:Int)) (.int .i64 (b:Int))=some (.bool (decide (b <= a))):=by rw[V.znd];congr 3;exact propext (by omega)
end
variable{C:z5}
structure zru{X:Type}(c:X->X->Int)(a b:Nat)(G:List X)(i j:Nat):Prop where
 hb:b <= G.length
 hi:a<i
 hj:j<b
 hij:i <= j+1
 lo:∀k (h:k<G.length) (ha:a<G.length),a<k->k<i->c G[k] G[a]<0
 hi2:∀k (h:k<G.length) (ha:a<G.length),j<k->k<b->¬ c G[k] G[a]<0
structure zju{X:Type}(c:X->X->Int)(a b m:Nat)(G:List X):Prop where
 ge:a <= m
 lt:m<b
 hb:b <= G.length
 lo:∀k (h:k<G.length) (hm:m<G.length),a <= k->k<m->c G[k] G[m]<0
 hi:∀k (h:k<G.length) (hm:m<G.length),m<k->k<b->¬ c G[k] G[m]<0
section
variable{E:zbc}{X:Type}{cs:X->List za}{v:X->za}{h0 h:zb}{x f:za}{G:List X}{R:List (List za)}{c:X->X->Int}{Q:zQ}{Y1:zL}{a b i j:Nat}
theorem zgs{X:Type}{G:List X}{i j:Nat}(hi:i<G.length)(hj:j<G.length){k:Nat}(hk:k<(swp G i j hi hj).length)(hk':k<G.length):(swp G i j hi hj)[k]=if k=j then G[i] else if k=i then G[j] else G[k]:=by
 have:=swp_get hi hj k;rw[getElem?_eq_getElem hk]at this;split at this
 ·rename_i e;rw[if_pos e];exact Option.some.inj this
 ·rename_i e;rw[if_neg e]
  split at this
  ·rename_i e2;rw[if_pos e2];exact Option.some.inj this
  ·rename_i e2;rw[if_neg e2,getElem?_eq_getElem hk']at *;exact Option.some.inj this
theorem zjw{X:Type}{G:List X}{i j:Nat}(hi:i<G.length)(hj:j<G.length):(swp G i j hi hj).length=G.length:=by simp[swp]
theorem zru.done(p:zru c a b G i j)(hab:a<b)(hc:j<i)(hj:j<G.length)(ha:a<G.length):zju c a b j (swp G j a hj ha):=by
 have h1:=p.hi;have h2:=p.hij;have h3:=p.hj;have h4:=p.hb;have hl:=zjw hj ha;have pj:∀(hm:j<(swp G j a hj ha).length),(swp G j a hj ha)[j]=G[a]:=λhm=>by
  rw[zgs hj ha hm hj];by_cases e:j=a
  ·subst e;simp
  ·rw[if_neg e,if_pos rfl]
 refine⟨by omega,h3,by omega,λk hk hm k1 k2=>?_,λk hk hm k1 k2=>?_⟩
 ·rw[pj,zgs hj ha hk (by omega)]
  by_cases e:k=a
  ·rw[if_pos e];exact p.lo j hj ha (by omega) (by omega)
  ·rw[if_neg e,if_neg (by omega)];exact p.lo k (by omega) ha (by omega) (by omega)
 ·rw[pj,zgs hj ha hk (by omega),if_neg (by omega),if_neg (by omega)]
  exact p.hi2 k (by omega) ha k1 k2
theorem zru.swap(p:zru c a b G i j)(hc:i <= j)(hi:i<G.length)(hj:j<G.length)(ha:a<G.length)(h1:¬ c G[i] G[a]<0)(h2:c G[j] G[a]<0):zru c a b (swp G i j hi hj) (i+1) (j-1):=by
 have k1:=p.hi;have k2:=p.hij;have k3:=p.hj;have k4:=p.hb;have hne:i≠j:=λe=>by subst e;exact h1 h2
 have hl:=zjw hi hj;have pa:∀(hm:a<(swp G i j hi hj).length),(swp G i j hi hj)[a]=G[a]:=λhm=>by rw[zgs hi hj hm ha,if_neg (by omega),if_neg (by omega)]
 refine⟨by omega,by omega,by omega,by omega,λk hk hm q1 q2=>?_,λk hk hm q1 q2=>?_⟩
 ·rw[pa,zgs hi hj hk (by omega),if_neg (by omega)]
  by_cases e:k=i
  ·rw[if_pos e];exact h2
  ·rw[if_neg e];exact p.lo k (by omega) ha q1 (by omega)
 ·rw[pa,zgs hi hj hk (by omega)]
  by_cases e:k=j
  ·rw[if_pos e];exact h1
  ·rw[if_neg e,if_neg (by omega)];exact p.hi2 k (by omega) ha (by omega) q2
end
variable{C:z5}
section
variable{E:zbc}{X:Type}{cs:X->List za}{v:X->za}{h0 h:zb}{x f:za}{G:List X}{R:List (List za)}{c:X->X->Int}{Q:zQ}{a b i j:Nat}
abbrev PartQ(E:zbc){X:Type}(cs:X->List za)(h0:zb)(x:za)(c:X->X->Int)(a b:Nat)(R:List (List za))(G:List X)(Q:zQ):Prop:=∀h' m G' t,zju c a b m G'->zdi a b G G'->Rw E cs h0 h' x G' R->Q (.tup [.int .i64 (m:Int),.bool t]) h'
end
variable{C:z5}
structure EInv{X:Type}(c:X->X->Int)(a b:Nat)(G:List X)(i j:Nat):Prop where
 hb:b <= G.length
 hi:a<i
 hj:j<b
 hij:i <= j+1
 lo:∀k (h:k<G.length) (ha:a<G.length),a<k->k<i->¬ c G[a] G[k]<0
 hi2:∀k (h:k<G.length) (ha:a<G.length),j<k->k<b->c G[a] G[k]<0
theorem EInv.swap{X:Type}{c:X->X->Int}{a b i j:Nat}{G:List X}(p:EInv c a b G i j)(hc:i <= j)(hi:i<G.length)(hj:j<G.length)(ha:a<G.length)(h1:c G[a] G[i]<0)(h2:¬ c G[a] G[j]<0):EInv c a b (swp G i j hi hj) (i+1) (j-1):=by
 have k1:=p.hi;have k2:=p.hij;have k3:=p.hj;have k4:=p.hb;have hne:i≠j:=λe=>by subst e;exact h2 h1
 have hl:=zjw hi hj;have pa:∀(hm:a<(swp G i j hi hj).length),(swp G i j hi hj)[a]=G[a]:=λhm=>by rw[zgs hi hj hm ha,if_neg (by omega),if_neg (by omega)]
 refine⟨by omega,by omega,by omega,by omega,λk hk hm q1 q2=>?_,λk hk hm q1 q2=>?_⟩
 ·rw[pa,zgs hi hj hk (by omega),if_neg (by omega)]
  by_cases e:k=i
  ·rw[if_pos e];exact h2
  ·rw[if_neg e];exact p.lo k (by omega) ha q1 (by omega)
 ·rw[pa,zgs hi hj hk (by omega)]
  by_cases e:k=j
  ·rw[if_pos e];exact h1
  ·rw[if_neg e,if_neg (by omega)];exact p.hi2 k (by omega) ha (by omega) q2
section
variable{E:zbc}{X:Type}{cs:X->List za}{v:X->za}{h0 h:zb}{x f:za}{G:List X}{R:List (List za)}{c:X->X->Int}{Q:zQ}{Y1:zL}{a b i j:Nat}
end
structure SInv{X:Type}(c:X->X->Int)(a n lo r:Nat)(G:List X):Prop where
 len:a+n <= G.length
 heap:∀k,0<k->(hk:k<n)->lo <= (k-1) / 2->(k-1) / 2≠r->(h1:a+(k-1) / 2<G.length)->(h2:a+k<G.length)->¬ c G[a+(k-1) / 2] G[a+k]<0
 grand:lo <= (r-1) / 2->0<r->∀k,0<k->(hk:k<n)->(k-1) / 2=r->(h1:a+(r-1) / 2<G.length)->(h2:a+k<G.length)->¬ c G[a+(r-1) / 2] G[a+k]<0
def Heap{X:Type}(c:X->X->Int)(a n lo:Nat)(G:List X):Prop:=∀k,0<k->(hk:k<n)->lo <= (k-1) / 2->(h1:a+(k-1) / 2<G.length)->(h2:a+k<G.length)->¬ c G[a+(k-1) / 2] G[a+k]<0
section
variable{X:Type}{c:X->X->Int}{a n lo r ch:Nat}{G:List X}
theorem SInv.done(p:SInv c a n lo r G)(hr:∀k,0<k->k<n->(k-1) / 2=r->(h1:a+r<G.length)->(h2:a+k<G.length)->¬ c G[a+r] G[a+k]<0):Heap c a n lo G:=λk h0 hk hl h1 h2=>by
 by_cases e:(k-1) / 2=r
 ·have:=hr k h0 hk e (by rw[<-e];exact h1) h2
  simp only[e];exact this
 ·exact p.heap k h0 hk hl e h1 h2
theorem SInv.step(W:zne (zex c))(p:SInv c a n lo r G)(hlo:lo <= r)(hch:ch<n)(hp:(ch-1) / 2=r)(h0:0<ch)(hr:a+r<G.length)(hc:a+ch<G.length)(hlt:c G[a+r] G[a+ch]<0)
  (hmax:∀k,0<k->k<n->(k-1) / 2=r->(h2:a+k<G.length)->¬ c G[a+ch] G[a+k]<0):SInv c a n lo ch (swp G (a+r) (a+ch) hr hc):=by
 have hl:=zjw hr hc;have hrc:r<ch:=by omega
 have asym:¬ c G[a+ch] G[a+r]<0:=by
  have:=W.asym (a:=G[a+r]) (b:=G[a+ch]) (by unfold zex;exact decide_eq_true hlt);unfold zex at this;exact of_decide_eq_false this
 refine⟨by rw[hl];exact p.len,λk k0 hk hlk hne h1 h2=>?_,λ_ _ k k0 hk hkp h1 h2=>?_⟩
 ·have g1:a+(k-1) / 2<G.length:=by omega
  have g2:a+k<G.length:=by omega
  rw[zgs hr hc h1 g1,zgs hr hc h2 g2,if_neg (by omega:¬ a+(k-1) / 2=a+ch)];by_cases e1:(k-1) / 2=r
  ·rw[if_pos (by omega)]
   by_cases e2:k=ch
   ·rw[if_pos (by omega)];exact asym
   ·rw[if_neg (by omega),if_neg (by omega)];exact hmax k k0 hk e1 g2
  ·rw[if_neg (by omega)]
   by_cases e2:k=r
   ·rw[if_neg (by omega),if_pos (by omega)]
    subst e2;exact p.grand hlk k0 ch h0 hch hp g1 hc
   ·rw[if_neg (by omega),if_neg (by omega)];exact p.heap k k0 hk hlk e1 g1 g2
 ·have g1:a+(ch-1) / 2<G.length:=by omega
  have g2:a+k<G.length:=by omega
  rw[zgs hr hc h1 g1,zgs hr hc h2 g2,if_neg (by omega),if_pos (by omega),if_neg (by omega),if_neg (by omega)];have:=p.heap k k0 hk (by omega) (by omega) (by omega) g2;simp only[hkp]at this;exact this
end
variable{C:z5}
section
variable{E:zbc}{X:Type}{cs:X->List za}{v:X->za}{h0 h:zb}{x f:za}{G:List X}{R:List (List za)}{c:X->X->Int}{Q:zQ}{Y1:zL}{a n lo r ch:Nat}
end
section
variable{X:Type}{c:X->X->Int}{a b n lo:Nat}{G G':List X}
theorem Heap.sinv{X:Type}{c:X->X->Int}{a n lo:Nat}{G:List X}(p:Heap c a n (lo+1) G)(hl:a+n <= G.length):SInv c a n lo lo G:=⟨hl,λk k0 hk h1 hne h2 h3=>p k k0 hk (by omega) h2 h3,λh1 h0=>by omega⟩
theorem Heap.none_{X:Type}{c:X->X->Int}{a n lo:Nat}{G:List X}(h:n <= 2*lo+1):Heap c a n lo G:=λk k0 hk h1 _ _=>by omega
theorem Heap.root(W:zne (zex c))(p:Heap c a n 0 G)(hl:a+n <= G.length):∀(k:Nat)(hk:k<n),¬ c (G[a]'(by omega)) (G[a+k]'(by omega))<0:=by
 intro k
 induction k using Nat.strongRecOn with
 | ind k ih=>
  intro hk;by_cases e:k=0
  ·subst e
   have:=W.irr (G[a]'(by omega));unfold zex at this;simpa using this
  ·have h1:=ih ((k-1) / 2) (by omega) (by omega)
   have h2:=p k (by omega) hk (by omega) (by omega) (by omega);have:=W.zo7 (a:=G[a]'(by omega)) (b:=G[a+(k-1) / 2]'(by omega)) (c:=G[a+k]'(by omega)) (by unfold zex;exact decide_eq_false h1) (by unfold zex;exact decide_eq_false h2);unfold zex at this;exact of_decide_eq_false this
theorem zdi.take(w:zdi a b G G'):G'.take a=G.take a:=ext_getElem? λi=>by
 rw[getElem?_take,getElem?_take]
 split
 ·rename_i h;exact w.out i (.inl h)
 ·rfl
theorem zdi.drop(w:zdi a b G G'):G'.drop b=G.drop b:=ext_getElem? λi=>by
 rw[getElem?_drop,getElem?_drop];exact w.out (b+i) (.inr (by omega))
theorem split3(hab:a <= b)(G:List X):G=G.take a++((G.take b).drop a++G.drop b):=by
 have h1:G.take a=(G.take b).take a:=by rw[take_take,Nat.min_eq_left hab]
 rw[h1,<-append_assoc,take_append_drop,take_append_drop]
theorem zdi.mid(w:zdi a b G G')(hab:a <= b):((G'.take b).drop a).Perm ((G.take b).drop a):=by
 have h:=w.perm;rw[split3 hab G,split3 hab G',w.take,w.drop]at h;exact(perm_append_right_iff _).1 ((perm_append_left_iff _).1 h)
theorem zdi.mem(w:zdi a b G G'){k:Nat}(h1:a <= k)(h2:k<b)(hk:k<G'.length):∃k',a <= k' /\ k'<b /\ ∃h':k'<G.length,G'[k]=G[k']:=by
 have hm:G'[k]∈(G'.take b).drop a:=by
  rw[mem_iff_getElem?];refine⟨k-a,?_⟩;rw[getElem?_drop,getElem?_take,if_pos (by omega),Nat.add_sub_cancel' h1,getElem?_eq_getElem hk]
 have:=(w.mid (by omega)).mem_iff.1 hm;rw[mem_iff_getElem?]at this;obtain⟨i,hi⟩:=this;rw[getElem?_drop,getElem?_take]at hi;split at hi
 ·rename_i hlt
  obtain⟨hb,e⟩:=List.getElem?_eq_some_iff.1 hi;exact⟨a+i,by omega,hlt,hb,e.symm⟩
 ·cases hi
def Cut{X:Type}(c:X->X->Int)(A B a b:Nat)(G:List X):Prop:=∀p q,A <= p->p<q->q<B->p<a \/ b <= q->∀(h1:p<G.length)(h2:q<G.length),¬ c G[q] G[p]<0
def Srt{X:Type}(c:X->X->Int)(A B:Nat)(G:List X):Prop:=∀p q,A <= p->p<q->q<B->∀(h1:p<G.length)(h2:q<G.length),¬ c G[q] G[p]<0
theorem Cut.within{A B:Nat}(x:Cut c A B a b G)(w:zdi a b G G')(ha:A <= a)(hb:b <= B):Cut c A B a b G':=λp q hp hpq hq h h1 h2=>by
 have hl:=w.len
 rcases h with h|h
 ·rw[w.same (.inl h) h1 (by omega)]
  by_cases hq2:a <= q /\ q<b
  ·obtain⟨q',h3,h4,h5,e⟩:=w.mem hq2.1 hq2.2 h2
   rw[e];exact x p q' hp (by omega) (by omega) (.inl h) (by omega) h5
  ·rw[w.same (by omega) h2 (by omega)];exact x p q hp hpq hq (.inl h) _ _
 ·rw[w.same (k:=q) (.inr h) h2 (by omega)]
  by_cases hp2:a <= p /\ p<b
  ·obtain⟨p',h3,h4,h5,e⟩:=w.mem hp2.1 hp2.2 h1
   rw[e];exact x p' q (by omega) (by omega) hq (.inr h) h5 (by omega)
  ·rw[w.same (k:=p) (by omega) h1 (by omega)];exact x p q hp hpq hq (.inr h) _ _
theorem Cut.join{A B:Nat}(x:Cut c A B a b G)(s:Srt c a b G):Srt c A B G:=λp q hp hpq hq h1 h2=>by
 by_cases h:p<a \/ b <= q
 ·exact x p q hp hpq hq h h1 h2
 ·exact s p q (by omega) hpq (by omega) h1 h2
theorem Cut.small{A B:Nat}(x:Cut c A B a b G)(s:b <= a+1):Srt c A B G:=x.join λp q _ _ _ _ _=>by omega
theorem within_mid{M:List X}(hab:a <= b)(hb:b <= G.length)(hp:M.Perm ((G.take b).drop a)):zdi a b G (G.take a++(M++G.drop b)):=by
 have hl:=hp.length_eq;simp only[length_drop,length_take]at hl;refine⟨?_,λi hi=>?_⟩
 ·have:=(hp.append_right (G.drop b)).append_left (G.take a)
  rw[<-split3 hab G]at this;exact this
 ·rcases hi with hi|hi
  ·rw[getElem?_append_left (by rw[length_take];omega),getElem?_take,if_pos hi]
  ·rw[getElem?_append_right (by rw[length_take];omega),getElem?_append_right (by rw[length_take];omega),getElem?_drop,length_take]
   congr 1;omega
theorem srt_mid{M:List X}(hab:a <= b)(hb:b <= G.length)(hl:M.length=b-a)(hp:M.Pairwise λx y=>¬ c y x<0):Srt c a b (G.take a++(M++G.drop b)):=λp q hp1 hpq hq h1 h2=>by
 have e:∀k (h1:a <= k) (h2:k<b) (hk:k<(G.take a++(M++G.drop b)).length),(G.take a++(M++G.drop b))[k]=M[k-a]'(by omega):=λk h1 h2 hk=>by
  rw[getElem_append_right (by rw[length_take];omega),getElem_append_left (by rw[length_take];omega)]
  congr 1;rw[length_take];omega
 rw[e p hp1 (by omega),e q (by omega) hq]
 exact pairwise_iff_getElem.1 hp _ _ _ _ (by omega)
end
variable{C:z5}
section
variable{E:zbc}{X:Type}{cs:X->List za}{v:X->za}{h0 h:zb}{x f:za}{G:List X}{R:List (List za)}{c:X->X->Int}{Q:zQ}{a b:Nat}
end
variable{C:z5}
def Pre{X:Type}(c:X->X->Int)(a b:Nat)(G:List X):Prop:=0<a->∀i,a <= i->i<b->∀(h1:i<G.length)(h2:a-1<G.length),¬ c G[i] G[a-1]<0
theorem Pre.within{X:Type}{c:X->X->Int}{a b:Nat}{G G':List X}(p:Pre c a b G)(w:zdi a b G G'):Pre c a b G':=λh0 i h1 h2 h3 h4=>by
 have hl:=w.len
 obtain⟨k,k1,k2,k3,e⟩:=w.mem h1 h2 h3
 rw[e,w.same (k:=a-1) (.inl (by omega)) h4 (by omega)]
 exact p h0 k k1 k2 _ _
def But1{X:Type}(c:X->X->Int)(A B j:Nat)(G:List X):Prop:=∀p q,A <= p->p<q->q<B->q≠j->∀(h1:p<G.length)(h2:q<G.length),¬ c G[q] G[p]<0
section
variable{X:Type}{c:X->X->Int}{A B j:Nat}{G:List X}
theorem But1.done(W:zne (zex c))(x:But1 c A B j G)(hj:j<G.length)(h:j <= A \/ ∀(h1:j-1<G.length),¬ c G[j] G[j-1]<0):Srt c A B G:=λp q h1 h2 h3 h4 h5=>by
 by_cases e:q=j
 ·subst e
  have h:=h.resolve_left (by omega)
  by_cases e2:p=q-1
  ·subst e2;exact h _
  ·have k1:=x p (q-1) h1 (by omega) (by omega) (by omega) h4 (by omega)
   have:=W.zo7 (a:=G[q]) (b:=G[q-1]'(by omega)) (c:=G[p]) (by unfold zex;exact decide_eq_false (h _)) (by unfold zex;exact decide_eq_false k1)
   unfold zex at this;exact of_decide_eq_false this
 ·exact x p q h1 h2 h3 e h4 h5
theorem But1.step(W:zne (zex c))(x:But1 c A B j G)(hA:A<j)(hj:j<G.length)(hj1:j-1<G.length)(hlt:c G[j] G[j-1]<0):But1 c A B (j-1) (swp G j (j-1) hj hj1):=λp q h1 h2 h3 h4 h5 h6=>by
 have hl:=zjw hj hj1
 rw[zgs hj hj1 h6 (by omega),if_neg h4,zgs hj hj1 h5 (by omega)]
 by_cases e:q=j
 ·rw[if_pos e]
  split
  ·have:=W.asym (a:=G[j]) (b:=G[j-1]) (by unfold zex;exact decide_eq_true hlt)
   unfold zex at this;exact of_decide_eq_false this
  ·rw[if_neg (by omega)];exact x p (j-1) h1 (by omega) (by omega) (by omega) (by omega) hj1
 ·rw[if_neg e]
  split
  ·exact x j q (by omega) (by omega) h3 e hj (by omega)
  ·split
   ·exact x (j-1) q (by omega) (by omega) h3 e hj1 (by omega)
   ·exact x p q h1 h2 h3 e (by omega) (by omega)
end
section
variable{E:zbc}{X:Type}{cs:X->List za}{v:X->za}{h0 h:zb}{x f:za}{G:List X}{R:List (List za)}{c:X->X->Int}{Q:zQ}{Y1:zL}{a b i s:Nat}
end
end Go.Ab
