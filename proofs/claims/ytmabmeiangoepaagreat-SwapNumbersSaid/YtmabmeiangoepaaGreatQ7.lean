/- What is proved: a part of the way to the statement: Rgen. No conditions. -/
import Derived.Test.YtmabmeiangoepaaGreatQ6
import Derived.Test.YtmabmeiangoepaaGreatQ3
import Derived.Test.YtmabmeiangoepaaGreatRows
set_option linter.unusedVariables false
set_option linter.unusedSimpArgs false
namespace Go.Ab
@[simp] def zd3.k1 (C : CSem) (E : z5) (Q : AVal → zb → Prop) (Y1 : List AVal → zb → Prop) (v0 v1 v7 v8 : AVal) (h : zb) : Prop :=
 B.pv (V.bin .lss v8 v7) fun v9 =>
  B.cond v9
  (B.pv (V.idxS E.es v0 v8) fun v14 =>
  E.ld h v14 fun v15 =>
  B.znz h C v1 [v15] fun v16 h =>
  B.cond v16
  (Q v8 h)
  (B.pv (V.bin .add v8 (.int .i64 1)) fun v18 =>
  Y1 [v18] h))
  (Q (.int .i64 (-1)) h)
@[simp] def zd3.l2 (C : CSem) (E : z5) (Q : AVal → zb → Prop) (v0 v1 v7 : AVal) : List AVal → zb → (List AVal → zb → Prop) → Prop
 | [v8], h, Y1 => zd3.k1 C E Q Y1 v0 v1 v7 v8 h
 | _, _, _ => False
@[simp] def zd3.cps (C : CSem) (E : z5) (v0 v1 : AVal) (h : zb) (Q : AVal → zb → Prop) : Prop :=
 B.pv (V.zw v0) fun v7 =>
  zd (zd3.l2 C E Q v0 v1 v7) [(.int .i64 0)] h
@[simp] def zg1.k1 (C : CSem) (E : z5) (f1 f2 : Nat) (Q : AVal → zb → Prop) (v0 : AVal) (h : zb) : Prop :=
 B.pv (V.zw v0) fun v4 =>
  B.pv (V.toInt .u64 v4) fun v8 =>
  B.call C f1 [v8] h fun v9 h =>
  B.call C f2 [v0, (.int .i64 0), v4, v9] h fun v10 h =>
  Q (.tup []) h
@[simp] def zg1.cps (C : CSem) (E : z5) (f1 f2 : Nat) (v0 : AVal) (h : zb) (Q : AVal → zb → Prop) : Prop :=
 zg1.k1 C E f1 f2 Q v0 h
@[simp] def zce.k1 (C : CSem) (E : z5) (Q : AVal → zb → Prop) (Y1 : List AVal → zb → Prop) (Y2 : List AVal → zb → Prop) (v0 v3 v4 v5 : AVal) (h : zb) : Prop :=
 B.pv (V.zw v4) fun v31 =>
  B.pv (V.bin .lss v5 v31) fun v32 =>
  B.cond v32
  (B.pv (V.idxS E.es v4 v5) fun v37 =>
  E.ld h v37 fun v38 =>
  B.pv (V.bin .sub v5 (.int .i64 1)) fun v41 =>
  B.pv (V.idxS E.es v4 v41) fun v42 =>
  E.ld h v42 fun v43 =>
  B.pv (V.bin .neq v38 v43) fun v44 =>
  B.cond v44
  (B.pv (V.idxS E.es v4 v5) fun v49 =>
  E.ld h v49 fun v50 =>
  B.pv (V.idxS E.es v0 v3) fun v51 =>
  E.st h v51 v50 fun h =>
  B.pv (V.bin .add v3 (.int .i64 1)) fun v53 =>
  B.pv (V.bin .add v5 (.int .i64 1)) fun v34 =>
  Y2 [v53, v34] h)
  (B.pv (V.bin .add v5 (.int .i64 1)) fun v34 =>
  Y2 [v3, v34] h))
  (B.pv (V.zfe E.es v0 (some v3) none) fun v56 =>
  B.clr h E.z v56 fun _ h =>
  B.pv (V.zfe E.es v0 none (some v3)) fun v59 =>
  Q v59 h)
@[simp] def zce.l2 (C : CSem) (E : z5) (Q : AVal → zb → Prop) (Y1 : List AVal → zb → Prop) (v0 v4 : AVal) : List AVal → zb → (List AVal → zb → Prop) → Prop
 | [v3, v5], h, Y2 => zce.k1 C E Q Y1 Y2 v0 v3 v4 v5 h
 | _, _, _ => False
@[simp] def zce.k3 (C : CSem) (E : z5) (Q : AVal → zb → Prop) (Y1 : List AVal → zb → Prop) (v0 v3 : AVal) (h : zb) : Prop :=
 B.pv (V.idxS E.es v0 v3) fun v18 =>
  E.ld h v18 fun v19 =>
  B.pv (V.bin .sub v3 (.int .i64 1)) fun v22 =>
  B.pv (V.idxS E.es v0 v22) fun v23 =>
  E.ld h v23 fun v24 =>
  B.pv (V.bin .eql v19 v24) fun v25 =>
  B.cond v25 (B.pv (V.zfe E.es v0 (some v3) none) fun v28 =>
  zd (zce.l2 C E Q Y1 v0 v28) [v3, (.int .i64 1)] h) (B.pv (V.bin .add v3 (.int .i64 1)) fun v15 =>
  Y1 [v15] h)
@[simp] def zce.l4 (C : CSem) (E : z5) (Q : AVal → zb → Prop) (v0 : AVal) : List AVal → zb → (List AVal → zb → Prop) → Prop
 | [v3], h, Y1 => B.pv (V.zw v0) fun v12 =>
  B.pv (V.bin .lss v3 v12) fun v13 =>
  B.cond v13
  (zce.k3 C E Q Y1 v0 v3 h)
  (Q v0 h)
 | _, _, _ => False
@[simp] def zce.k5 (C : CSem) (E : z5) (Q : AVal → zb → Prop) (v0 : AVal) (h : zb) : Prop :=
 B.pv (V.zw v0) fun v7 =>
  B.pv (V.bin .lss v7 (.int .i64 2)) fun v8 =>
  B.cond v8
  (Q v0 h)
  (zd (zce.l4 C E Q v0) [(.int .i64 1)] h)
@[simp] def zce.cps (C : CSem) (E : z5) (v0 : AVal) (h : zb) (Q : AVal → zb → Prop) : Prop :=
 zce.k5 C E Q v0 h
@[simp] def zt.k1 (C : CSem) (E : z5) (f1 f2 f3 f4 f5 f6 f7 f8 f9 f10 : Nat) (Q : AVal → zb → Prop) (Y1 : List AVal → zb → Prop) (v0 v1 v2 v3 v8 v9 v10 v11 : AVal) (h : zb) : Prop :=
 B.pv (V.bin .gtr v1 (.int .i64 0)) fun v74 =>
  B.gd h v74 true (fun K => K v0 h) fun v76 h =>
  B.gd h v74 true (fun K => K v1 h) fun v77 h =>
  B.gd h v74 true (fun K => B.pv (V.bin .sub v77 (.int .i64 1)) fun v => K v h) fun v78 h =>
  B.gd h v74 true (fun K => B.pv (V.idxS E.es v76 v78) fun v => K v h) fun v79 h =>
  B.gd h v74 true (fun K => E.ld h v79 fun v => K v h) fun v80 h =>
  B.gd h v74 true (fun K => K v0 h) fun v81 h =>
  B.gd h v74 true (fun K => K v11 h) fun v82 h =>
  B.gd h v74 true (fun K => B.pv (V.idxS E.es v81 v82) fun v => K v h) fun v83 h =>
  B.gd h v74 true (fun K => E.ld h v83 fun v => K v h) fun v84 h =>
  B.gd h v74 true (fun K => B.call C f1 [v80, v84] h K) fun v85 h =>
  B.gd h v74 true (fun K => B.pv (V.un .not v85) fun v => K v h) fun v86 h =>
  B.pick v74 v86 (.bool false) fun v87 =>
  B.cond v87
  (B.call C f2 [v0, v1, v2, v11] h fun v92 h =>
  Y1 [v92, v2, v3, v8, v9] h)
  (B.call C f3 [v0, v1, v2, v11] h fun v99 h =>
  B.pv (V.ext 0 v99) fun v100 =>
  B.pv (V.ext 1 v99) fun v101 =>
  B.pv (V.bin .sub v100 v1) fun v105 =>
  B.pv (V.bin .sub v2 v100) fun v108 =>
  B.pv (V.bin .quo v10 (.int .i64 8)) fun v110 =>
  B.pv (V.bin .lss v105 v108) fun v113 =>
  B.cond v113
  (B.pv (V.bin .geq v105 v110) fun v116 =>
  B.call C f4 [v0, v1, v100, v3] h fun v121 h =>
  B.pv (V.bin .add v100 (.int .i64 1)) fun v123 =>
  Y1 [v123, v2, v3, v116, v101] h)
  (B.pv (V.bin .geq v108 v110) fun v126 =>
  B.pv (V.bin .add v100 (.int .i64 1)) fun v129 =>
  B.call C f4 [v0, v129, v2, v3] h fun v132 h =>
  Y1 [v1, v100, v3, v126, v101] h))
@[simp] def zt.k2 (C : CSem) (E : z5) (f1 f2 f3 f4 f5 f6 f7 f8 f9 f10 : Nat) (Q : AVal → zb → Prop) (Y1 : List AVal → zb → Prop) (v0 v1 v2 v3 v8 v9 v10 v11 v12 : AVal) (h : zb) : Prop :=
 B.gd h v8 true (fun K => K v9 h) fun v63 h =>
  B.pick v8 v63 (.bool false) fun v64 =>
  B.gd h v64 true (fun K => K v12 h) fun v66 h =>
  B.gd h v64 true (fun K => B.pv (V.bin .eql v66 (.int .i64 1)) fun v => K v h) fun v67 h =>
  B.pick v64 v67 (.bool false) fun v68 =>
  B.cond v68
  (B.call C f5 [v0, v1, v2] h fun v72 h =>
  B.cond v72
  (Q (.tup []) h)
  (zt.k1 C E f1 f2 f3 f4 f5 f6 f7 f8 f9 f10 Q Y1 v0 v1 v2 v3 v8 v9 v10 v11 h))
  (zt.k1 C E f1 f2 f3 f4 f5 f6 f7 f8 f9 f10 Q Y1 v0 v1 v2 v3 v8 v9 v10 v11 h)
@[simp] def zt.k3 (C : CSem) (E : z5) (f1 f2 f3 f4 f5 f6 f7 f8 f9 f10 : Nat) (Q : AVal → zb → Prop) (Y1 : List AVal → zb → Prop) (v0 v1 v2 v3 v8 v9 v10 v11 v12 : AVal) (h : zb) : Prop :=
 B.pv (V.bin .eql v12 (.int .i64 2)) fun v50 =>
  B.cond v50
  (B.call C f6 [v0, v1, v2] h fun v54 h =>
  B.pv (V.bin .sub v2 (.int .i64 1)) fun v56 =>
  B.pv (V.bin .sub v11 v1) fun v59 =>
  B.pv (V.bin .sub v56 v59) fun v60 =>
  zt.k2 C E f1 f2 f3 f4 f5 f6 f7 f8 f9 f10 Q Y1 v0 v1 v2 v3 v8 v9 v10 v60 (.int .i64 1) h)
  (zt.k2 C E f1 f2 f3 f4 f5 f6 f7 f8 f9 f10 Q Y1 v0 v1 v2 v3 v8 v9 v10 v11 v12 h)
@[simp] def zt.k4 (C : CSem) (E : z5) (f1 f2 f3 f4 f5 f6 f7 f8 f9 f10 : Nat) (Q : AVal → zb → Prop) (Y1 : List AVal → zb → Prop) (v0 v1 v2 v3 v8 v9 v10 : AVal) (h : zb) : Prop :=
 B.call C f7 [v0, v1, v2] h fun v46 h =>
  B.pv (V.ext 0 v46) fun v47 =>
  B.pv (V.ext 1 v46) fun v48 =>
  zt.k3 C E f1 f2 f3 f4 f5 f6 f7 f8 f9 f10 Q Y1 v0 v1 v2 v3 v8 v9 v10 v47 v48 h
@[simp] def zt.k5 (C : CSem) (E : z5) (f1 f2 f3 f4 f5 f6 f7 f8 f9 f10 : Nat) (Q : AVal → zb → Prop) (Y1 : List AVal → zb → Prop) (v0 v1 v2 v3 v8 v9 v10 : AVal) (h : zb) : Prop :=
 B.pv (V.un .not v8) fun v35 =>
  B.cond v35
  (B.call C f8 [v0, v1, v2] h fun v39 h =>
  B.pv (V.bin .sub v3 (.int .i64 1)) fun v41 =>
  zt.k4 C E f1 f2 f3 f4 f5 f6 f7 f8 f9 f10 Q Y1 v0 v1 v2 v41 v8 v9 v10 h)
  (zt.k4 C E f1 f2 f3 f4 f5 f6 f7 f8 f9 f10 Q Y1 v0 v1 v2 v3 v8 v9 v10 h)
@[simp] def zt.k6 (C : CSem) (E : z5) (f1 f2 f3 f4 f5 f6 f7 f8 f9 f10 : Nat) (Q : AVal → zb → Prop) (Y1 : List AVal → zb → Prop) (v0 v1 v2 v3 v8 v9 v10 : AVal) (h : zb) : Prop :=
 B.pv (V.bin .eql v3 (.int .i64 0)) fun v29 =>
  B.cond v29
  (B.call C f9 [v0, v1, v2] h fun v33 h =>
  Q (.tup []) h)
  (zt.k5 C E f1 f2 f3 f4 f5 f6 f7 f8 f9 f10 Q Y1 v0 v1 v2 v3 v8 v9 v10 h)
@[simp] def zt.k7 (C : CSem) (E : z5) (f1 f2 f3 f4 f5 f6 f7 f8 f9 f10 : Nat) (Q : AVal → zb → Prop) (Y1 : List AVal → zb → Prop) (v0 v1 v2 v3 v8 v9 v10 : AVal) (h : zb) : Prop :=
 B.pv (V.bin .leq v10 (.int .i64 12)) fun v23 =>
  B.cond v23
  (B.call C f10 [v0, v1, v2] h fun v27 h =>
  Q (.tup []) h)
  (zt.k6 C E f1 f2 f3 f4 f5 f6 f7 f8 f9 f10 Q Y1 v0 v1 v2 v3 v8 v9 v10 h)
@[simp] def zt.l8 (C : CSem) (E : z5) (f1 f2 f3 f4 f5 f6 f7 f8 f9 f10 : Nat) (Q : AVal → zb → Prop) (v0 : AVal) : List AVal → zb → (List AVal → zb → Prop) → Prop
 | [v1, v2, v3, v8, v9], h, Y1 => B.pv (V.bin .sub v2 v1) fun v21 =>
  zt.k7 C E f1 f2 f3 f4 f5 f6 f7 f8 f9 f10 Q Y1 v0 v1 v2 v3 v8 v9 v21 h
 | _, _, _ => False
@[simp] def zt.cps (C : CSem) (E : z5) (f1 f2 f3 f4 f5 f6 f7 f8 f9 f10 : Nat) (v0 v1 v2 v3 : AVal) (h : zb) (Q : AVal → zb → Prop) : Prop :=
 zd (zt.l8 C E f1 f2 f3 f4 f5 f6 f7 f8 f9 f10 Q v0) [v1, v2, v3, (.bool true), (.bool true)] h
@[simp] def zb3.k1 (C : CSem) (E : z5) (f1 : Nat) (Q : AVal → zb → Prop) (Y1 : List AVal → zb → Prop) (Y2 : List AVal → zb → Prop) (v0 v1 v2 v6 v7 : AVal) (h : zb) : Prop :=
 B.pv (V.bin .gtr v7 v1) fun v18 =>
  B.gd h v18 true (fun K => K v0 h) fun v20 h =>
  B.gd h v18 true (fun K => K v7 h) fun v21 h =>
  B.gd h v18 true (fun K => B.pv (V.idxS E.es v20 v21) fun v => K v h) fun v22 h =>
  B.gd h v18 true (fun K => E.ld h v22 fun v => K v h) fun v23 h =>
  B.gd h v18 true (fun K => K v0 h) fun v24 h =>
  B.gd h v18 true (fun K => K v7 h) fun v25 h =>
  B.gd h v18 true (fun K => B.pv (V.bin .sub v25 (.int .i64 1)) fun v => K v h) fun v26 h =>
  B.gd h v18 true (fun K => B.pv (V.idxS E.es v24 v26) fun v => K v h) fun v27 h =>
  B.gd h v18 true (fun K => E.ld h v27 fun v => K v h) fun v28 h =>
  B.gd h v18 true (fun K => B.call C f1 [v23, v28] h K) fun v29 h =>
  B.pick v18 v29 (.bool false) fun v30 =>
  B.cond v30
  (B.pv (V.bin .sub v7 (.int .i64 1)) fun v37 =>
  B.pv (V.bin .sub v7 (.int .i64 1)) fun v40 =>
  B.pv (V.idxS E.es v0 v40) fun v41 =>
  E.ld h v41 fun v42 =>
  B.pv (V.idxS E.es v0 v7) fun v45 =>
  E.ld h v45 fun v46 =>
  B.pv (V.idxS E.es v0 v7) fun v47 =>
  E.st h v47 v42 fun h =>
  B.pv (V.idxS E.es v0 v37) fun v48 =>
  E.st h v48 v46 fun h =>
  B.pv (V.bin .sub v7 (.int .i64 1)) fun v32 =>
  Y2 [v32] h)
  (B.pv (V.bin .add v6 (.int .i64 1)) fun v14 =>
  Y1 [v14] h)
@[simp] def zb3.l2 (C : CSem) (E : z5) (f1 : Nat) (Q : AVal → zb → Prop) (Y1 : List AVal → zb → Prop) (v0 v1 v2 v6 : AVal) : List AVal → zb → (List AVal → zb → Prop) → Prop
 | [v7], h, Y2 => zb3.k1 C E f1 Q Y1 Y2 v0 v1 v2 v6 v7 h
 | _, _, _ => False
@[simp] def zb3.l3 (C : CSem) (E : z5) (f1 : Nat) (Q : AVal → zb → Prop) (v0 v1 v2 : AVal) : List AVal → zb → (List AVal → zb → Prop) → Prop
 | [v6], h, Y1 => B.pv (V.bin .lss v6 v2) fun v12 =>
  B.cond v12
  (zd (zb3.l2 C E f1 Q Y1 v0 v1 v2 v6) [v6] h)
  (Q (.tup []) h)
 | _, _, _ => False
@[simp] def zb3.cps (C : CSem) (E : z5) (f1 : Nat) (v0 v1 v2 : AVal) (h : zb) (Q : AVal → zb → Prop) : Prop :=
 B.pv (V.bin .add v1 (.int .i64 1)) fun v9 =>
  zd (zb3.l3 C E f1 Q v0 v1 v2) [v9] h
@[simp] def zbq.k1 (C : CSem) (E : z5) (f1 : Nat) (Q : AVal → zb → Prop) (Y1 : List AVal → zb → Prop) (v0 v6 v7 v10 : AVal) (h : zb) : Prop :=
 B.pv (V.bin .geq v10 (.int .i64 0)) fun v30 =>
  B.cond v30
  (B.pv (V.bin .add v6 v10) fun v38 =>
  B.pv (V.bin .add v6 v10) fun v42 =>
  B.pv (V.idxS E.es v0 v42) fun v43 =>
  E.ld h v43 fun v44 =>
  B.pv (V.idxS E.es v0 v6) fun v47 =>
  E.ld h v47 fun v48 =>
  B.pv (V.idxS E.es v0 v6) fun v49 =>
  E.st h v49 v44 fun h =>
  B.pv (V.idxS E.es v0 v38) fun v50 =>
  E.st h v50 v48 fun h =>
  B.call C f1 [v0, v7, v10, v6] h fun v55 h =>
  B.pv (V.bin .sub v10 (.int .i64 1)) fun v32 =>
  Y1 [v32] h)
  (Q (.tup []) h)
@[simp] def zbq.l2 (C : CSem) (E : z5) (f1 : Nat) (Q : AVal → zb → Prop) (v0 v6 v7 : AVal) : List AVal → zb → (List AVal → zb → Prop) → Prop
 | [v10], h, Y1 => zbq.k1 C E f1 Q Y1 v0 v6 v7 v10 h
 | _, _, _ => False
@[simp] def zbq.k3 (C : CSem) (E : z5) (f1 : Nat) (Q : AVal → zb → Prop) (Y2 : List AVal → zb → Prop) (v0 v6 v7 v8 v9 : AVal) (h : zb) : Prop :=
 B.pv (V.bin .geq v9 (.int .i64 0)) fun v19 =>
  B.cond v19
  (B.call C f1 [v0, v9, v8, v6] h fun v26 h =>
  B.pv (V.bin .sub v9 (.int .i64 1)) fun v21 =>
  Y2 [v21] h)
  (B.pv (V.bin .sub v8 (.int .i64 1)) fun v28 =>
  zd (zbq.l2 C E f1 Q v0 v6 v7) [v28] h)
@[simp] def zbq.l4 (C : CSem) (E : z5) (f1 : Nat) (Q : AVal → zb → Prop) (v0 v6 v7 v8 : AVal) : List AVal → zb → (List AVal → zb → Prop) → Prop
 | [v9], h, Y2 => zbq.k3 C E f1 Q Y2 v0 v6 v7 v8 v9 h
 | _, _, _ => False
@[simp] def zbq.k5 (C : CSem) (E : z5) (f1 : Nat) (Q : AVal → zb → Prop) (v0 v6 v7 v8 : AVal) (h : zb) : Prop :=
 B.pv (V.bin .sub v8 (.int .i64 1)) fun v16 =>
  B.pv (V.bin .quo v16 (.int .i64 2)) fun v17 =>
  zd (zbq.l4 C E f1 Q v0 v6 v7 v8) [v17] h
@[simp] def zbq.cps (C : CSem) (E : z5) (f1 : Nat) (v0 v1 v2 : AVal) (h : zb) (Q : AVal → zb → Prop) : Prop :=
 B.pv (V.bin .sub v2 v1) fun v14 =>
  zbq.k5 C E f1 Q v0 v1 (.int .i64 0) v14 h
@[simp] def zo.k1 (C : CSem) (E : z5) (f1 f2 : Nat) (Q : AVal → zb → Prop) (Y1 : List AVal → zb → Prop) (v0 v1 v6 v7 v8 v9 v10 : AVal) (h : zb) : Prop :=
 B.pv (V.bin .add v1 v10) fun v52 =>
  B.pv (V.bin .add v1 v10) fun v56 =>
  B.pv (V.idxS E.es v0 v56) fun v57 =>
  E.ld h v57 fun v58 =>
  B.pv (V.idxS E.es v0 v9) fun v61 =>
  E.ld h v61 fun v62 =>
  B.pv (V.idxS E.es v0 v9) fun v63 =>
  E.st h v63 v58 fun h =>
  B.pv (V.idxS E.es v0 v52) fun v64 =>
  E.st h v64 v62 fun h =>
  B.pv (V.bin .add v9 (.int .i64 1)) fun v35 =>
  Y1 [v35] h
@[simp] def zo.k2 (C : CSem) (E : z5) (f1 f2 : Nat) (Q : AVal → zb → Prop) (Y1 : List AVal → zb → Prop) (v0 v1 v6 v7 v8 v9 v10 : AVal) (h : zb) : Prop :=
 B.pv (V.bin .geq v10 v6) fun v43 =>
  B.cond v43
  (B.pv (V.bin .sub v10 v6) fun v46 =>
  zo.k1 C E f1 f2 Q Y1 v0 v1 v6 v7 v8 v9 v46 h)
  (zo.k1 C E f1 f2 Q Y1 v0 v1 v6 v7 v8 v9 v10 h)
@[simp] def zo.k3 (C : CSem) (E : z5) (f1 f2 : Nat) (Q : AVal → zb → Prop) (Y1 : List AVal → zb → Prop) (v0 v1 v6 v7 v8 v9 : AVal) (h : zb) : Prop :=
 B.call C f1 [v7] h fun v36 h =>
  B.pv (V.bin .sub v8 (.int .u64 1)) fun v38 =>
  B.pv (V.bin .and v36 v38) fun v39 =>
  B.pv (V.toInt .i64 v39) fun v40 =>
  zo.k2 C E f1 f2 Q Y1 v0 v1 v6 v7 v8 v9 v40 h
@[simp] def zo.k4 (C : CSem) (E : z5) (f1 f2 : Nat) (Q : AVal → zb → Prop) (Y1 : List AVal → zb → Prop) (v0 v1 v6 v7 v8 v9 : AVal) (h : zb) : Prop :=
 B.pv (V.bin .quo v6 (.int .i64 4)) fun v29 =>
  B.pv (V.bin .mul v29 (.int .i64 2)) fun v30 =>
  B.pv (V.bin .add v1 v30) fun v31 =>
  B.pv (V.bin .add v31 (.int .i64 1)) fun v32 =>
  B.pv (V.bin .leq v9 v32) fun v33 =>
  B.cond v33
  (zo.k3 C E f1 f2 Q Y1 v0 v1 v6 v7 v8 v9 h)
  (Q (.tup []) h)
@[simp] def zo.l5 (C : CSem) (E : z5) (f1 f2 : Nat) (Q : AVal → zb → Prop) (v0 v1 v6 v7 v8 : AVal) : List AVal → zb → (List AVal → zb → Prop) → Prop
 | [v9], h, Y1 => zo.k4 C E f1 f2 Q Y1 v0 v1 v6 v7 v8 v9 h
 | _, _, _ => False
@[simp] def zo.k6 (C : CSem) (E : z5) (f1 f2 : Nat) (Q : AVal → zb → Prop) (v0 v1 v6 v7 v8 : AVal) (h : zb) : Prop :=
 B.pv (V.bin .quo v6 (.int .i64 4)) fun v22 =>
  B.pv (V.bin .mul v22 (.int .i64 2)) fun v23 =>
  B.pv (V.bin .add v1 v23) fun v24 =>
  B.pv (V.bin .sub v24 (.int .i64 1)) fun v25 =>
  zd (zo.l5 C E f1 f2 Q v0 v1 v6 v7 v8) [v25] h
@[simp] def zo.k7 (C : CSem) (E : z5) (f1 f2 : Nat) (Q : AVal → zb → Prop) (v0 v1 v6 : AVal) (h : zb) : Prop :=
 B.pv (V.toInt .u64 v6) fun v17 =>
  B.newO h (some [.int .u64 0]) fun i7 h =>
  B.st h (.ptr i7 0 0) v17 fun h =>
  B.call C f2 [v6] h fun v19 h =>
  zo.k6 C E f1 f2 Q v0 v1 v6 (.ptr i7 0 0) v19 h
@[simp] def zo.k8 (C : CSem) (E : z5) (f1 f2 : Nat) (Q : AVal → zb → Prop) (v0 v1 v2 : AVal) (h : zb) : Prop :=
 B.pv (V.bin .sub v2 v1) fun v13 =>
  B.pv (V.bin .geq v13 (.int .i64 8)) fun v15 =>
  B.cond v15 (zo.k7 C E f1 f2 Q v0 v1 v13 h) (Q (.tup []) h)
@[simp] def zo.cps (C : CSem) (E : z5) (f1 f2 : Nat) (v0 v1 v2 : AVal) (h : zb) (Q : AVal → zb → Prop) : Prop :=
 zo.k8 C E f1 f2 Q v0 v1 v2 h
@[simp] def z6.k1 (C : CSem) (E : z5) (f1 f2 : Nat) (Q : AVal → zb → Prop) (v9 v11 : AVal) (h : zb) : Prop :=
 B.ld h v9 fun v49 =>
  B.pv (V.bin .eql v49 (.int .i64 0)) fun v52 =>
  B.cond v52
  (Q (.tup [v11, (.int .i64 1)]) h)
  (B.pv (V.bin .eql v49 (.int .i64 12)) fun v55 =>
  B.cond v55
  (Q (.tup [v11, (.int .i64 2)]) h)
  (Q (.tup [v11, (.int .i64 0)]) h))
@[simp] def z6.k2 (C : CSem) (E : z5) (f1 f2 : Nat) (Q : AVal → zb → Prop) (v0 v8 v9 v10 v11 v12 : AVal) (h : zb) : Prop :=
 B.pv (V.bin .geq v8 (.int .i64 8)) fun v32 =>
  B.cond v32
  (B.pv (V.bin .geq v8 (.int .i64 50)) fun v34 =>
  B.cond v34
  (B.call C f1 [v0, v10, v9] h fun v37 h =>
  B.call C f1 [v0, v11, v9] h fun v40 h =>
  B.call C f1 [v0, v12, v9] h fun v43 h =>
  B.call C f2 [v0, v37, v40, v43, v9] h fun v48 h =>
  z6.k1 C E f1 f2 Q v9 v48 h)
  (B.call C f2 [v0, v10, v11, v12, v9] h fun v48 h =>
  z6.k1 C E f1 f2 Q v9 v48 h))
  (z6.k1 C E f1 f2 Q v9 v11 h)
@[simp] def z6.k3 (C : CSem) (E : z5) (f1 f2 : Nat) (Q : AVal → zb → Prop) (v0 v1 v8 v9 v10 v11 : AVal) (h : zb) : Prop :=
 B.pv (V.bin .quo v8 (.int .i64 4)) fun v28 =>
  B.pv (V.bin .mul v28 (.int .i64 3)) fun v29 =>
  B.pv (V.bin .add v1 v29) fun v30 =>
  z6.k2 C E f1 f2 Q v0 v8 v9 v10 v11 v30 h
@[simp] def z6.k4 (C : CSem) (E : z5) (f1 f2 : Nat) (Q : AVal → zb → Prop) (v0 v1 v8 v9 v10 : AVal) (h : zb) : Prop :=
 B.pv (V.bin .quo v8 (.int .i64 4)) fun v23 =>
  B.pv (V.bin .mul v23 (.int .i64 2)) fun v24 =>
  B.pv (V.bin .add v1 v24) fun v25 =>
  z6.k3 C E f1 f2 Q v0 v1 v8 v9 v10 v25 h
@[simp] def z6.k5 (C : CSem) (E : z5) (f1 f2 : Nat) (Q : AVal → zb → Prop) (v0 v1 v8 v9 : AVal) (h : zb) : Prop :=
 B.pv (V.bin .quo v8 (.int .i64 4)) fun v18 =>
  B.pv (V.bin .mul v18 (.int .i64 1)) fun v19 =>
  B.pv (V.bin .add v1 v19) fun v20 =>
  z6.k4 C E f1 f2 Q v0 v1 v8 v9 v20 h
@[simp] def z6.cps (C : CSem) (E : z5) (f1 f2 : Nat) (v0 v1 v2 : AVal) (h : zb) (Q : AVal → zb → Prop) : Prop :=
 B.pv (V.bin .sub v2 v1) fun v15 =>
  B.newO h (some [.int .i64 0]) fun i9 h =>
  z6.k5 C E f1 f2 Q v0 v1 v15 (.ptr i9 0 0) h
@[simp] def zcw.k1 (C : CSem) (E : z5) (Q : AVal → zb → Prop) (Y1 : List AVal → zb → Prop) (v0 v6 v7 : AVal) (h : zb) : Prop :=
 B.pv (V.bin .lss v6 v7) fun v13 =>
  B.cond v13
  (B.pv (V.idxS E.es v0 v7) fun v20 =>
  E.ld h v20 fun v21 =>
  B.pv (V.idxS E.es v0 v6) fun v24 =>
  E.ld h v24 fun v25 =>
  B.pv (V.idxS E.es v0 v6) fun v26 =>
  E.st h v26 v21 fun h =>
  B.pv (V.idxS E.es v0 v7) fun v27 =>
  E.st h v27 v25 fun h =>
  B.pv (V.bin .add v6 (.int .i64 1)) fun v29 =>
  B.pv (V.bin .sub v7 (.int .i64 1)) fun v31 =>
  Y1 [v29, v31] h)
  (Q (.tup []) h)
@[simp] def zcw.l2 (C : CSem) (E : z5) (Q : AVal → zb → Prop) (v0 : AVal) : List AVal → zb → (List AVal → zb → Prop) → Prop
 | [v6, v7], h, Y1 => zcw.k1 C E Q Y1 v0 v6 v7 h
 | _, _, _ => False
@[simp] def zcw.cps (C : CSem) (E : z5) (v0 v1 v2 : AVal) (h : zb) (Q : AVal → zb → Prop) : Prop :=
 B.pv (V.bin .sub v2 (.int .i64 1)) fun v10 =>
  zd (zcw.l2 C E Q v0) [v1, v10] h
@[simp] def zf.k1 (C : CSem) (E : z5) (f1 : Nat) (Q : AVal → zb → Prop) (Y1 : List AVal → zb → Prop) (Y2 : List AVal → zb → Prop) (v0 v1 v2 v7 v8 v10 : AVal) (h : zb) : Prop :=
 B.pv (V.bin .lss v10 v2) fun v103 =>
  B.cond v103
  (B.pv (V.idxS E.es v0 v10) fun v108 =>
  E.ld h v108 fun v109 =>
  B.pv (V.bin .sub v10 (.int .i64 1)) fun v112 =>
  B.pv (V.idxS E.es v0 v112) fun v113 =>
  E.ld h v113 fun v114 =>
  B.call C f1 [v109, v114] h fun v115 h =>
  B.pv (V.un .not v115) fun v116 =>
  B.cond v116
  (B.pv (V.bin .add v8 (.int .i64 1)) fun v16 =>
  Y1 [v7, v16] h)
  (B.pv (V.bin .sub v10 (.int .i64 1)) fun v121 =>
  B.pv (V.bin .sub v10 (.int .i64 1)) fun v124 =>
  B.pv (V.idxS E.es v0 v124) fun v125 =>
  E.ld h v125 fun v126 =>
  B.pv (V.idxS E.es v0 v10) fun v129 =>
  E.ld h v129 fun v130 =>
  B.pv (V.idxS E.es v0 v10) fun v131 =>
  E.st h v131 v126 fun h =>
  B.pv (V.idxS E.es v0 v121) fun v132 =>
  E.st h v132 v130 fun h =>
  B.pv (V.bin .add v10 (.int .i64 1)) fun v105 =>
  Y2 [v105] h))
  (B.pv (V.bin .add v8 (.int .i64 1)) fun v16 =>
  Y1 [v7, v16] h)
@[simp] def zf.l2 (C : CSem) (E : z5) (f1 : Nat) (Q : AVal → zb → Prop) (Y1 : List AVal → zb → Prop) (v0 v1 v2 v7 v8 : AVal) : List AVal → zb → (List AVal → zb → Prop) → Prop
 | [v10], h, Y2 => zf.k1 C E f1 Q Y1 Y2 v0 v1 v2 v7 v8 v10 h
 | _, _, _ => False
@[simp] def zf.k3 (C : CSem) (E : z5) (f1 : Nat) (Q : AVal → zb → Prop) (Y1 : List AVal → zb → Prop) (v0 v1 v2 v7 v8 : AVal) (h : zb) : Prop :=
 B.pv (V.bin .sub v2 v7) fun v97 =>
  B.pv (V.bin .geq v97 (.int .i64 2)) fun v98 =>
  B.cond v98 (B.pv (V.bin .add v7 (.int .i64 1)) fun v100 =>
  zd (zf.l2 C E f1 Q Y1 v0 v1 v2 v7 v8) [v100] h) (B.pv (V.bin .add v8 (.int .i64 1)) fun v16 =>
  Y1 [v7, v16] h)
@[simp] def zf.k4 (C : CSem) (E : z5) (f1 : Nat) (Q : AVal → zb → Prop) (Y1 : List AVal → zb → Prop) (Y3 : List AVal → zb → Prop) (v0 v1 v2 v7 v8 v9 : AVal) (h : zb) : Prop :=
 B.pv (V.bin .geq v9 (.int .i64 1)) fun v65 =>
  B.cond v65
  (B.pv (V.idxS E.es v0 v9) fun v70 =>
  E.ld h v70 fun v71 =>
  B.pv (V.bin .sub v9 (.int .i64 1)) fun v74 =>
  B.pv (V.idxS E.es v0 v74) fun v75 =>
  E.ld h v75 fun v76 =>
  B.call C f1 [v71, v76] h fun v77 h =>
  B.pv (V.un .not v77) fun v78 =>
  B.cond v78
  (zf.k3 C E f1 Q Y1 v0 v1 v2 v7 v8 h)
  (B.pv (V.bin .sub v9 (.int .i64 1)) fun v83 =>
  B.pv (V.bin .sub v9 (.int .i64 1)) fun v86 =>
  B.pv (V.idxS E.es v0 v86) fun v87 =>
  E.ld h v87 fun v88 =>
  B.pv (V.idxS E.es v0 v9) fun v91 =>
  E.ld h v91 fun v92 =>
  B.pv (V.idxS E.es v0 v9) fun v93 =>
  E.st h v93 v88 fun h =>
  B.pv (V.idxS E.es v0 v83) fun v94 =>
  E.st h v94 v92 fun h =>
  B.pv (V.bin .sub v9 (.int .i64 1)) fun v67 =>
  Y3 [v67] h))
  (zf.k3 C E f1 Q Y1 v0 v1 v2 v7 v8 h)
@[simp] def zf.l5 (C : CSem) (E : z5) (f1 : Nat) (Q : AVal → zb → Prop) (Y1 : List AVal → zb → Prop) (v0 v1 v2 v7 v8 : AVal) : List AVal → zb → (List AVal → zb → Prop) → Prop
 | [v9], h, Y3 => zf.k4 C E f1 Q Y1 Y3 v0 v1 v2 v7 v8 v9 h
 | _, _, _ => False
@[simp] def zf.k6 (C : CSem) (E : z5) (f1 : Nat) (Q : AVal → zb → Prop) (Y1 : List AVal → zb → Prop) (v0 v1 v2 v7 v8 : AVal) (h : zb) : Prop :=
 B.pv (V.bin .sub v7 v1) fun v60 =>
  B.pv (V.bin .geq v60 (.int .i64 2)) fun v61 =>
  B.cond v61 (B.pv (V.bin .sub v7 (.int .i64 1)) fun v63 =>
  zd (zf.l5 C E f1 Q Y1 v0 v1 v2 v7 v8) [v63] h) (zf.k3 C E f1 Q Y1 v0 v1 v2 v7 v8 h)
@[simp] def zf.k7 (C : CSem) (E : z5) (f1 : Nat) (Q : AVal → zb → Prop) (Y1 : List AVal → zb → Prop) (v0 v1 v2 v7 v8 : AVal) (h : zb) : Prop :=
 B.pv (V.bin .sub v7 (.int .i64 1)) fun v46 =>
  B.pv (V.bin .sub v7 (.int .i64 1)) fun v49 =>
  B.pv (V.idxS E.es v0 v49) fun v50 =>
  E.ld h v50 fun v51 =>
  B.pv (V.idxS E.es v0 v7) fun v54 =>
  E.ld h v54 fun v55 =>
  B.pv (V.idxS E.es v0 v7) fun v56 =>
  E.st h v56 v51 fun h =>
  B.pv (V.idxS E.es v0 v46) fun v57 =>
  E.st h v57 v55 fun h =>
  zf.k6 C E f1 Q Y1 v0 v1 v2 v7 v8 h
@[simp] def zf.k8 (C : CSem) (E : z5) (f1 : Nat) (Q : AVal → zb → Prop) (Y1 : List AVal → zb → Prop) (v0 v1 v2 v7 v8 : AVal) (h : zb) : Prop :=
 B.pv (V.bin .sub v2 v1) fun v40 =>
  B.pv (V.bin .lss v40 (.int .i64 50)) fun v41 =>
  B.cond v41
  (Q (.bool false) h)
  (zf.k7 C E f1 Q Y1 v0 v1 v2 v7 v8 h)
@[simp] def zf.k9 (C : CSem) (E : z5) (f1 : Nat) (Q : AVal → zb → Prop) (Y1 : List AVal → zb → Prop) (Y4 : List AVal → zb → Prop) (v0 v1 v2 v7 v8 : AVal) (h : zb) : Prop :=
 B.pv (V.bin .lss v7 v2) fun v19 =>
  B.gd h v19 true (fun K => K v0 h) fun v21 h =>
  B.gd h v19 true (fun K => K v7 h) fun v22 h =>
  B.gd h v19 true (fun K => B.pv (V.idxS E.es v21 v22) fun v => K v h) fun v23 h =>
  B.gd h v19 true (fun K => E.ld h v23 fun v => K v h) fun v24 h =>
  B.gd h v19 true (fun K => K v0 h) fun v25 h =>
  B.gd h v19 true (fun K => K v7 h) fun v26 h =>
  B.gd h v19 true (fun K => B.pv (V.bin .sub v26 (.int .i64 1)) fun v => K v h) fun v27 h =>
  B.gd h v19 true (fun K => B.pv (V.idxS E.es v25 v27) fun v => K v h) fun v28 h =>
  B.gd h v19 true (fun K => E.ld h v28 fun v => K v h) fun v29 h =>
  B.gd h v19 true (fun K => B.call C f1 [v24, v29] h K) fun v30 h =>
  B.gd h v19 true (fun K => B.pv (V.un .not v30) fun v => K v h) fun v31 h =>
  B.pick v19 v31 (.bool false) fun v32 =>
  B.cond v32
  (B.pv (V.bin .add v7 (.int .i64 1)) fun v34 =>
  Y4 [v34] h)
  (B.pv (V.bin .eql v7 v2) fun v37 =>
  B.cond v37
  (Q (.bool true) h)
  (zf.k8 C E f1 Q Y1 v0 v1 v2 v7 v8 h))
@[simp] def zf.l10 (C : CSem) (E : z5) (f1 : Nat) (Q : AVal → zb → Prop) (Y1 : List AVal → zb → Prop) (v0 v1 v2 v8 : AVal) : List AVal → zb → (List AVal → zb → Prop) → Prop
 | [v7], h, Y4 => zf.k9 C E f1 Q Y1 Y4 v0 v1 v2 v7 v8 h
 | _, _, _ => False
@[simp] def zf.k11 (C : CSem) (E : z5) (f1 : Nat) (Q : AVal → zb → Prop) (Y1 : List AVal → zb → Prop) (v0 v1 v2 v7 v8 : AVal) (h : zb) : Prop :=
 B.pv (V.bin .lss v8 (.int .i64 5)) fun v14 =>
  B.cond v14
  (zd (zf.l10 C E f1 Q Y1 v0 v1 v2 v8) [v7] h)
  (Q (.bool false) h)
@[simp] def zf.l12 (C : CSem) (E : z5) (f1 : Nat) (Q : AVal → zb → Prop) (v0 v1 v2 : AVal) : List AVal → zb → (List AVal → zb → Prop) → Prop
 | [v7, v8], h, Y1 => zf.k11 C E f1 Q Y1 v0 v1 v2 v7 v8 h
 | _, _, _ => False
@[simp] def zf.cps (C : CSem) (E : z5) (f1 : Nat) (v0 v1 v2 : AVal) (h : zb) (Q : AVal → zb → Prop) : Prop :=
 B.pv (V.bin .add v1 (.int .i64 1)) fun v12 =>
  zd (zf.l12 C E f1 Q v0 v1 v2) [v12, (.int .i64 0)] h
@[simp] def zp.k1 (C : CSem) (E : z5) (f1 : Nat) (Q : AVal → zb → Prop) (Y1 : List AVal → zb → Prop) (v0 v1 v9 v10 : AVal) (h : zb) : Prop :=
 B.pv (V.bin .gtr v9 v10) fun v64 =>
  B.cond v64
  (Q v9 h)
  (B.pv (V.idxS E.es v0 v10) fun v71 =>
  E.ld h v71 fun v72 =>
  B.pv (V.idxS E.es v0 v9) fun v75 =>
  E.ld h v75 fun v76 =>
  B.pv (V.idxS E.es v0 v9) fun v77 =>
  E.st h v77 v72 fun h =>
  B.pv (V.idxS E.es v0 v10) fun v78 =>
  E.st h v78 v76 fun h =>
  B.pv (V.bin .add v9 (.int .i64 1)) fun v80 =>
  B.pv (V.bin .sub v10 (.int .i64 1)) fun v82 =>
  Y1 [v80, v82] h)
@[simp] def zp.k2 (C : CSem) (E : z5) (f1 : Nat) (Q : AVal → zb → Prop) (Y1 : List AVal → zb → Prop) (Y2 : List AVal → zb → Prop) (v0 v1 v9 v10 : AVal) (h : zb) : Prop :=
 B.pv (V.bin .leq v9 v10) fun v48 =>
  B.gd h v48 true (fun K => K v0 h) fun v50 h =>
  B.gd h v48 true (fun K => K v1 h) fun v51 h =>
  B.gd h v48 true (fun K => B.pv (V.idxS E.es v50 v51) fun v => K v h) fun v52 h =>
  B.gd h v48 true (fun K => E.ld h v52 fun v => K v h) fun v53 h =>
  B.gd h v48 true (fun K => K v0 h) fun v54 h =>
  B.gd h v48 true (fun K => K v10 h) fun v55 h =>
  B.gd h v48 true (fun K => B.pv (V.idxS E.es v54 v55) fun v => K v h) fun v56 h =>
  B.gd h v48 true (fun K => E.ld h v56 fun v => K v h) fun v57 h =>
  B.gd h v48 true (fun K => B.call C f1 [v53, v57] h K) fun v58 h =>
  B.pick v48 v58 (.bool false) fun v59 =>
  B.cond v59
  (B.pv (V.bin .sub v10 (.int .i64 1)) fun v61 =>
  Y2 [v61] h)
  (zp.k1 C E f1 Q Y1 v0 v1 v9 v10 h)
@[simp] def zp.l3 (C : CSem) (E : z5) (f1 : Nat) (Q : AVal → zb → Prop) (Y1 : List AVal → zb → Prop) (v0 v1 v9 : AVal) : List AVal → zb → (List AVal → zb → Prop) → Prop
 | [v10], h, Y2 => zp.k2 C E f1 Q Y1 Y2 v0 v1 v9 v10 h
 | _, _, _ => False
@[simp] def zp.k4 (C : CSem) (E : z5) (f1 : Nat) (Q : AVal → zb → Prop) (Y1 : List AVal → zb → Prop) (Y3 : List AVal → zb → Prop) (v0 v1 v9 v10 : AVal) (h : zb) : Prop :=
 B.pv (V.bin .leq v9 v10) fun v31 =>
  B.gd h v31 true (fun K => K v0 h) fun v33 h =>
  B.gd h v31 true (fun K => K v1 h) fun v34 h =>
  B.gd h v31 true (fun K => B.pv (V.idxS E.es v33 v34) fun v => K v h) fun v35 h =>
  B.gd h v31 true (fun K => E.ld h v35 fun v => K v h) fun v36 h =>
  B.gd h v31 true (fun K => K v0 h) fun v37 h =>
  B.gd h v31 true (fun K => K v9 h) fun v38 h =>
  B.gd h v31 true (fun K => B.pv (V.idxS E.es v37 v38) fun v => K v h) fun v39 h =>
  B.gd h v31 true (fun K => E.ld h v39 fun v => K v h) fun v40 h =>
  B.gd h v31 true (fun K => B.call C f1 [v36, v40] h K) fun v41 h =>
  B.gd h v31 true (fun K => B.pv (V.un .not v41) fun v => K v h) fun v42 h =>
  B.pick v31 v42 (.bool false) fun v43 =>
  B.cond v43
  (B.pv (V.bin .add v9 (.int .i64 1)) fun v45 =>
  Y3 [v45] h)
  (zd (zp.l3 C E f1 Q Y1 v0 v1 v9) [v10] h)
@[simp] def zp.l5 (C : CSem) (E : z5) (f1 : Nat) (Q : AVal → zb → Prop) (Y1 : List AVal → zb → Prop) (v0 v1 v10 : AVal) : List AVal → zb → (List AVal → zb → Prop) → Prop
 | [v9], h, Y3 => zp.k4 C E f1 Q Y1 Y3 v0 v1 v9 v10 h
 | _, _, _ => False
@[simp] def zp.l6 (C : CSem) (E : z5) (f1 : Nat) (Q : AVal → zb → Prop) (v0 v1 : AVal) : List AVal → zb → (List AVal → zb → Prop) → Prop
 | [v9, v10], h, Y1 => zd (zp.l5 C E f1 Q Y1 v0 v1 v10) [v9] h
 | _, _, _ => False
@[simp] def zp.k7 (C : CSem) (E : z5) (f1 : Nat) (Q : AVal → zb → Prop) (v0 v1 v2 : AVal) (h : zb) : Prop :=
 B.pv (V.bin .add v1 (.int .i64 1)) fun v26 =>
  B.pv (V.bin .sub v2 (.int .i64 1)) fun v28 =>
  zd (zp.l6 C E f1 Q v0 v1) [v26, v28] h
@[simp] def zp.k8 (C : CSem) (E : z5) (f1 : Nat) (Q : AVal → zb → Prop) (v0 v1 v2 v3 : AVal) (h : zb) : Prop :=
 B.pv (V.idxS E.es v0 v3) fun v17 =>
  E.ld h v17 fun v18 =>
  B.pv (V.idxS E.es v0 v1) fun v21 =>
  E.ld h v21 fun v22 =>
  B.pv (V.idxS E.es v0 v1) fun v23 =>
  E.st h v23 v18 fun h =>
  B.pv (V.idxS E.es v0 v3) fun v24 =>
  E.st h v24 v22 fun h =>
  zp.k7 C E f1 Q v0 v1 v2 h
@[simp] def zp.cps (C : CSem) (E : z5) (f1 : Nat) (v0 v1 v2 v3 : AVal) (h : zb) (Q : AVal → zb → Prop) : Prop :=
 zp.k8 C E f1 Q v0 v1 v2 v3 h
@[simp] def zi.k1 (C : CSem) (E : z5) (f1 : Nat) (Q : AVal → zb → Prop) (v0 v1 v11 : AVal) (h : zb) : Prop :=
 B.pv (V.idxS E.es v0 v1) fun v159 =>
  E.ld h v159 fun v160 =>
  B.pv (V.idxS E.es v0 v11) fun v163 =>
  E.ld h v163 fun v164 =>
  B.pv (V.idxS E.es v0 v11) fun v165 =>
  E.st h v165 v160 fun h =>
  B.pv (V.idxS E.es v0 v1) fun v166 =>
  E.st h v166 v164 fun h =>
  Q (.tup [v11, (.bool false)]) h
@[simp] def zi.k2 (C : CSem) (E : z5) (f1 : Nat) (Q : AVal → zb → Prop) (Y1 : List AVal → zb → Prop) (v0 v1 v10 v11 : AVal) (h : zb) : Prop :=
 B.pv (V.bin .gtr v10 v11) fun v134 =>
  B.cond v134
  (zi.k1 C E f1 Q v0 v1 v11 h)
  (B.pv (V.idxS E.es v0 v11) fun v141 =>
  E.ld h v141 fun v142 =>
  B.pv (V.idxS E.es v0 v10) fun v145 =>
  E.ld h v145 fun v146 =>
  B.pv (V.idxS E.es v0 v10) fun v147 =>
  E.st h v147 v142 fun h =>
  B.pv (V.idxS E.es v0 v11) fun v148 =>
  E.st h v148 v146 fun h =>
  B.pv (V.bin .add v10 (.int .i64 1)) fun v150 =>
  B.pv (V.bin .sub v11 (.int .i64 1)) fun v152 =>
  Y1 [v150, v152] h)
@[simp] def zi.k3 (C : CSem) (E : z5) (f1 : Nat) (Q : AVal → zb → Prop) (Y1 : List AVal → zb → Prop) (Y2 : List AVal → zb → Prop) (v0 v1 v10 v11 : AVal) (h : zb) : Prop :=
 B.pv (V.bin .leq v10 v11) fun v117 =>
  B.gd h v117 true (fun K => K v0 h) fun v119 h =>
  B.gd h v117 true (fun K => K v11 h) fun v120 h =>
  B.gd h v117 true (fun K => B.pv (V.idxS E.es v119 v120) fun v => K v h) fun v121 h =>
  B.gd h v117 true (fun K => E.ld h v121 fun v => K v h) fun v122 h =>
  B.gd h v117 true (fun K => K v0 h) fun v123 h =>
  B.gd h v117 true (fun K => K v1 h) fun v124 h =>
  B.gd h v117 true (fun K => B.pv (V.idxS E.es v123 v124) fun v => K v h) fun v125 h =>
  B.gd h v117 true (fun K => E.ld h v125 fun v => K v h) fun v126 h =>
  B.gd h v117 true (fun K => B.call C f1 [v122, v126] h K) fun v127 h =>
  B.gd h v117 true (fun K => B.pv (V.un .not v127) fun v => K v h) fun v128 h =>
  B.pick v117 v128 (.bool false) fun v129 =>
  B.cond v129
  (B.pv (V.bin .sub v11 (.int .i64 1)) fun v131 =>
  Y2 [v131] h)
  (zi.k2 C E f1 Q Y1 v0 v1 v10 v11 h)
@[simp] def zi.l4 (C : CSem) (E : z5) (f1 : Nat) (Q : AVal → zb → Prop) (Y1 : List AVal → zb → Prop) (v0 v1 v10 : AVal) : List AVal → zb → (List AVal → zb → Prop) → Prop
 | [v11], h, Y2 => zi.k3 C E f1 Q Y1 Y2 v0 v1 v10 v11 h
 | _, _, _ => False
@[simp] def zi.k5 (C : CSem) (E : z5) (f1 : Nat) (Q : AVal → zb → Prop) (Y1 : List AVal → zb → Prop) (Y3 : List AVal → zb → Prop) (v0 v1 v10 v11 : AVal) (h : zb) : Prop :=
 B.pv (V.bin .leq v10 v11) fun v101 =>
  B.gd h v101 true (fun K => K v0 h) fun v103 h =>
  B.gd h v101 true (fun K => K v10 h) fun v104 h =>
  B.gd h v101 true (fun K => B.pv (V.idxS E.es v103 v104) fun v => K v h) fun v105 h =>
  B.gd h v101 true (fun K => E.ld h v105 fun v => K v h) fun v106 h =>
  B.gd h v101 true (fun K => K v0 h) fun v107 h =>
  B.gd h v101 true (fun K => K v1 h) fun v108 h =>
  B.gd h v101 true (fun K => B.pv (V.idxS E.es v107 v108) fun v => K v h) fun v109 h =>
  B.gd h v101 true (fun K => E.ld h v109 fun v => K v h) fun v110 h =>
  B.gd h v101 true (fun K => B.call C f1 [v106, v110] h K) fun v111 h =>
  B.pick v101 v111 (.bool false) fun v112 =>
  B.cond v112
  (B.pv (V.bin .add v10 (.int .i64 1)) fun v114 =>
  Y3 [v114] h)
  (zd (zi.l4 C E f1 Q Y1 v0 v1 v10) [v11] h)
@[simp] def zi.l6 (C : CSem) (E : z5) (f1 : Nat) (Q : AVal → zb → Prop) (Y1 : List AVal → zb → Prop) (v0 v1 v11 : AVal) : List AVal → zb → (List AVal → zb → Prop) → Prop
 | [v10], h, Y3 => zi.k5 C E f1 Q Y1 Y3 v0 v1 v10 v11 h
 | _, _, _ => False
@[simp] def zi.l7 (C : CSem) (E : z5) (f1 : Nat) (Q : AVal → zb → Prop) (v0 v1 : AVal) : List AVal → zb → (List AVal → zb → Prop) → Prop
 | [v10, v11], h, Y1 => zd (zi.l6 C E f1 Q Y1 v0 v1 v11) [v10] h
 | _, _, _ => False
@[simp] def zi.k8 (C : CSem) (E : z5) (f1 : Nat) (Q : AVal → zb → Prop) (v0 v1 v10 v11 : AVal) (h : zb) : Prop :=
 B.pv (V.bin .add v10 (.int .i64 1)) fun v96 =>
  B.pv (V.bin .sub v11 (.int .i64 1)) fun v98 =>
  zd (zi.l7 C E f1 Q v0 v1) [v96, v98] h
@[simp] def zi.k9 (C : CSem) (E : z5) (f1 : Nat) (Q : AVal → zb → Prop) (v0 v1 v10 v11 : AVal) (h : zb) : Prop :=
 B.pv (V.idxS E.es v0 v11) fun v87 =>
  E.ld h v87 fun v88 =>
  B.pv (V.idxS E.es v0 v10) fun v91 =>
  E.ld h v91 fun v92 =>
  B.pv (V.idxS E.es v0 v10) fun v93 =>
  E.st h v93 v88 fun h =>
  B.pv (V.idxS E.es v0 v11) fun v94 =>
  E.st h v94 v92 fun h =>
  zi.k8 C E f1 Q v0 v1 v10 v11 h
@[simp] def zi.k10 (C : CSem) (E : z5) (f1 : Nat) (Q : AVal → zb → Prop) (v0 v1 v10 v11 : AVal) (h : zb) : Prop :=
 B.pv (V.bin .gtr v10 v11) fun v65 =>
  B.cond v65
  (B.pv (V.idxS E.es v0 v1) fun v72 =>
  E.ld h v72 fun v73 =>
  B.pv (V.idxS E.es v0 v11) fun v76 =>
  E.ld h v76 fun v77 =>
  B.pv (V.idxS E.es v0 v11) fun v78 =>
  E.st h v78 v73 fun h =>
  B.pv (V.idxS E.es v0 v1) fun v79 =>
  E.st h v79 v77 fun h =>
  Q (.tup [v11, (.bool true)]) h)
  (zi.k9 C E f1 Q v0 v1 v10 v11 h)
@[simp] def zi.k11 (C : CSem) (E : z5) (f1 : Nat) (Q : AVal → zb → Prop) (Y4 : List AVal → zb → Prop) (v0 v1 v10 v11 : AVal) (h : zb) : Prop :=
 B.pv (V.bin .leq v10 v11) fun v48 =>
  B.gd h v48 true (fun K => K v0 h) fun v50 h =>
  B.gd h v48 true (fun K => K v11 h) fun v51 h =>
  B.gd h v48 true (fun K => B.pv (V.idxS E.es v50 v51) fun v => K v h) fun v52 h =>
  B.gd h v48 true (fun K => E.ld h v52 fun v => K v h) fun v53 h =>
  B.gd h v48 true (fun K => K v0 h) fun v54 h =>
  B.gd h v48 true (fun K => K v1 h) fun v55 h =>
  B.gd h v48 true (fun K => B.pv (V.idxS E.es v54 v55) fun v => K v h) fun v56 h =>
  B.gd h v48 true (fun K => E.ld h v56 fun v => K v h) fun v57 h =>
  B.gd h v48 true (fun K => B.call C f1 [v53, v57] h K) fun v58 h =>
  B.gd h v48 true (fun K => B.pv (V.un .not v58) fun v => K v h) fun v59 h =>
  B.pick v48 v59 (.bool false) fun v60 =>
  B.cond v60
  (B.pv (V.bin .sub v11 (.int .i64 1)) fun v62 =>
  Y4 [v62] h)
  (zi.k10 C E f1 Q v0 v1 v10 v11 h)
@[simp] def zi.l12 (C : CSem) (E : z5) (f1 : Nat) (Q : AVal → zb → Prop) (v0 v1 v10 : AVal) : List AVal → zb → (List AVal → zb → Prop) → Prop
 | [v11], h, Y4 => zi.k11 C E f1 Q Y4 v0 v1 v10 v11 h
 | _, _, _ => False
@[simp] def zi.k13 (C : CSem) (E : z5) (f1 : Nat) (Q : AVal → zb → Prop) (Y5 : List AVal → zb → Prop) (v0 v1 v10 v11 : AVal) (h : zb) : Prop :=
 B.pv (V.bin .leq v10 v11) fun v32 =>
  B.gd h v32 true (fun K => K v0 h) fun v34 h =>
  B.gd h v32 true (fun K => K v10 h) fun v35 h =>
  B.gd h v32 true (fun K => B.pv (V.idxS E.es v34 v35) fun v => K v h) fun v36 h =>
  B.gd h v32 true (fun K => E.ld h v36 fun v => K v h) fun v37 h =>
  B.gd h v32 true (fun K => K v0 h) fun v38 h =>
  B.gd h v32 true (fun K => K v1 h) fun v39 h =>
  B.gd h v32 true (fun K => B.pv (V.idxS E.es v38 v39) fun v => K v h) fun v40 h =>
  B.gd h v32 true (fun K => E.ld h v40 fun v => K v h) fun v41 h =>
  B.gd h v32 true (fun K => B.call C f1 [v37, v41] h K) fun v42 h =>
  B.pick v32 v42 (.bool false) fun v43 =>
  B.cond v43
  (B.pv (V.bin .add v10 (.int .i64 1)) fun v45 =>
  Y5 [v45] h)
  (zd (zi.l12 C E f1 Q v0 v1 v10) [v11] h)
@[simp] def zi.l14 (C : CSem) (E : z5) (f1 : Nat) (Q : AVal → zb → Prop) (v0 v1 v11 : AVal) : List AVal → zb → (List AVal → zb → Prop) → Prop
 | [v10], h, Y5 => zi.k13 C E f1 Q Y5 v0 v1 v10 v11 h
 | _, _, _ => False
@[simp] def zi.k15 (C : CSem) (E : z5) (f1 : Nat) (Q : AVal → zb → Prop) (v0 v1 v2 : AVal) (h : zb) : Prop :=
 B.pv (V.bin .add v1 (.int .i64 1)) fun v27 =>
  B.pv (V.bin .sub v2 (.int .i64 1)) fun v29 =>
  zd (zi.l14 C E f1 Q v0 v1 v29) [v27] h
@[simp] def zi.k16 (C : CSem) (E : z5) (f1 : Nat) (Q : AVal → zb → Prop) (v0 v1 v2 v3 : AVal) (h : zb) : Prop :=
 B.pv (V.idxS E.es v0 v3) fun v18 =>
  E.ld h v18 fun v19 =>
  B.pv (V.idxS E.es v0 v1) fun v22 =>
  E.ld h v22 fun v23 =>
  B.pv (V.idxS E.es v0 v1) fun v24 =>
  E.st h v24 v19 fun h =>
  B.pv (V.idxS E.es v0 v3) fun v25 =>
  E.st h v25 v23 fun h =>
  zi.k15 C E f1 Q v0 v1 v2 h
@[simp] def zi.cps (C : CSem) (E : z5) (f1 : Nat) (v0 v1 v2 v3 : AVal) (h : zb) (Q : AVal → zb → Prop) : Prop :=
 zi.k16 C E f1 Q v0 v1 v2 v3 h
@[simp] def zb7.k1 (C : CSem) (E : z5) (f1 : Nat) (Q : AVal → zb → Prop) (Y1 : List AVal → zb → Prop) (v0 v2 v3 v8 v9 : AVal) (h : zb) : Prop :=
 B.pv (V.bin .add v3 v8) fun v42 =>
  B.pv (V.idxS E.es v0 v42) fun v43 =>
  E.ld h v43 fun v44 =>
  B.pv (V.bin .add v3 v9) fun v48 =>
  B.pv (V.idxS E.es v0 v48) fun v49 =>
  E.ld h v49 fun v50 =>
  B.call C f1 [v44, v50] h fun v51 h =>
  B.pv (V.un .not v51) fun v52 =>
  B.cond v52
  (Q (.tup []) h)
  (B.pv (V.bin .add v3 v8) fun v56 =>
  B.pv (V.bin .add v3 v9) fun v60 =>
  B.pv (V.bin .add v3 v9) fun v64 =>
  B.pv (V.idxS E.es v0 v64) fun v65 =>
  E.ld h v65 fun v66 =>
  B.pv (V.bin .add v3 v8) fun v70 =>
  B.pv (V.idxS E.es v0 v70) fun v71 =>
  E.ld h v71 fun v72 =>
  B.pv (V.idxS E.es v0 v56) fun v73 =>
  E.st h v73 v66 fun h =>
  B.pv (V.idxS E.es v0 v60) fun v74 =>
  E.st h v74 v72 fun h =>
  Y1 [v9] h)
@[simp] def zb7.k2 (C : CSem) (E : z5) (f1 : Nat) (Q : AVal → zb → Prop) (Y1 : List AVal → zb → Prop) (v0 v2 v3 v8 v9 : AVal) (h : zb) : Prop :=
 B.pv (V.bin .add v9 (.int .i64 1)) fun v18 =>
  B.pv (V.bin .lss v18 v2) fun v20 =>
  B.gd h v20 true (fun K => K v0 h) fun v22 h =>
  B.gd h v20 true (fun K => K v3 h) fun v23 h =>
  B.gd h v20 true (fun K => K v9 h) fun v24 h =>
  B.gd h v20 true (fun K => B.pv (V.bin .add v23 v24) fun v => K v h) fun v25 h =>
  B.gd h v20 true (fun K => B.pv (V.idxS E.es v22 v25) fun v => K v h) fun v26 h =>
  B.gd h v20 true (fun K => E.ld h v26 fun v => K v h) fun v27 h =>
  B.gd h v20 true (fun K => K v0 h) fun v28 h =>
  B.gd h v20 true (fun K => K v3 h) fun v29 h =>
  B.gd h v20 true (fun K => K v9 h) fun v30 h =>
  B.gd h v20 true (fun K => B.pv (V.bin .add v29 v30) fun v => K v h) fun v31 h =>
  B.gd h v20 true (fun K => B.pv (V.bin .add v31 (.int .i64 1)) fun v => K v h) fun v32 h =>
  B.gd h v20 true (fun K => B.pv (V.idxS E.es v28 v32) fun v => K v h) fun v33 h =>
  B.gd h v20 true (fun K => E.ld h v33 fun v => K v h) fun v34 h =>
  B.gd h v20 true (fun K => B.call C f1 [v27, v34] h K) fun v35 h =>
  B.pick v20 v35 (.bool false) fun v36 =>
  B.cond v36
  (B.pv (V.bin .add v9 (.int .i64 1)) fun v38 =>
  zb7.k1 C E f1 Q Y1 v0 v2 v3 v8 v38 h)
  (zb7.k1 C E f1 Q Y1 v0 v2 v3 v8 v9 h)
@[simp] def zb7.k3 (C : CSem) (E : z5) (f1 : Nat) (Q : AVal → zb → Prop) (Y1 : List AVal → zb → Prop) (v0 v2 v3 v8 : AVal) (h : zb) : Prop :=
 B.pv (V.bin .mul (.int .i64 2) v8) fun v12 =>
  B.pv (V.bin .add v12 (.int .i64 1)) fun v13 =>
  B.pv (V.bin .geq v13 v2) fun v16 =>
  B.cond v16
  (Q (.tup []) h)
  (zb7.k2 C E f1 Q Y1 v0 v2 v3 v8 v13 h)
@[simp] def zb7.l4 (C : CSem) (E : z5) (f1 : Nat) (Q : AVal → zb → Prop) (v0 v2 v3 : AVal) : List AVal → zb → (List AVal → zb → Prop) → Prop
 | [v8], h, Y1 => zb7.k3 C E f1 Q Y1 v0 v2 v3 v8 h
 | _, _, _ => False
@[simp] def zb7.cps (C : CSem) (E : z5) (f1 : Nat) (v0 v1 v2 v3 : AVal) (h : zb) (Q : AVal → zb → Prop) : Prop :=
 zd (zb7.l4 C E f1 Q v0 v2 v3) [v1] h
@[simp] def ze5.cps (C : CSem) (E : z5) (f1 : Nat) (v0 v1 v2 : AVal) (h : zb) (Q : AVal → zb → Prop) : Prop :=
 B.pv (V.bin .sub v1 (.int .i64 1)) fun v9 =>
  B.pv (V.bin .add v1 (.int .i64 1)) fun v12 =>
  B.call C f1 [v0, v9, v1, v12, v2] h fun v14 h =>
  Q v14 h
@[simp] def ze1.k1 (C : CSem) (E : z5) (f1 : Nat) (Q : AVal → zb → Prop) (v0 v1 v2 v3 v4 : AVal) (h : zb) : Prop :=
 B.call C f1 [v0, v1, v2, v4] h fun v16 h =>
  B.pv (V.ext 0 v16) fun v17 =>
  B.pv (V.ext 1 v16) fun v18 =>
  B.call C f1 [v0, v18, v3, v4] h fun v24 h =>
  B.pv (V.ext 0 v24) fun v25 =>
  B.pv (V.ext 1 v24) fun v26 =>
  B.call C f1 [v0, v17, v25, v4] h fun v32 h =>
  B.pv (V.ext 0 v32) fun v33 =>
  B.pv (V.ext 1 v32) fun v34 =>
  Q v34 h
@[simp] def ze1.cps (C : CSem) (E : z5) (f1 : Nat) (v0 v1 v2 v3 v4 : AVal) (h : zb) (Q : AVal → zb → Prop) : Prop :=
 ze1.k1 C E f1 Q v0 v1 v2 v3 v4 h
@[simp] def ze0.k1 (C : CSem) (E : z5) (f1 : Nat) (Q : AVal → zb → Prop) (v0 v1 v2 v3 : AVal) (h : zb) : Prop :=
 B.pv (V.idxS E.es v0 v2) fun v12 =>
  E.ld h v12 fun v13 =>
  B.pv (V.idxS E.es v0 v1) fun v16 =>
  E.ld h v16 fun v17 =>
  B.call C f1 [v13, v17] h fun v18 h =>
  B.cond v18
  (B.nilCheck v3 fun v20 =>
  B.ld h v20 fun v21 =>
  B.pv (V.bin .add v21 (.int .i64 1)) fun v22 =>
  B.nilCheck v3 fun v23 =>
  B.st h v23 v22 fun h =>
  Q (.tup [v2, v1]) h)
  (Q (.tup [v1, v2]) h)
@[simp] def ze0.cps (C : CSem) (E : z5) (f1 : Nat) (v0 v1 v2 v3 : AVal) (h : zb) (Q : AVal → zb → Prop) : Prop :=
 ze0.k1 C E f1 Q v0 v1 v2 v3 h
@[simp] def zc1.k1 (C : CSem) (E : z5) (f1 : Nat) (Q : AVal → zb → Prop) (Y1 : List AVal → zb → Prop) (v6 v25 v26 v27 : AVal) (h : zb) : Prop :=
 B.pv (V.bin .lss v27 v26) fun v28 =>
  B.cond v28
  (B.pv (V.idxS E.es v25 v27) fun v29 =>
  E.ld h v29 fun v30 =>
  B.appW h 1 16 v6 v30 fun v33 h =>
  B.pv (V.bin .add v27 (.int .i64 1)) fun v34 =>
  Y1 [v33, v34] h)
  (Q v6 h)
@[simp] def zc1.l2 (C : CSem) (E : z5) (f1 : Nat) (Q : AVal → zb → Prop) (v25 v26 : AVal) : List AVal → zb → (List AVal → zb → Prop) → Prop
 | [v6, v27], h, Y1 => zc1.k1 C E f1 Q Y1 v6 v25 v26 v27 h
 | _, _, _ => False
@[simp] def zc1.k3 (C : CSem) (E : z5) (f1 : Nat) (Q : AVal → zb → Prop) (Y2 : List AVal → zb → Prop) (v0 v3 v9 v10 v11 : AVal) (h : zb) : Prop :=
 B.pv (V.bin .lss v11 v10) fun v12 =>
  B.cond v12
  (B.pv (V.idxS E.es v9 v11) fun v13 =>
  E.ld h v13 fun v14 =>
  B.pv (V.zw v14) fun v17 =>
  B.pv (V.bin .add v3 v17) fun v18 =>
  B.pv (V.bin .lss v18 (.int .i64 0)) fun v20 =>
  B.cond v20
  (False)
  (B.pv (V.bin .add v11 (.int .i64 1)) fun v22 =>
  Y2 [v18, v22] h))
  (B.call C f1 [.nils, v3] h fun v24 h =>
  B.pv (V.zw v0) fun v26 =>
  zd (zc1.l2 C E f1 Q v0 v26) [v24, (.int .i64 0)] h)
@[simp] def zc1.l4 (C : CSem) (E : z5) (f1 : Nat) (Q : AVal → zb → Prop) (v0 v9 v10 : AVal) : List AVal → zb → (List AVal → zb → Prop) → Prop
 | [v3, v11], h, Y2 => zc1.k3 C E f1 Q Y2 v0 v3 v9 v10 v11 h
 | _, _, _ => False
@[simp] def zc1.cps (C : CSem) (E : z5) (f1 : Nat) (v0 : AVal) (h : zb) (Q : AVal → zb → Prop) : Prop :=
 B.pv (V.zw v0) fun v10 =>
  zd (zc1.l4 C E f1 Q v0 v0 v10) [(.int .i64 0), (.int .i64 0)] h
@[simp] def zf9.k1 (C : CSem) (E : z5) (Q : AVal → zb → Prop) (v0 v1 : AVal) (h : zb) : Prop :=
 B.pv (V.capSl v0) fun v10 =>
  B.pv (V.zw v0) fun v12 =>
  B.pv (V.bin .sub v10 v12) fun v13 =>
  B.pv (V.bin .sub v1 v13) fun v14 =>
  B.pv (V.bin .gtr v14 (.int .i64 0)) fun v16 =>
  B.cond v16
  (B.pv (V.capSl v0) fun v19 =>
  B.pv (V.zfe E.es v0 none (some v19)) fun v20 =>
  B.appZ h E.es E.bytes E.z v20 v14 fun v22 h =>
  B.pv (V.zw v0) fun v24 =>
  B.pv (V.zfe E.es v22 none (some v24)) fun v25 =>
  Q v25 h)
  (Q v0 h)
@[simp] def zf9.cps (C : CSem) (E : z5) (v0 v1 : AVal) (h : zb) (Q : AVal → zb → Prop) : Prop :=
 B.pv (V.bin .lss v1 (.int .i64 0)) fun v6 =>
  B.cond v6
  (False)
  (zf9.k1 C E Q v0 v1 h)
@[simp] def zcm.k1 (C : CSem) (N : Nat → Nat) (Q : AVal → zb → Prop) (v0 : AVal) (h : zb) : Prop :=
 B.nilCheck v0 fun v4 =>
  B.ld h v4 fun v5 =>
  B.nilCheck v0 fun v7 =>
  B.ld h v7 fun v8 =>
  B.pv (V.bin .shl v8 (.int .u64 13)) fun v9 =>
  B.pv (V.bin .xor v5 v9) fun v10 =>
  B.nilCheck v0 fun v11 =>
  B.st h v11 v10 fun h =>
  B.nilCheck v0 fun v13 =>
  B.ld h v13 fun v14 =>
  B.nilCheck v0 fun v16 =>
  B.ld h v16 fun v17 =>
  B.pv (V.bin .shr v17 (.int .u64 7)) fun v18 =>
  B.pv (V.bin .xor v14 v18) fun v19 =>
  B.nilCheck v0 fun v20 =>
  B.st h v20 v19 fun h =>
  B.nilCheck v0 fun v22 =>
  B.ld h v22 fun v23 =>
  B.nilCheck v0 fun v25 =>
  B.ld h v25 fun v26 =>
  B.pv (V.bin .shl v26 (.int .u64 17)) fun v27 =>
  B.pv (V.bin .xor v23 v27) fun v28 =>
  B.nilCheck v0 fun v29 =>
  B.st h v29 v28 fun h =>
  B.nilCheck v0 fun v31 =>
  B.ld h v31 fun v32 =>
  Q v32 h
@[simp] def zcm.cps (C : CSem) (N : Nat → Nat) (v0 : AVal) (h : zb) (Q : AVal → zb → Prop) : Prop :=
 zcm.k1 C N Q v0 h
def zcm.Imp (C : CSem) (N : Nat → Nat) : Prop := ∀ (v0 : AVal) (h : zb) (Q : AVal → zb → Prop), zcm.cps C N v0 h (dn Q) → C (N 298) [v0] h Q
@[simp] def zcv.cps (C : CSem) (N : Nat → Nat) (v0 : AVal) (h : zb) (Q : AVal → zb → Prop) : Prop :=
 B.pv (V.toInt .u64 v0) fun v4 =>
  B.call C (N 287) [v4] h fun v5 h =>
  B.pv (V.bin .shl (.int .u64 1) v5) fun v6 =>
  Q v6 h
def zcv.Imp (C : CSem) (N : Nat → Nat) : Prop := ∀ (v0 : AVal) (h : zb) (Q : AVal → zb → Prop), zcv.cps C N v0 h (dn Q) → C (N 299) [v0] h Q
def zby.cps (C : CSem) (N : Nat → Nat) (v0 : AVal) (h : zb) (Q : AVal → zb → Prop) : Prop :=
 zg1.cps C (opsS 16 (.str []) 0) (N 287) (N 375) v0 h Q
def zby.Imp (C : CSem) (N : Nat → Nat) : Prop := ∀ (v0 : AVal) (h : zb) (Q : AVal → zb → Prop), zby.cps C N v0 h (dn Q) → C (N 364) [v0] h Q
def zbn.cps (C : CSem) (N : Nat → Nat) (v0 : AVal) (h : zb) (Q : AVal → zb → Prop) : Prop :=
 zce.cps C (opsS 16 (.str []) 0) v0 h Q
def zbn.Imp (C : CSem) (N : Nat → Nat) : Prop := ∀ (v0 : AVal) (h : zb) (Q : AVal → zb → Prop), zbn.cps C N v0 h (dn Q) → C (N 365) [v0] h Q
def zq.cps (C : CSem) (N : Nat → Nat) (v0 v1 : AVal) (h : zb) (Q : AVal → zb → Prop) : Prop :=
 zd3.cps C (opsF 4 72 [.str [], .int .i64 0, .nils, .nils] 0 []) v0 v1 h Q
def zq.Imp (C : CSem) (N : Nat → Nat) : Prop := ∀ (v0 v1 : AVal) (h : zb) (Q : AVal → zb → Prop), zq.cps C N v0 v1 h (dn Q) → C (N 367) [v0, v1] h Q
def zbm.cps (C : CSem) (N : Nat → Nat) (v0 : AVal) (h : zb) (Q : AVal → zb → Prop) : Prop :=
 zc1.cps C (opsS 24 (.nils) 0) (N 376) v0 h Q
def zbm.Imp (C : CSem) (N : Nat → Nat) : Prop := ∀ (v0 : AVal) (h : zb) (Q : AVal → zb → Prop), zbm.cps C N v0 h (dn Q) → C (N 373) [v0] h Q
def zcn.cps (C : CSem) (N : Nat → Nat) (v0 v1 v2 v3 : AVal) (h : zb) (Q : AVal → zb → Prop) : Prop :=
 zt.cps C (opsS 16 (.str []) 0) (N 377) (N 378) (N 379) (N 375) (N 380) (N 381) (N 382) (N 383) (N 384) (N 385) v0 v1 v2 v3 h Q
def zcn.Imp (C : CSem) (N : Nat → Nat) : Prop := ∀ (v0 v1 v2 v3 : AVal) (h : zb) (Q : AVal → zb → Prop), zcn.cps C N v0 v1 v2 v3 h (dn Q) → C (N 375) [v0, v1, v2, v3] h Q
def zbu.cps (C : CSem) (N : Nat → Nat) (v0 v1 : AVal) (h : zb) (Q : AVal → zb → Prop) : Prop :=
 zf9.cps C (opsS 16 (.str []) 0) v0 v1 h Q
def zbu.Imp (C : CSem) (N : Nat → Nat) : Prop := ∀ (v0 v1 : AVal) (h : zb) (Q : AVal → zb → Prop), zbu.cps C N v0 v1 h (dn Q) → C (N 376) [v0, v1] h Q
def zb1.cps (C : CSem) (N : Nat → Nat) (v0 v1 v2 v3 : AVal) (h : zb) (Q : AVal → zb → Prop) : Prop :=
 zp.cps C (opsS 16 (.str []) 0) (N 377) v0 v1 v2 v3 h Q
def zb1.Imp (C : CSem) (N : Nat → Nat) : Prop := ∀ (v0 v1 v2 v3 : AVal) (h : zb) (Q : AVal → zb → Prop), zb1.cps C N v0 v1 v2 v3 h (dn Q) → C (N 378) [v0, v1, v2, v3] h Q
def zcf.cps (C : CSem) (N : Nat → Nat) (v0 v1 v2 v3 : AVal) (h : zb) (Q : AVal → zb → Prop) : Prop :=
 zi.cps C (opsS 16 (.str []) 0) (N 377) v0 v1 v2 v3 h Q
def zcf.Imp (C : CSem) (N : Nat → Nat) : Prop := ∀ (v0 v1 v2 v3 : AVal) (h : zb) (Q : AVal → zb → Prop), zcf.cps C N v0 v1 v2 v3 h (dn Q) → C (N 379) [v0, v1, v2, v3] h Q
def zbl.cps (C : CSem) (N : Nat → Nat) (v0 v1 v2 : AVal) (h : zb) (Q : AVal → zb → Prop) : Prop :=
 zf.cps C (opsS 16 (.str []) 0) (N 377) v0 v1 v2 h Q
def zbl.Imp (C : CSem) (N : Nat → Nat) : Prop := ∀ (v0 v1 v2 : AVal) (h : zb) (Q : AVal → zb → Prop), zbl.cps C N v0 v1 v2 h (dn Q) → C (N 380) [v0, v1, v2] h Q
def zb8.cps (C : CSem) (N : Nat → Nat) (v0 v1 v2 : AVal) (h : zb) (Q : AVal → zb → Prop) : Prop :=
 zcw.cps C (opsS 16 (.str []) 0) v0 v1 v2 h Q
def zb8.Imp (C : CSem) (N : Nat → Nat) : Prop := ∀ (v0 v1 v2 : AVal) (h : zb) (Q : AVal → zb → Prop), zb8.cps C N v0 v1 v2 h (dn Q) → C (N 381) [v0, v1, v2] h Q
def zcb.cps (C : CSem) (N : Nat → Nat) (v0 v1 v2 : AVal) (h : zb) (Q : AVal → zb → Prop) : Prop :=
 z6.cps C (opsS 16 (.str []) 0) (N 387) (N 388) v0 v1 v2 h Q
def zcb.Imp (C : CSem) (N : Nat → Nat) : Prop := ∀ (v0 v1 v2 : AVal) (h : zb) (Q : AVal → zb → Prop), zcb.cps C N v0 v1 v2 h (dn Q) → C (N 382) [v0, v1, v2] h Q
def zb5.cps (C : CSem) (N : Nat → Nat) (v0 v1 v2 : AVal) (h : zb) (Q : AVal → zb → Prop) : Prop :=
 zo.cps C (opsS 16 (.str []) 0) (N 298) (N 299) v0 v1 v2 h Q
def zb5.Imp (C : CSem) (N : Nat → Nat) : Prop := ∀ (v0 v1 v2 : AVal) (h : zb) (Q : AVal → zb → Prop), zb5.cps C N v0 v1 v2 h (dn Q) → C (N 383) [v0, v1, v2] h Q
def zcj.cps (C : CSem) (N : Nat → Nat) (v0 v1 v2 : AVal) (h : zb) (Q : AVal → zb → Prop) : Prop :=
 zbq.cps C (opsS 16 (.str []) 0) (N 386) v0 v1 v2 h Q
def zcj.Imp (C : CSem) (N : Nat → Nat) : Prop := ∀ (v0 v1 v2 : AVal) (h : zb) (Q : AVal → zb → Prop), zcj.cps C N v0 v1 v2 h (dn Q) → C (N 384) [v0, v1, v2] h Q
def zb4.cps (C : CSem) (N : Nat → Nat) (v0 v1 v2 : AVal) (h : zb) (Q : AVal → zb → Prop) : Prop :=
 zb3.cps C (opsS 16 (.str []) 0) (N 377) v0 v1 v2 h Q
def zb4.Imp (C : CSem) (N : Nat → Nat) : Prop := ∀ (v0 v1 v2 : AVal) (h : zb) (Q : AVal → zb → Prop), zb4.cps C N v0 v1 v2 h (dn Q) → C (N 385) [v0, v1, v2] h Q
def zci.cps (C : CSem) (N : Nat → Nat) (v0 v1 v2 v3 : AVal) (h : zb) (Q : AVal → zb → Prop) : Prop :=
 zb7.cps C (opsS 16 (.str []) 0) (N 377) v0 v1 v2 v3 h Q
def zci.Imp (C : CSem) (N : Nat → Nat) : Prop := ∀ (v0 v1 v2 v3 : AVal) (h : zb) (Q : AVal → zb → Prop), zci.cps C N v0 v1 v2 v3 h (dn Q) → C (N 386) [v0, v1, v2, v3] h Q
def zb2.cps (C : CSem) (N : Nat → Nat) (v0 v1 v2 : AVal) (h : zb) (Q : AVal → zb → Prop) : Prop :=
 ze5.cps C (opsS 16 (.str []) 0) (N 388) v0 v1 v2 h Q
def zb2.Imp (C : CSem) (N : Nat → Nat) : Prop := ∀ (v0 v1 v2 : AVal) (h : zb) (Q : AVal → zb → Prop), zb2.cps C N v0 v1 v2 h (dn Q) → C (N 387) [v0, v1, v2] h Q
def zcr.cps (C : CSem) (N : Nat → Nat) (v0 v1 v2 v3 v4 : AVal) (h : zb) (Q : AVal → zb → Prop) : Prop :=
 ze1.cps C (opsS 16 (.str []) 0) (N 390) v0 v1 v2 v3 v4 h Q
def zcr.Imp (C : CSem) (N : Nat → Nat) : Prop := ∀ (v0 v1 v2 v3 v4 : AVal) (h : zb) (Q : AVal → zb → Prop), zcr.cps C N v0 v1 v2 v3 v4 h (dn Q) → C (N 388) [v0, v1, v2, v3, v4] h Q
def zcq.cps (C : CSem) (N : Nat → Nat) (v0 v1 v2 v3 : AVal) (h : zb) (Q : AVal → zb → Prop) : Prop :=
 ze0.cps C (opsS 16 (.str []) 0) (N 377) v0 v1 v2 v3 h Q
def zcq.Imp (C : CSem) (N : Nat → Nat) : Prop := ∀ (v0 v1 v2 v3 : AVal) (h : zb) (Q : AVal → zb → Prop), zcq.cps C N v0 v1 v2 v3 h (dn Q) → C (N 390) [v0, v1, v2, v3] h Q
@[simp] def zb0.k1 (C : CSem) (N : Nat → Nat) (Q : AVal → zb → Prop) (Y1 : List AVal → zb → Prop) (Y2 : List AVal → zb → Prop) (v4 v50 v51 v52 v57 v58 v59 : AVal) (h : zb) : Prop :=
 B.pv (V.bin .lss v59 v58) fun v60 =>
  B.cond v60
  (B.pv (V.idxS 1 v57 v59) fun v61 =>
  B.ld h v61 fun v62 =>
  B.pv (A.lkp h (some .s) (some (.int .i64 0)) false v4 v62) fun v65 =>
  B.pv (V.bin .eql v65 (.int .i64 0)) fun v66 =>
  B.cond v66
  (Q (.int .i64 150) h)
  (B.pv (V.bin .add v59 (.int .i64 1)) fun v67 =>
  Y2 [v67] h))
  (B.pv (V.bin .add v52 (.int .i64 1)) fun v68 =>
  Y1 [v68] h)
@[simp] def zb0.l2 (C : CSem) (N : Nat → Nat) (Q : AVal → zb → Prop) (Y1 : List AVal → zb → Prop) (v4 v50 v51 v52 v57 v58 : AVal) : List AVal → zb → (List AVal → zb → Prop) → Prop
 | [v59], h, Y2 => zb0.k1 C N Q Y1 Y2 v4 v50 v51 v52 v57 v58 v59 h
 | _, _, _ => False
@[simp] def zb0.k3 (C : CSem) (N : Nat → Nat) (Q : AVal → zb → Prop) (Y1 : List AVal → zb → Prop) (v4 v50 v51 v52 : AVal) (h : zb) : Prop :=
 B.pv (V.idxS 4 v50 v52) fun v54 =>
  B.ldn h v54 4 fun v55 =>
  B.pv (V.setN 0 4 v55 (.agg [.str [], .int .i64 0, .nils, .nils])) fun c9 =>
  B.al c9 (B.pv (V.zc7 3 c9) fun v57 =>
  B.pv (V.zw v57) fun v58 =>
  zd (zb0.l2 C N Q Y1 v4 v50 v51 v52 v57 v58) [(.int .i64 0)] h)
@[simp] def zb0.l4 (C : CSem) (N : Nat → Nat) (Q : AVal → zb → Prop) (v4 v50 v51 : AVal) : List AVal → zb → (List AVal → zb → Prop) → Prop
 | [v52], h, Y1 => B.pv (V.bin .lss v52 v51) fun v53 =>
  B.cond v53
  (zb0.k3 C N Q Y1 v4 v50 v51 v52 h)
  (Q (.int .i64 0) h)
 | _, _, _ => False
@[simp] def zb0.k5 (C : CSem) (N : Nat → Nat) (Q : AVal → zb → Prop) (Y3 : List AVal → zb → Prop) (v0 v4 v18 v19 v20 : AVal) (h : zb) : Prop :=
 B.pv (V.bin .lss v20 v19) fun v21 =>
  B.cond v21
  (B.pv (V.idxS 4 v18 v20) fun v22 =>
  B.ldn h v22 4 fun v23 =>
  B.pv (V.setN 0 4 v23 (.agg [.str [], .int .i64 0, .nils, .nils])) fun c6 =>
  B.al c6 (B.pv (V.zc7 0 c6) fun v26 =>
  B.pv (A.lkp h (some .s) (some (.int .i64 0)) false v4 v26) fun v27 =>
  B.pv (V.bin .add v27 (.int .i64 1)) fun v28 =>
  B.mset h .s v4 v26 v28 fun h =>
  B.al c6 (B.pv (V.zc7 0 c6) fun v30 =>
  B.al c6 (B.pv (V.zc7 3 c6) fun v32 =>
  B.call C (N 363) [v30, v32] h fun v33 h =>
  B.call C (N 364) [v33] h fun v35 h =>
  B.pv (V.zw v33) fun v37 =>
  B.pv (V.bin .gtr v37 (.int .i64 5)) fun v38 =>
  B.gd h v38 false (fun K => K v33 h) fun v40 h =>
  B.al c6 (B.gd h v38 false (fun K => K .undef h) fun _ h =>
  B.gd h v38 false (fun K => B.pv (V.zc7 3 c6) fun v => K v h) fun v44 h =>
  B.gd h v38 false (fun K => B.pv (V.zw v44) fun v => K v h) fun v45 h =>
  B.gd h v38 false (fun K => B.pv (V.bin .add (.int .i64 1) v45) fun v => K v h) fun v46 h =>
  B.gd h v38 false (fun K => B.call C (N 365) [v40] h K) fun v41 h =>
  B.gd h v38 false (fun K => B.pv (V.zw v41) fun v => K v h) fun v42 h =>
  B.gd h v38 false (fun K => B.pv (V.bin .neq v42 v46) fun v => K v h) fun v47 h =>
  B.pick v38 (.bool true) v47 fun v48 =>
  B.cond v48
  (Q (.int .i64 4) h)
  (B.pv (V.bin .add v20 (.int .i64 1)) fun v49 =>
  Y3 [v49] h))))))
  (B.pv (V.zw v0) fun v51 =>
  zd (zb0.l4 C N Q v4 v0 v51) [(.int .i64 0)] h)
@[simp] def zb0.l6 (C : CSem) (N : Nat → Nat) (Q : AVal → zb → Prop) (v0 v4 v18 v19 : AVal) : List AVal → zb → (List AVal → zb → Prop) → Prop
 | [v20], h, Y3 => zb0.k5 C N Q Y3 v0 v4 v18 v19 v20 h
 | _, _, _ => False
@[simp] def zb0.k7 (C : CSem) (N : Nat → Nat) (Q : AVal → zb → Prop) (v0 : AVal) (h : zb) : Prop :=
 B.call C (N 356) [v0] h fun v13 h =>
  B.pv (V.bin .neq v13 (.int .i64 0)) fun v15 =>
  B.cond v15
  (Q v13 h)
  (B.zjq h fun v17 h =>
  B.pv (V.zw v0) fun v19 =>
  zd (zb0.l6 C N Q v0 v17 v0 v19) [(.int .i64 0)] h)
@[simp] def zb0.cps (C : CSem) (N : Nat → Nat) (v0 : AVal) (h : zb) (Q : AVal → zb → Prop) : Prop :=
 zb0.k7 C N Q v0 h
def zb0.Imp (C : CSem) (N : Nat → Nat) : Prop := ∀ (v0 : AVal) (h : zb) (Q : AVal → zb → Prop), zb0.cps C N v0 h (dn Q) → C (N 353) [v0] h Q
@[simp] def zez.k1 (C : CSem) (N : Nat → Nat) (Q : AVal → zb → Prop) (v0 v1 : AVal) (h : zb) : Prop :=
 B.newO h (A.zny v1) fun i3 h =>
  B.call C (N 367) [v0, (.fn (N 366) [] [(.ptr i3 0 0)])] h fun v8 h =>
  B.pv (V.bin .lss v8 (.int .i64 0)) fun v10 =>
  B.cond v10
  (Q .nils h)
  (B.ld h (.ptr i3 0 0) fun v11 =>
  B.pv (V.idxS 4 v0 v8) fun v14 =>
  B.pv (V.fieldAddr 3 v14) fun v15 =>
  B.ld h v15 fun v16 =>
  B.call C (N 363) [v11, v16] h fun v17 h =>
  Q v17 h)
@[simp] def zez.cps (C : CSem) (N : Nat → Nat) (v0 v1 : AVal) (h : zb) (Q : AVal → zb → Prop) : Prop :=
 zez.k1 C N Q v0 v1 h
def zez.Imp (C : CSem) (N : Nat → Nat) : Prop := ∀ (v0 v1 : AVal) (h : zb) (Q : AVal → zb → Prop), zez.cps C N v0 v1 h (dn Q) → C (N 355) [v0, v1] h Q
@[simp] def ze4.k1 (C : CSem) (N : Nat → Nat) (Q : AVal → zb → Prop) (v0 v1 : AVal) (h : zb) : Prop :=
 B.newO h (zep [(0, none, v0)] (repL 1 [.str []])) fun i6 h =>
  B.newO h (zep [(0, none, (.sl i6 0 0 1 1 1)), (1, none, v1)] (repL 2 [.nils])) fun i8 h =>
  B.call C (N 373) [(.sl i8 0 0 2 1 2)] h fun v9 h =>
  Q v9 h
@[simp] def ze4.cps (C : CSem) (N : Nat → Nat) (v0 v1 : AVal) (h : zb) (Q : AVal → zb → Prop) : Prop :=
 ze4.k1 C N Q v0 v1 h
def ze4.Imp (C : CSem) (N : Nat → Nat) : Prop := ∀ (v0 v1 : AVal) (h : zb) (Q : AVal → zb → Prop), ze4.cps C N v0 v1 h (dn Q) → C (N 363) [v0, v1] h Q
@[simp] def zel.cps (C : CSem) (N : Nat → Nat) (v0 v1 : AVal) (h : zb) (Q : AVal → zb → Prop) : Prop :=
 B.pv (A.boxN 4 v0) fun c2 =>
  B.al c2 (B.pv (V.zc7 0 c2) fun v5 =>
  B.ld h v1 fun v6 =>
  B.pv (V.bin .eql v5 v6) fun v7 =>
  Q v7 h)
def zel.Imp (C : CSem) (N : Nat → Nat) : Prop := ∀ (v0 v1 : AVal) (h : zb) (Q : AVal → zb → Prop), zel.cps C N v0 v1 h (dn Q) → C (N 366) [v0, v1] h Q
end Go.Ab
set_option maxRecDepth 100000
namespace Go.Ab.S08z
open Go.Ab Go.Proofs
noncomputable abbrev P : Program := Tryz.prog
def lkz : List (Nat × List Nat) → Nat → List Nat
 | [], _ => []
 | (a, b) :: r, k => bif Nat.beq a k then b else lkz r k
def pz (e : List (Nat × List Nat)) : Nat → List (Nat × List Nat)
 | 0 => []
 | n + 1 => pz e n ++ [(n, lkz e n)]
@[reducible] def LkT (P : Program) (I : Bx) (f : Func) (F : CSem → (AVal → zb → Prop) → zb9 → zb → Prop) : Prop := ∀ {C : CSem} (hC : zlu C) (Q : AVal → zb → Prop) (s : zb9) (h : zb), F C Q s h → bwp P C I (f.body.getD .skip) (retB P I f.results.toList Q) s h
theorem eT {P : Program} {C : CSem} {I : Bx} (hC : zlu C) {c : Code} {Q : Ex → zb9 → zb → Prop} {s : zb9} {h : zb} (X : zb9 → zb → Prop) {p : Prop} (hR : p) (hb : ∀ s h, X s h → bwp P C I (cB c) Q s h) (e : bwp P C I (cA c) (Ex.then X Q) s h = p := by kernel_rfl) (hk : isS c = true := by kernel_rfl) : bwp P C I c Q s h := eS hC X (e1 hR e) hb hk
@[reducible] def on1 (F : AVal → List AVal → zb → (List AVal → zb → Prop) → Prop) : List AVal → List AVal → zb → (List AVal → zb → Prop) → Prop
 | [a], u, v, w => F a u v w
 | _, _, _, _ => False
@[reducible] def on2 (F : AVal → AVal → List AVal → zb → (List AVal → zb → Prop) → Prop) : List AVal → List AVal → zb → (List AVal → zb → Prop) → Prop
 | [a, b], u, v, w => F a b u v w
 | _, _, _, _ => False
@[reducible] def on3 (F : AVal → AVal → AVal → List AVal → zb → (List AVal → zb → Prop) → Prop) : List AVal → List AVal → zb → (List AVal → zb → Prop) → Prop
 | [a, b, c], u, v, w => F a b c u v w
 | _, _, _, _ => False
@[reducible] def on4 (F : AVal → AVal → AVal → AVal → List AVal → zb → (List AVal → zb → Prop) → Prop) : List AVal → List AVal → zb → (List AVal → zb → Prop) → Prop
 | [a, b, c, d], u, v, w => F a b c d u v w
 | _, _, _, _ => False
@[reducible] def on5 (F : AVal → AVal → AVal → AVal → AVal → List AVal → zb → (List AVal → zb → Prop) → Prop) : List AVal → List AVal → zb → (List AVal → zb → Prop) → Prop
 | [a, b, c, d, e], u, v, w => F a b c d e u v w
 | _, _, _, _ => False
@[reducible] def on6 (F : AVal → AVal → AVal → AVal → AVal → AVal → List AVal → zb → (List AVal → zb → Prop) → Prop) : List AVal → List AVal → zb → (List AVal → zb → Prop) → Prop
 | [a, b, c, d, e, f], u, v, w => F a b c d e f u v w
 | _, _, _, _ => False
def N (k : Nat) : Nat := [0, 0, 0, 0, 0, 0, 0, 0, 0, 0, 0, 0, 0, 0, 0, 0, 0, 0, 90, 0, 35, 0, 0, 0, 0, 0, 0, 0, 0, 0, 0, 0, 0, 0, 125, 0, 0, 0, 0, 0, 0, 0, 98, 0, 0, 0, 0, 0, 0, 0, 0, 0, 0, 73, 0, 0, 0, 0, 0, 0, 0, 45, 32, 0, 89, 0, 0, 0, 0, 0, 0, 0, 0, 0, 121, 122, 0, 91, 93, 0, 48, 49, 50, 51, 52, 53, 54, 55, 56, 57, 58, 59, 60, 61, 62, 63, 64, 65, 66, 67, 68, 69, 70, 0, 0, 0, 72, 92, 71, 18, 26, 94, 95, 96, 97, 99, 100, 101, 102, 103, 104, 105, 106, 107, 108, 109, 110, 111, 112, 113, 0, 0, 42, 13, 123, 124, 126, 127, 128, 0, 0, 0, 0, 0, 0, 0, 0, 0, 0, 0, 0, 0, 0, 0, 0, 0, 0, 0, 0, 0, 0, 0, 0, 0, 0, 0, 0, 0, 0, 0, 0, 0, 0, 0, 0, 0, 0, 0, 0, 0, 0, 0, 0, 0, 0, 0, 0, 0, 0, 0, 0, 0, 0, 0, 0, 0, 0, 0, 0, 0, 0, 0, 0, 0, 0, 0, 0, 0, 0, 0, 0, 0, 0, 0, 0, 0, 0, 0, 0, 0, 0, 0, 0, 0, 0, 0, 0, 0, 0, 0, 0, 0, 0, 0, 0, 0, 0, 0, 0, 0, 0, 0, 0, 0, 0, 0, 0, 0, 0, 0, 0, 0, 0, 0, 0, 0, 0, 0, 0, 0, 0, 0, 0, 0, 0, 0, 0, 0, 0, 0, 0, 0, 0, 0, 0, 0, 0, 0, 0, 0, 0, 0, 0, 0, 0, 0, 0, 39, 0, 0, 0, 0, 0, 0, 0, 0, 0, 0, 117, 116, 0, 0, 0, 0, 87, 88, 0, 0, 0, 0, 0, 0, 0, 0, 0, 0, 0, 0, 0, 33, 0, 0, 0, 0, 40, 0, 0, 0, 0, 0, 0, 0, 0, 0, 0, 0, 0, 0, 0, 0, 0, 0, 0, 0, 0, 0, 0, 0, 0, 0, 0, 0, 0, 8, 0, 9, 19, 5, 6, 0, 16, 0, 36, 20, 21, 22, 24, 23, 0, 0, 76, 75, 74, 37, 114, 38, 77, 84, 85, 86, 83, 82, 81, 80, 79, 78, 115, 118, 119, 120, 129, 7, 10, 11, 12, 14, 15, 3, 4, 17, 25, 27, 30, 29, 28, 31, 34, 41, 43, 44, 47, 46].getD k 0
theorem mixed : P.follows .mixedOrders = true := by kernel_rfl
def zcu.I : Bx := ⟨[], [], 53, []⟩
theorem zcu.L : LkT P zcu.I Tryz.f3 fun C Q s h => zcu.cps C N (s 0) (s 1) h Q := fun {C} hC Q s h hR => e1 hR
theorem zcu.imp : zcu.Imp (AC P) N := fun v0 v1 h Q hR => eF mixed (fn := Tryz.f3) (fun hC => zcu.L hC (dn Q) (zcl [v0, v1]) h hR)
def zj.I : Bx := ⟨[], [], 132, []⟩
theorem zj.L : LkT P zj.I Tryz.f4 fun C Q s h => zj.cps C N h Q := fun {C} hC Q s h hR => eT hC (fun s h => zj.k10 C N Q h) hR (fun s h hR => eT hC (fun s h => zj.k9 C N Q (s 1) h) hR (fun s h hR => eT hC (fun s h => zj.k8 C N Q (s 1) h) hR (fun s h hR => eT hC (fun s h => zj.k7 C N Q (s 1) h) hR (fun s h hR => eT hC (fun s h => zj.k6 C N Q (s 1) (s 2) h) hR (fun s h hR => eT hC (fun s h => zj.k5 C N Q (s 1) (s 2) h) hR (fun s h hR => eT hC (fun s h => zj.k4 C N Q (s 1) (s 2) (s 3) h) hR (fun s h hR => eT hC (fun s h => zj.k3 C N Q h) hR (fun s h hR => eT hC (fun s h => zd (zj.l2 C N Q (s 4)) [(.int .i64 0)] h) hR (fun s h hR => eS hC (fun s h => B.call C (N 358) [] h fun v131 h => Q v131 h) (eT hC (fun s h => zd (zj.l2 C N Q (s 4)) [(s 5)] h) hR (fun s h hR => eK (eL hC [4] [5] (on1 (zj.l2 C N Q)) hR (fun Y1 s h hR => e1 hR)))) (fun s h hR => e1 hR))))))))))
theorem zj.imp : zj.Imp (AC P) N := fun h Q hR => eF mixed (fn := Tryz.f4) (fun hC => zj.L hC (dn Q) (zcl []) h hR)
def z7.I : Bx := ⟨[], [], 101, [(5, pz [] 25)]⟩
theorem z7.L : LkT P z7.I Tryz.f5 fun C Q s h => z7.cps C N (s 0) h Q := fun {C} hC Q s h hR => eT hC (fun s h => zd (z7.l8 C N Q (s 0)) [(.int .i64 0), (.int .i64 0)] h) hR (fun s h hR => eT hC (fun s h => zd (z7.l8 C N Q (s 0)) [(s 3), (.int .i64 0)] h) hR (fun s h hR => eS hC (fun s h => z7.k1 C N Q (s 0) (s 3) h) (eT hC (fun s h => zd (z7.l8 C N Q (s 0)) [(s 3), (s 4)] h) hR (fun s h hR => eK (eL hC [0] [3, 4] (on1 (z7.l8 C N Q)) hR (fun Y1 s h hR => eT hC (fun s h => z7.k6 C N Q Y1 (s 0) (s 3) (s 4) h) hR (fun s h hR => eS hC (fun s h => B.pv (V.bin .add (s 4) (.int .i64 1)) fun v16 => Y1 [(s 3), v16] h) (eK (eT hC (fun s h => zd (z7.l5 C N Q Y1 (s 0) (s 4)) [(s 3), (.int .i64 0)] h) hR (fun s h hR => eS hC (fun s h => zd (z7.l3 C N Q Y1 (s 0) (s 4)) [(s 3), (.int .i64 0)] h) (eT hC (fun s h => zd (z7.l5 C N Q Y1 (s 0) (s 4)) [(s 3), (s 5)] h) hR (fun s h hR => eK (eL hC [0, 4] [3, 5] (on2 (z7.l5 C N Q Y1)) hR (fun Y3 s h hR => e1 hR)))) (fun s h hR => eT hC (fun s h => zd (z7.l3 C N Q Y1 (s 0) (s 4)) [(s 3), (s 6)] h) hR (fun s h hR => eK (eL hC [0, 4] [3, 6] (on2 (z7.l3 C N Q Y1)) hR (fun Y2 s h hR => e1 hR))))))) (fun s h hR => e1 hR)))))) (fun s h hR => e1 hR)))
theorem z7.imp : z7.Imp (AC P) N := fun v0 h Q hR => eF mixed (fn := Tryz.f5) (fun hC => z7.L hC (dn Q) (zcl [v0]) h hR)
def zd4.I : Bx := ⟨[], [], 30, []⟩
theorem zd4.L : LkT P zd4.I Tryz.f6 fun C Q s h => zd4.cps C N h Q := fun {C} hC Q s h hR => e1 hR
theorem zd4.imp : zd4.Imp (AC P) N := fun h Q hR => eF mixed (fn := Tryz.f6) (fun hC => zd4.L hC (dn Q) (zcl []) h hR)
def zca.I : Bx := ⟨[5], [], 39, []⟩
theorem zca.L : LkT P zca.I Tryz.f7 fun C Q s h => zca.cps C N (s 0) h Q := fun {C} hC Q s h hR => eT hC (fun s h => zca.k5 C N Q (s 0) h) hR (fun s h hR => eT hC (fun s h => zd (zca.l4 C N Q (s 0)) [(s 3), (.int .i64 0)] h) hR (fun s h hR => eS hC (fun s h => zd (zca.l2 C N Q (s 0)) [(s 3), (.int .i64 0)] h) (eT hC (fun s h => zd (zca.l4 C N Q (s 0)) [(s 3), (s 4)] h) hR (fun s h hR => eK (eL hC [0] [3, 4] (on1 (zca.l4 C N Q)) hR (fun Y2 s h hR => e1 hR)))) (fun s h hR => eS hC (fun s h => B.pv (V.zw (s 0)) fun v37 => B.pv (V.zfe 4 (s 3) none (some v37)) fun v38 => Q v38 h) (eT hC (fun s h => zd (zca.l2 C N Q (s 0)) [(s 3), (s 6)] h) hR (fun s h hR => eK (eL hC [0] [3, 6] (on1 (zca.l2 C N Q)) hR (fun Y1 s h hR => e1 hR)))) (fun s h hR => e1 hR))))
theorem zca.imp : zca.Imp (AC P) N := fun v0 h Q hR => eF mixed (fn := Tryz.f7) (fun hC => zca.L hC (dn Q) (zcl [v0]) h hR)
def zb0.I : Bx := ⟨[6, 9], [25, 29, 31, 43, 56], 69, [(11, [(0, []), (1, []), (2, []), (3, []), (4, []), (7, []), (8, []), (9, []), (10, []), (5, [8]), (6, []), (11, []), (12, [])])]⟩
theorem zb0.L : LkT P zb0.I Tryz.f8 fun C Q s h => zb0.cps C N (s 0) h Q := fun {C} hC Q s h hR => eT hC (fun s h => zb0.k7 C N Q (s 0) h) hR (fun s h hR => eT hC (fun s h => B.zjq h fun v17 h => B.pv (V.zw (s 0)) fun v19 => zd (zb0.l6 C N Q (s 0) v17 (s 0) v19) [(.int .i64 0)] h) hR (fun s h hR => eT hC (fun s h => B.pv (V.zw (s 0)) fun v19 => zd (zb0.l6 C N Q (s 0) (s 4) (s 0) v19) [(.int .i64 0)] h) hR (fun s h hR => eS hC (fun s h => B.pv (V.zw (s 0)) fun v51 => zd (zb0.l4 C N Q (s 4) (s 0) v51) [(.int .i64 0)] h) (eT hC (fun s h => zd (zb0.l6 C N Q (s 0) (s 4) (s 18) (s 19)) [(s 20)] h) hR (fun s h hR => eK (eL hC [0, 4, 18, 19] [20] (on4 (zb0.l6 C N Q)) hR (fun Y3 s h hR => e1 hR)))) (fun s h hR => eS hC (fun s h => Q (.int .i64 0) h) (eT hC (fun s h => zd (zb0.l4 C N Q (s 4) (s 50) (s 51)) [(s 52)] h) hR (fun s h hR => eK (eL hC [4, 50, 51] [52] (on3 (zb0.l4 C N Q)) hR (fun Y1 s h hR => eT hC (fun s h => B.cond (s 53) (zb0.k3 C N Q Y1 (s 4) (s 50) (s 51) (s 52) h) (Q (.int .i64 0) h)) hR (fun s h hR => eT hC (fun s h => zb0.k3 C N Q Y1 (s 4) (s 50) (s 51) (s 52) h) hR (fun s h hR => eS hC (fun s h => B.pv (V.bin .add (s 52) (.int .i64 1)) fun v68 => Y1 [v68] h) (eK (eT hC (fun s h => B.al (s 78) (B.pv (V.zc7 3 (s 78)) fun v57 => B.pv (V.zw v57) fun v58 => zd (zb0.l2 C N Q Y1 (s 4) (s 50) (s 51) (s 52) v57 v58) [(.int .i64 0)] h)) hR (fun s h hR => eT hC (fun s h => zd (zb0.l2 C N Q Y1 (s 4) (s 50) (s 51) (s 52) (s 57) (s 58)) [(s 59)] h) hR (fun s h hR => eK (eL hC [4, 50, 51, 52, 57, 58] [59] (on6 (zb0.l2 C N Q Y1)) hR (fun Y2 s h hR => e1 hR)))))) (fun s h hR => e1 hR))))))) (fun s h hR => e1 hR)))))
theorem zb0.imp : zb0.Imp (AC P) N := fun v0 h Q hR => eF mixed (fn := Tryz.f8) (fun hC => zb0.L hC (dn Q) (zcl [v0]) h hR)
def zez.I : Bx := ⟨[], [], 18, [(4, pz [] 8)]⟩
theorem zez.L : LkT P zez.I Tryz.f9 fun C Q s h => zez.cps C N (s 0) (s 1) h Q := fun {C} hC Q s h hR => e1 hR
theorem zez.imp : zez.Imp (AC P) N := fun v0 v1 h Q hR => eF mixed (fn := Tryz.f9) (fun hC => zez.L hC (dn Q) (zcl [v0, v1]) h hR)
def zck.I : Bx := ⟨[], [], 58, [(7, pz [(30, [25])] 35)]⟩
theorem zck.L : LkT P zck.I Tryz.f10 fun C Q s h => zck.cps C N (s 0) (s 1) h Q := fun {C} hC Q s h hR => eT hC (fun s h => zck.k4 C N Q (s 0) (s 1) h) hR (fun s h hR => eT hC (fun s h => zck.k3 C N Q (s 0) (s 1) h) hR (fun s h hR => eT hC (fun s h => zd (zck.l2 C N Q (s 1) (s 5)) [(.int .i64 0)] h) hR (fun s h hR => eS hC (fun s h => Q (.bool true) h) (eT hC (fun s h => zd (zck.l2 C N Q (s 1) (s 5)) [(s 6)] h) hR (fun s h hR => eK (eL hC [1, 5] [6] (on2 (zck.l2 C N Q)) hR (fun Y1 s h hR => e1 hR)))) (fun s h hR => e1 hR))))
theorem zck.imp : zck.Imp (AC P) N := fun v0 v1 h Q hR => eF mixed (fn := Tryz.f10) (fun hC => zck.L hC (dn Q) (zcl [v0, v1]) h hR)
def zcd.I : Bx := ⟨[], [], 32, []⟩
theorem zcd.L : LkT P zcd.I Tryz.f11 fun C Q s h => zcd.cps C N (s 0) h Q := fun {C} hC Q s h hR => eS hC (fun s h => zcd.k3 C N Q (s 0) h) (eT hC (fun s h => zd (zcd.l5 C N Q (s 0)) [(s 2)] h) hR (fun s h hR => eK (eL hC [0] [2] (on1 (zcd.l5 C N Q)) hR (fun Y2 s h hR => e1 hR)))) (fun s h hR => eT hC (fun s h => zd (zcd.l2 C N Q (s 3)) [(.int .i64 0)] h) hR (fun s h hR => eT hC (fun s h => zd (zcd.l2 C N Q (s 3)) [(s 4)] h) hR (fun s h hR => eK (eL hC [3] [4] (on1 (zcd.l2 C N Q)) hR (fun Y1 s h hR => e1 hR)))))
theorem zcd.imp : zcd.Imp (AC P) N := fun v0 h Q hR => eF mixed (fn := Tryz.f11) (fun hC => zcd.L hC (dn Q) (zcl [v0]) h hR)
def zbx.I : Bx := ⟨[], [], 51, []⟩
theorem zbx.L : LkT P zbx.I Tryz.f12 fun C Q s h => zbx.cps C N (s 0) h Q := fun {C} hC Q s h hR => eT hC (fun s h => zbx.k7 C N Q (s 0) h) hR (fun s h hR => eT hC (fun s h => B.pv (V.bin .neq (s 3) (.int .i64 0)) fun v10 => B.cond v10 (Q (s 3) h) (zd (zbx.l6 C N Q (s 0)) [(.int .i64 0)] h)) hR (fun s h hR => eT hC (fun s h => zd (zbx.l6 C N Q (s 0)) [(.int .i64 0)] h) hR (fun s h hR => eS hC (fun s h => zd (zbx.l4 C N Q (s 0)) [(.int .i64 0)] h) (eT hC (fun s h => zd (zbx.l6 C N Q (s 0)) [(s 4)] h) hR (fun s h hR => eK (eL hC [0] [4] (on1 (zbx.l6 C N Q)) hR (fun Y3 s h hR => e1 hR)))) (fun s h hR => eS hC (fun s h => Q (.int .i64 0) h) (eT hC (fun s h => zd (zbx.l4 C N Q (s 0)) [(s 5)] h) hR (fun s h hR => eK (eL hC [0] [5] (on1 (zbx.l4 C N Q)) hR (fun Y1 s h hR => eT hC (fun s h => zd (zbx.l2 C N Q Y1 (s 0) (s 5)) [(.int .i64 0)] h) hR (fun s h hR => eS hC (fun s h => B.pv (V.bin .add (s 5) (.int .i64 1)) fun v29 => Y1 [v29] h) (eK (eT hC (fun s h => zd (zbx.l2 C N Q Y1 (s 0) (s 5)) [(s 6)] h) hR (fun s h hR => eK (eL hC [0, 5] [6] (on2 (zbx.l2 C N Q Y1)) hR (fun Y2 s h hR => e1 hR))))) (fun s h hR => e1 hR)))))) (fun s h hR => e1 hR)))))
theorem zbx.imp : zbx.Imp (AC P) N := fun v0 h Q hR => eF mixed (fn := Tryz.f12) (fun hC => zbx.L hC (dn Q) (zcl [v0]) h hR)
def zc8.I : Bx := ⟨[], [], 26, [(6, pz [] 9)]⟩
theorem zc8.L : LkT P zc8.I Tryz.f13 fun C Q s h => zc8.cps C N (s 0) (s 1) h Q := fun {C} hC Q s h hR => eT hC (fun s h => zc8.k3 C N Q (s 0) (s 1) h) hR (fun s h hR => eT hC (fun s h => zd (zri.l4  Q (s 0) (s 1)) [(.int .i64 0)] h) hR (fun s h hR => eS hC (fun s h => Q (.bool true) h) (eT hC (fun s h => zd (zri.l4  Q (s 0) (s 1)) [(s 5)] h) hR (fun s h hR => eK (eL hC [0, 1] [5] (on2 (zri.l4  Q)) hR (fun Y1 s h hR => e1 hR)))) (fun s h hR => e1 hR)))
theorem zc8.imp : zc8.Imp (AC P) N := fun v0 v1 h Q hR => eF mixed (fn := Tryz.f13) (fun hC => zc8.L hC (dn Q) (zcl [v0, v1]) h hR)
def zer.I : Bx := ⟨[], [], 19, []⟩
theorem zer.L : LkT P zer.I Tryz.f14 fun C Q s h => zer.cps C N (s 0) (s 1) h Q := fun {C} hC Q s h hR => e1 hR
theorem zer.imp : zer.Imp (AC P) N := fun v0 v1 h Q hR => eF mixed (fn := Tryz.f14) (fun hC => zer.L hC (dn Q) (zcl [v0, v1]) h hR)
def zcx.I : Bx := ⟨[], [], 21, []⟩
theorem zcx.L : LkT P zcx.I Tryz.f15 fun C Q s h => zcx.cps C N (s 0) h Q := fun {C} hC Q s h hR => eT hC (fun s h => zcx.k3 C N Q (s 0) h) hR (fun s h hR => eT hC (fun s h => zd (zcx.l2 C N Q (s 0) (s 3)) [(.int .i64 0)] h) hR (fun s h hR => eS hC (fun s h => B.call C (N 62) [(s 3)] h fun v20 h => Q v20 h) (eT hC (fun s h => zd (zcx.l2 C N Q (s 0) (s 3)) [(s 4)] h) hR (fun s h hR => eK (eL hC [0, 3] [4] (on2 (zcx.l2 C N Q)) hR (fun Y1 s h hR => e1 hR)))) (fun s h hR => e1 hR)))
theorem zcx.imp : zcx.Imp (AC P) N := fun v0 h Q hR => eF mixed (fn := Tryz.f15) (fun hC => zcx.L hC (dn Q) (zcl [v0]) h hR)
def zd0.I : Bx := ⟨[], [], 8, []⟩
theorem zd0.L : LkT P zd0.I Tryz.f16 fun C Q s h => zd0.cps C N (s 0) h Q := fun {C} hC Q s h hR => e1 hR
theorem zd0.imp : zd0.Imp (AC P) N := fun v0 h Q hR => eF mixed (fn := Tryz.f16) (fun hC => zd0.L hC (dn Q) (zcl [v0]) h hR)
def zdy.I : Bx := ⟨[1, 2], [3, 6, 7, 10], 12, []⟩
theorem zdy.L : LkT P zdy.I Tryz.f17 fun C Q s h => zdy.cps C N (s 0) h Q := fun {C} hC Q s h hR => e1 hR
theorem zdy.imp : zdy.Imp (AC P) N := fun v0 h Q hR => eF mixed (fn := Tryz.f17) (fun hC => zdy.L hC (dn Q) (zcl [v0]) h hR)
def zdp.I : Bx := ⟨[4], [], 9, []⟩
theorem zdp.L : LkT P zdp.I Tryz.f18 fun C Q s h => zdp.cps C N (s 0) (s 1) h Q := fun {C} hC Q s h hR => e1 hR
theorem zdp.imp : zdp.Imp (AC P) N := fun v0 v1 h Q hR => eF mixed (fn := Tryz.f18) (fun hC => zdp.L hC (dn Q) (zcl [v0, v1]) h hR)
def ze2.I : Bx := ⟨[], [], 13, []⟩
theorem ze2.L : LkT P ze2.I Tryz.f19 fun C Q s h => ze2.cps C N (s 0) h Q := fun {C} hC Q s h hR => e1 hR
theorem ze2.imp : ze2.Imp (AC P) N := fun v0 h Q hR => eF mixed (fn := Tryz.f19) (fun hC => ze2.L hC (dn Q) (zcl [v0]) h hR)
def ze4.I : Bx := ⟨[], [], 10, []⟩
theorem ze4.L : LkT P ze4.I Tryz.f20 fun C Q s h => ze4.cps C N (s 0) (s 1) h Q := fun {C} hC Q s h hR => e1 hR
theorem ze4.imp : ze4.Imp (AC P) N := fun v0 v1 h Q hR => eF mixed (fn := Tryz.f20) (fun hC => ze4.L hC (dn Q) (zcl [v0, v1]) h hR)
def zby.I : Bx := ⟨[], [], 11, []⟩
theorem zby.L : LkT P zby.I Tryz.f21 fun C Q s h => zby.cps C N (s 0) h Q := fun {C} hC Q s h hR => e1 hR
theorem zby.imp : zby.Imp (AC P) N := fun v0 h Q hR => eF mixed (fn := Tryz.f21) (fun hC => zby.L hC (dn Q) (zcl [v0]) h hR)
def zbn.I : Bx := ⟨[], [], 61, [(6, pz [] 10), (11, pz [] 10)]⟩
theorem zbn.L : LkT P zbn.I Tryz.f22 fun C Q s h => zbn.cps C N (s 0) h Q := fun {C} hC Q s h hR => eT hC (fun s h => zce.k5 C (opsS 16 (.str []) 0) Q (s 0) h) hR (fun s h hR => eT hC (fun s h => zd (zce.l4 C (opsS 16 (.str []) 0) Q (s 0)) [(.int .i64 1)] h) hR (fun s h hR => eS hC (fun s h => Q (s 0) h) (eT hC (fun s h => zd (zce.l4 C (opsS 16 (.str []) 0) Q (s 0)) [(s 3)] h) hR (fun s h hR => eK (eL hC [0] [3] (on1 (zce.l4 C (opsS 16 (.str []) 0) Q)) hR (fun Y1 s h hR => eT hC (fun s h => zce.k3 C (opsS 16 (.str []) 0) Q Y1 (s 0) (s 3) h) hR (fun s h hR => eS hC (fun s h => B.pv (V.bin .add (s 3) (.int .i64 1)) fun v15 => Y1 [v15] h) (eK (eT hC (fun s h => B.cond (s 25) (B.pv (V.zfe (opsS 16 (.str []) 0).es (s 0) (some (s 3)) none) fun v28 => zd (zce.l2 C (opsS 16 (.str []) 0) Q Y1 (s 0) v28) [(s 3), (.int .i64 1)] h) (B.pv (V.bin .add (s 3) (.int .i64 1)) fun v15 => Y1 [v15] h)) hR (fun s h hR => eC 25 hR (fun hR => eT hC (fun s h => zd (zce.l2 C (opsS 16 (.str []) 0) Q Y1 (s 0) (s 4)) [(s 3), (.int .i64 1)] h) hR (fun s h hR => eS hC (fun s h => B.pv (V.zfe (opsS 16 (.str []) 0).es (s 0) (some (s 3)) none) fun v56 => B.clr h (opsS 16 (.str []) 0).z v56 fun _ h => B.pv (V.zfe (opsS 16 (.str []) 0).es (s 0) none (some (s 3))) fun v59 => Q v59 h) (eT hC (fun s h => zd (zce.l2 C (opsS 16 (.str []) 0) Q Y1 (s 0) (s 4)) [(s 3), (s 5)] h) hR (fun s h hR => eK (eL hC [0, 4] [3, 5] (on2 (zce.l2 C (opsS 16 (.str []) 0) Q Y1)) hR (fun Y2 s h hR => e1 hR)))) (fun s h hR => e1 hR))) (fun hR => e1 hR)))) (fun s h hR => e1 hR)))))) (fun s h hR => e1 hR)))
theorem zbn.imp : zbn.Imp (AC P) N := fun v0 h Q hR => eF mixed (fn := Tryz.f22) (fun hC => zbn.L hC (dn Q) (zcl [v0]) h hR)
def zq.I : Bx := ⟨[], [], 19, []⟩
abbrev zq.E : z5 := opsF 4 72 [.str [], .int .i64 0, .nils, .nils] 0 []
theorem zq.L : LkT P zq.I Tryz.f23 fun C Q s h => zq.cps C N (s 0) (s 1) h Q := fun {C} hC Q s h hR => eT hC (fun s h => B.pv (V.zw (s 0)) fun v7 => zd (zd3.l2 C zq.E Q (s 0) (s 1) v7) [(.int .i64 0)] h) hR (fun s h hR => eS hC (fun s h => Q (.int .i64 (-1)) h) (eT hC (fun s h => zd (zd3.l2 C zq.E Q (s 0) (s 1) (s 7)) [(s 8)] h) hR (fun s h hR => eK (eL hC [0, 1, 7] [8] (on3 (zd3.l2 C zq.E Q)) hR (fun Y1 s h hR => e1 hR)))) (fun s h hR => e1 hR))
theorem zq.imp : zq.Imp (AC P) N := fun v0 v1 h Q hR => eF mixed (fn := Tryz.f23) (fun hC => zq.L hC (dn Q) (zcl [v0, v1]) h hR)
def zel.I : Bx := ⟨[2], [4], 8, []⟩
theorem zel.L : LkT P zel.I Tryz.f24 fun C Q s h => zel.cps C N (s 0) (s 1) h Q := fun {C} hC Q s h hR => e1 hR
theorem zel.imp : zel.Imp (AC P) N := fun v0 v1 h Q hR => eF mixed (fn := Tryz.f24) (fun hC => zel.L hC (dn Q) (zcl [v0, v1]) h hR)
def zdz.I : Bx := ⟨[2, 3], [9, 11, 16, 18], 22, []⟩
theorem zdz.L : LkT P zdz.I Tryz.f25 fun C Q s h => zdz.cps C N (s 0) (s 1) h Q := fun {C} hC Q s h hR => e1 hR
theorem zdz.imp : zdz.Imp (AC P) N := fun v0 v1 h Q hR => eF mixed (fn := Tryz.f25) (fun hC => zdz.L hC (dn Q) (zcl [v0, v1]) h hR)
def zdt.I : Bx := ⟨[2, 3], [5, 7, 11, 13, 18, 20, 25, 27], 31, []⟩
theorem zdt.L : LkT P zdt.I Tryz.f26 fun C Q s h => zdt.cps C N (s 0) (s 1) h Q := fun {C} hC Q s h hR => e1 hR
theorem zdt.imp : zdt.Imp (AC P) N := fun v0 v1 h Q hR => eF mixed (fn := Tryz.f26) (fun hC => zdt.L hC (dn Q) (zcl [v0, v1]) h hR)
def zdx.I : Bx := ⟨[1], [2, 5], 8, []⟩
theorem zdx.L : LkT P zdx.I Tryz.f27 fun C Q s h => zdx.cps C N (s 0) h Q := fun {C} hC Q s h hR => e1 hR
theorem zdx.imp : zdx.Imp (AC P) N := fun v0 h Q hR => eF mixed (fn := Tryz.f27) (fun hC => zdx.L hC (dn Q) (zcl [v0]) h hR)
def z3.I : Bx := ⟨[], [], 103, [(6, pz [] 33)]⟩
theorem z3.L : LkT P z3.I Tryz.f28 fun C Q s h => z3.cps C N (s 0) h Q := fun {C} hC Q s h hR => eT hC (fun s h => z3.k11 C N Q (s 0) h) hR (fun s h hR => eT hC (fun s h => zd (z3.l10 C N Q (s 0)) [(.int .i64 0)] h) hR (fun s h hR => eS hC (fun s h => zd (z3.l8 C N Q (s 0)) [(.int .i64 0)] h) (eT hC (fun s h => zd (z3.l10 C N Q (s 0)) [(s 3)] h) hR (fun s h hR => eK (eL hC [0] [3] (on1 (z3.l10 C N Q)) hR (fun Y5 s h hR => e1 hR)))) (fun s h hR => eS hC (fun s h => B.call C (N 410) [(s 0)] h fun v80 h => zd (z3.l4 C N Q v80) [(.int .i64 0)] h) (eT hC (fun s h => zd (z3.l8 C N Q (s 0)) [(s 4)] h) hR (fun s h hR => eK (eL hC [0] [4] (on1 (z3.l8 C N Q)) hR (fun Y3 s h hR => eT hC (fun s h => zd (z3.l6 C N Q Y3 (s 0) (s 4)) [(.int .i64 0)] h) hR (fun s h hR => eS hC (fun s h => B.pv (V.bin .add (s 4) (.int .i64 1)) fun v56 => Y3 [v56] h) (eK (eT hC (fun s h => zd (z3.l6 C N Q Y3 (s 0) (s 4)) [(s 5)] h) hR (fun s h hR => eK (eL hC [0, 4] [5] (on2 (z3.l6 C N Q Y3)) hR (fun Y4 s h hR => e1 hR))))) (fun s h hR => e1 hR)))))) (fun s h hR => eT hC (fun s h => zd (z3.l4 C N Q (s 6)) [(.int .i64 0)] h) hR (fun s h hR => eS hC (fun s h => zd (z3.l2 C N Q (s 6)) [(.int .i64 0)] h) (eT hC (fun s h => zd (z3.l4 C N Q (s 6)) [(s 7)] h) hR (fun s h hR => eK (eL hC [6] [7] (on1 (z3.l4 C N Q)) hR (fun Y2 s h hR => e1 hR)))) (fun s h hR => eS hC (fun s h => Q (.int .i64 0) h) (eT hC (fun s h => zd (z3.l2 C N Q (s 6)) [(s 8)] h) hR (fun s h hR => eK (eL hC [6] [8] (on1 (z3.l2 C N Q)) hR (fun Y1 s h hR => e1 hR)))) (fun s h hR => e1 hR)))))))
theorem z3.imp : z3.Imp (AC P) N := fun v0 h Q hR => eF mixed (fn := Tryz.f28) (fun hC => z3.L hC (dn Q) (zcl [v0]) h hR)
def zco.I : Bx := ⟨[1], [6, 12, 17, 25, 30, 36], 40, [(4, pz [] 8), (9, pz [] 11)]⟩
theorem zco.L : LkT P zco.I Tryz.f29 fun C Q s h => zco.cps C N (s 0) h Q := fun {C} hC Q s h hR => eT hC (fun s h => zd (zco.l5 C N Q (s 41)) [(.int .i64 0)] h) hR (fun s h hR => eS hC (fun s h => B.al (s 41) (B.pv (V.zc7 3 (s 41)) fun v37 => B.pv (V.zw v37) fun v38 => B.pv (V.bin .leq v38 (.int .i64 4)) fun v39 => Q v39 h)) (eT hC (fun s h => zd (zco.l5 C N Q (s 41)) [(s 3)] h) hR (fun s h hR => eK (eL hC [41] [3] (on1 (zco.l5 C N Q)) hR (fun Y1 s h hR => eT hC (fun s h => zco.k3 C N Q Y1 (s 3) (s 41) h) hR (fun s h hR => eS hC (fun s h => B.pv (V.bin .add (s 3) (.int .i64 1)) fun v11 => Y1 [v11] h) (eK (eT hC (fun s h => zd (zco.l2 C N Q Y1 (s 3) (s 41)) [(.int .i64 0)] h) hR (fun s h hR => eT hC (fun s h => zd (zco.l2 C N Q Y1 (s 3) (s 41)) [(s 4)] h) hR (fun s h hR => eK (eL hC [3, 41] [4] (on2 (zco.l2 C N Q Y1)) hR (fun Y2 s h hR => e1 hR)))))) (fun s h hR => e1 hR)))))) (fun s h hR => e1 hR))
theorem zco.imp : zco.Imp (AC P) N := fun v0 h Q hR => eF mixed (fn := Tryz.f29) (fun hC => zco.L hC (dn Q) (zcl [v0]) h hR)
def zdd.I : Bx := ⟨[], [], 20, []⟩
theorem zdd.L : LkT P zdd.I Tryz.f30 fun C Q s h => zdd.cps C N (s 0) (s 1) h Q := fun {C} hC Q s h hR => eT hC (fun s h => zd (zdd.l2 C N Q (s 0) (s 1)) [(.int .i64 0)] h) hR (fun s h hR => eS hC (fun s h => Q (.int .i64 (-1)) h) (eT hC (fun s h => zd (zdd.l2 C N Q (s 0) (s 1)) [(s 5)] h) hR (fun s h hR => eK (eL hC [0, 1] [5] (on2 (zdd.l2 C N Q)) hR (fun Y1 s h hR => e1 hR)))) (fun s h hR => e1 hR))
theorem zdd.imp : zdd.Imp (AC P) N := fun v0 v1 h Q hR => eF mixed (fn := Tryz.f30) (fun hC => zdd.L hC (dn Q) (zcl [v0, v1]) h hR)
def zdh.I : Bx := ⟨[], [], 14, []⟩
theorem zdh.L : LkT P zdh.I Tryz.f31 fun C Q s h => zdh.cps C N (s 0) (s 1) h Q := fun {C} hC Q s h hR => e1 hR
theorem zdh.imp : zdh.Imp (AC P) N := fun v0 v1 h Q hR => eF mixed (fn := Tryz.f31) (fun hC => zdh.L hC (dn Q) (zcl [v0, v1]) h hR)
def zd2.I : Bx := ⟨[], [], 162, []⟩
theorem zd2.L : LkT P zd2.I Tryz.f32 fun C Q s h => zd2.cps C N (s 0) h Q := fun {C} hC Q s h hR => e1 hR
theorem zd2.imp : zd2.Imp (AC P) N := fun v0 h Q hR => eF mixed (fn := Tryz.f32) (fun hC => zd2.L hC (dn Q) (zcl [v0]) h hR)
def zdg.I : Bx := ⟨[], [], 25, []⟩
theorem zdg.L : LkT P zdg.I Tryz.f33 fun C Q s h => zdg.cps C N (s 0) h Q := fun {C} hC Q s h hR => eT hC (fun s h => zdg.k3 C N Q (s 0) h) hR (fun s h hR => eT hC (fun s h => B.appW h 2 24 (s 3) (s 0) fun v11 h => zd (zqw.l4 C 2 24 (N 108) [.str [], .int .i64 0] 1 Q (s 0)) [v11, (.int .i64 0)] h) hR (fun s h hR => eT hC (fun s h => zd (zqw.l4 C 2 24 (N 108) [.str [], .int .i64 0] 1 Q (s 0)) [(s 3), (.int .i64 0)] h) hR (fun s h hR => eS hC (fun s h => B.pv (V.zw (s 0)) fun v23 => B.pv (V.zfe 2 (s 3) none (some v23)) fun v24 => Q v24 h) (eT hC (fun s h => zd (zqw.l4 C 2 24 (N 108) [.str [], .int .i64 0] 1 Q (s 0)) [(s 3), (s 4)] h) hR (fun s h hR => eK (eL hC [0] [3, 4] (on1 (zqw.l4 C 2 24 (N 108) [.str [], .int .i64 0] 1 Q)) hR (fun Y1 s h hR => e1 hR)))) (fun s h hR => e1 hR))))
theorem zdg.imp : zdg.Imp (AC P) N := fun v0 h Q hR => eF mixed (fn := Tryz.f33) (fun hC => zdg.L hC (dn Q) (zcl [v0]) h hR)
def zdf.I : Bx := ⟨[], [], 25, []⟩
theorem zdf.L : LkT P zdf.I Tryz.f34 fun C Q s h => zdf.cps C N (s 0) h Q := fun {C} hC Q s h hR => eT hC (fun s h => zdf.k3 C N Q (s 0) h) hR (fun s h hR => eT hC (fun s h => B.appW h 1 16 (s 3) (s 0) fun v11 h => zd (zpk.l4 C 16 (N 106) (.str []) 1 Q (s 0)) [v11, (.int .i64 0)] h) hR (fun s h hR => eT hC (fun s h => zd (zpk.l4 C 16 (N 106) (.str []) 1 Q (s 0)) [(s 3), (.int .i64 0)] h) hR (fun s h hR => eS hC (fun s h => B.pv (V.zw (s 0)) fun v23 => B.pv (V.zfe 1 (s 3) none (some v23)) fun v24 => Q v24 h) (eT hC (fun s h => zd (zpk.l4 C 16 (N 106) (.str []) 1 Q (s 0)) [(s 3), (s 4)] h) hR (fun s h hR => eK (eL hC [0] [3, 4] (on1 (zpk.l4 C 16 (N 106) (.str []) 1 Q)) hR (fun Y1 s h hR => e1 hR)))) (fun s h hR => e1 hR))))
theorem zdf.imp : zdf.Imp (AC P) N := fun v0 h Q hR => eF mixed (fn := Tryz.f34) (fun hC => zdf.L hC (dn Q) (zcl [v0]) h hR)
def zfh.I : Bx := ⟨[], [], 10, []⟩
theorem zfh.L : LkT P zfh.I Tryz.f35 fun C Q s h => zfh.cps C N (s 0) (s 1) h Q := fun {C} hC Q s h hR => e1 hR
theorem zfh.imp : zfh.Imp (AC P) N := fun v0 v1 h Q hR => eF mixed (fn := Tryz.f35) (fun hC => zfh.L hC (dn Q) (zcl [v0, v1]) h hR)
def zbw.I : Bx := ⟨[6, 9, 11], [26, 40, 59, 67], 91, [(6, pz [] 24)]⟩
theorem zbw.L : LkT P zbw.I Tryz.f36 fun C Q s h => zbw.cps C N (s 0) h Q := fun {C} hC Q s h hR => eT hC (fun s h => zbw.k11 C N Q (s 0) h) hR (fun s h hR => eT hC (fun s h => B.pv (V.zw (s 0)) fun v20 => zd (zbw.l10 C N Q (s 0) (s 0) v20) [(.int .i64 0)] h) hR (fun s h hR => eS hC (fun s h => B.call C (N 371) [(s 0)] h fun v52 h => B.pv (V.zw (s 0)) fun v54 => zd (zbw.l8 C N Q v52 (s 0) v54) [(.int .i64 0)] h) (eT hC (fun s h => zd (zbw.l10 C N Q (s 0) (s 19) (s 20)) [(s 21)] h) hR (fun s h hR => eK (eL hC [0, 19, 20] [21] (on3 (zbw.l10 C N Q)) hR (fun Y4 s h hR => e1 hR)))) (fun s h hR => eT hC (fun s h => B.pv (V.zw (s 0)) fun v54 => zd (zbw.l8 C N Q (s 7) (s 0) v54) [(.int .i64 0)] h) hR (fun s h hR => eS hC (fun s h => B.call C (N 370) [(s 7)] h fun v76 h => B.pv (V.ext 0 v76) fun v77 => B.pv (V.ext 1 v76) fun v78 => zbw.k3 C N Q (s 7) v77 v78 h) (eT hC (fun s h => zd (zbw.l8 C N Q (s 7) (s 53) (s 54)) [(s 55)] h) hR (fun s h hR => eK (eL hC [7, 53, 54] [55] (on3 (zbw.l8 C N Q)) hR (fun Y2 s h hR => eT hC (fun s h => zbw.k7 C N Q Y2 (s 7) (s 53) (s 54) (s 55) (s 56) h) hR (fun s h hR => eT hC (fun s h => zbw.k6 C N Q Y2 (s 7) (s 53) (s 54) (s 55) h) hR (fun s h hR => eS hC (fun s h => B.pv (V.bin .add (s 55) (.int .i64 1)) fun v73 => Y2 [v73] h) (eK (eT hC (fun s h => B.al (s 100) (B.pv (V.zc7 2 (s 100)) fun v60 => B.pv (V.zw v60) fun v61 => zd (zbw.l5 C N Q Y2 (s 7) (s 53) (s 54) (s 55) v60 v61) [(.int .i64 0)] h)) hR (fun s h hR => eT hC (fun s h => zd (zbw.l5 C N Q Y2 (s 7) (s 53) (s 54) (s 55) (s 60) (s 61)) [(s 62)] h) hR (fun s h hR => eK (eL hC [7, 53, 54, 55, 60, 61] [62] (on6 (zbw.l5 C N Q Y2)) hR (fun Y3 s h hR => e1 hR)))))) (fun s h hR => e1 hR))))))) (fun s h hR => eT hC (fun s h => zbw.k3 C N Q (s 7) (s 12) (s 13) h) hR (fun s h hR => eT hC (fun s h => B.rangeMap h (s 12) fun v82 h => zd (zbw.l2 C N Q (s 7) (s 12) v82) [] h) hR (fun s h hR => eS hC (fun s h => Q (.tup [(s 7), (s 12), (.int .i64 0)]) h) (eT hC (fun s h => zd (zbw.l2 C N Q (s 7) (s 12) (s 82)) [] h) hR (fun s h hR => eK (eL hC [7, 12, 82] [] (on3 (zbw.l2 C N Q)) hR (fun Y1 s h hR => e1 hR)))) (fun s h hR => e1 hR))))))))
theorem zbw.imp : zbw.Imp (AC P) N := fun v0 h Q hR => eF mixed (fn := Tryz.f36) (fun hC => zbw.L hC (dn Q) (zcl [v0]) h hR)
def zbm.I : Bx := ⟨[], [], 36, []⟩
theorem zbm.L : LkT P zbm.I Tryz.f37 fun C Q s h => zbm.cps C N (s 0) h Q := fun {C} hC Q s h hR => eT hC (fun s h => B.pv (V.zw (s 0)) fun v10 => zd (zc1.l4 C (opsS 24 (.nils) 0) (N 376) Q (s 0) (s 0) v10) [(.int .i64 0), (.int .i64 0)] h) hR (fun s h hR => eT hC (fun s h => B.pv (V.zw (s 0)) fun v10 => zd (zc1.l4 C (opsS 24 (.nils) 0) (N 376) Q (s 0) (s 0) v10) [(s 3), (.int .i64 0)] h) hR (fun s h hR => eS hC (fun s h => B.call C (N 376) [.nils, (s 3)] h fun v24 h => B.pv (V.zw (s 0)) fun v26 => zd (zc1.l2 C (opsS 24 (.nils) 0) (N 376) Q (s 0) v26) [v24, (.int .i64 0)] h) (eT hC (fun s h => zd (zc1.l4 C (opsS 24 (.nils) 0) (N 376) Q (s 0) (s 9) (s 10)) [(s 3), (s 11)] h) hR (fun s h hR => eK (eL hC [0, 9, 10] [3, 11] (on3 (zc1.l4 C (opsS 24 (.nils) 0) (N 376) Q)) hR (fun Y2 s h hR => e1 hR)))) (fun s h hR => eT hC (fun s h => B.pv (V.zw (s 0)) fun v26 => zd (zc1.l2 C (opsS 24 (.nils) 0) (N 376) Q (s 0) v26) [(s 6), (.int .i64 0)] h) hR (fun s h hR => eS hC (fun s h => Q (s 6) h) (eT hC (fun s h => zd (zc1.l2 C (opsS 24 (.nils) 0) (N 376) Q (s 25) (s 26)) [(s 6), (s 27)] h) hR (fun s h hR => eK (eL hC [25, 26] [6, 27] (on2 (zc1.l2 C (opsS 24 (.nils) 0) (N 376) Q)) hR (fun Y1 s h hR => e1 hR)))) (fun s h hR => e1 hR)))))
theorem zbm.imp : zbm.Imp (AC P) N := fun v0 h Q hR => eF mixed (fn := Tryz.f37) (fun hC => zbm.L hC (dn Q) (zcl [v0]) h hR)
def zcn.I : Bx := ⟨[], [], 134, [(17, pz [] 15)]⟩
theorem zcn.L : LkT P zcn.I Tryz.f38 fun C Q s h => zcn.cps C N (s 0) (s 1) (s 2) (s 3) h Q := fun {C} hC Q s h hR => eT hC (fun s h => zd (zt.l8 C (opsS 16 (.str []) 0) (N 377) (N 378) (N 379) (N 375) (N 380) (N 381) (N 382) (N 383) (N 384) (N 385) Q (s 0)) [(s 1), (s 2), (s 3), (s 8), (.bool true)] h) hR (fun s h hR => eT hC (fun s h => zd (zt.l8 C (opsS 16 (.str []) 0) (N 377) (N 378) (N 379) (N 375) (N 380) (N 381) (N 382) (N 383) (N 384) (N 385) Q (s 0)) [(s 1), (s 2), (s 3), (s 8), (s 9)] h) hR (fun s h hR => eK (eL hC [0] [1, 2, 3, 8, 9] (on1 (zt.l8 C (opsS 16 (.str []) 0) (N 377) (N 378) (N 379) (N 375) (N 380) (N 381) (N 382) (N 383) (N 384) (N 385) Q)) hR (fun Y1 s h hR => eK (eT hC (fun s h => zt.k7 C (opsS 16 (.str []) 0) (N 377) (N 378) (N 379) (N 375) (N 380) (N 381) (N 382) (N 383) (N 384) (N 385) Q Y1 (s 0) (s 1) (s 2) (s 3) (s 8) (s 9) (s 10) h) hR (fun s h hR => eT hC (fun s h => zt.k6 C (opsS 16 (.str []) 0) (N 377) (N 378) (N 379) (N 375) (N 380) (N 381) (N 382) (N 383) (N 384) (N 385) Q Y1 (s 0) (s 1) (s 2) (s 3) (s 8) (s 9) (s 10) h) hR (fun s h hR => eT hC (fun s h => zt.k5 C (opsS 16 (.str []) 0) (N 377) (N 378) (N 379) (N 375) (N 380) (N 381) (N 382) (N 383) (N 384) (N 385) Q Y1 (s 0) (s 1) (s 2) (s 3) (s 8) (s 9) (s 10) h) hR (fun s h hR => eT hC (fun s h => zt.k4 C (opsS 16 (.str []) 0) (N 377) (N 378) (N 379) (N 375) (N 380) (N 381) (N 382) (N 383) (N 384) (N 385) Q Y1 (s 0) (s 1) (s 2) (s 3) (s 8) (s 9) (s 10) h) hR (fun s h hR => eT hC (fun s h => zt.k3 C (opsS 16 (.str []) 0) (N 377) (N 378) (N 379) (N 375) (N 380) (N 381) (N 382) (N 383) (N 384) (N 385) Q Y1 (s 0) (s 1) (s 2) (s 3) (s 8) (s 9) (s 10) (s 11) (s 12) h) hR (fun s h hR => eT hC (fun s h => zt.k2 C (opsS 16 (.str []) 0) (N 377) (N 378) (N 379) (N 375) (N 380) (N 381) (N 382) (N 383) (N 384) (N 385) Q Y1 (s 0) (s 1) (s 2) (s 3) (s 8) (s 9) (s 10) (s 11) (s 12) h) hR (fun s h hR => eT hC (fun s h => zt.k1 C (opsS 16 (.str []) 0) (N 377) (N 378) (N 379) (N 375) (N 380) (N 381) (N 382) (N 383) (N 384) (N 385) Q Y1 (s 0) (s 1) (s 2) (s 3) (s 8) (s 9) (s 10) (s 11) h) hR (fun s h hR => e1 hR))))))))))))
theorem zcn.imp : zcn.Imp (AC P) N := fun v0 v1 v2 v3 h Q hR => eF mixed (fn := Tryz.f38) (fun hC => zcn.L hC (dn Q) (zcl [v0, v1, v2, v3]) h hR)
def zds.I : Bx := ⟨[], [], 8, []⟩
theorem zds.L : LkT P zds.I Tryz.f39 fun C Q s h => zds.cps C N (s 0) h Q := fun {C} hC Q s h hR => e1 hR
theorem zds.imp : zds.Imp (AC P) N := fun v0 h Q hR => eF mixed (fn := Tryz.f39) (fun hC => zds.L hC (dn Q) (zcl [v0]) h hR)
def zc3.I : Bx := ⟨[], [], 58, [(7, pz [(30, [25])] 35)]⟩
theorem zc3.L : LkT P zc3.I Tryz.f40 fun C Q s h => zc3.cps C N (s 0) (s 1) h Q := fun {C} hC Q s h hR => eT hC (fun s h => zc3.k4 C N Q (s 0) (s 1) h) hR (fun s h hR => eT hC (fun s h => zc3.k3 C N Q (s 0) (s 1) h) hR (fun s h hR => eT hC (fun s h => zd (zrn.l4 C 2 (N 108) [.s, .i .i64] 1 Q (s 1) (s 5)) [(.int .i64 0)] h) hR (fun s h hR => eS hC (fun s h => Q (.bool true) h) (eT hC (fun s h => zd (zrn.l4 C 2 (N 108) [.s, .i .i64] 1 Q (s 1) (s 5)) [(s 6)] h) hR (fun s h hR => eK (eL hC [1, 5] [6] (on2 (zrn.l4 C 2 (N 108) [.s, .i .i64] 1 Q)) hR (fun Y1 s h hR => e1 hR)))) (fun s h hR => e1 hR))))
theorem zc3.imp : zc3.Imp (AC P) N := fun v0 v1 h Q hR => eF mixed (fn := Tryz.f40) (fun hC => zc3.L hC (dn Q) (zcl [v0, v1]) h hR)
def zc2.I : Bx := ⟨[], [], 58, [(7, pz [(30, [25])] 35)]⟩
theorem zc2.L : LkT P zc2.I Tryz.f41 fun C Q s h => zc2.cps C N (s 0) (s 1) h Q := fun {C} hC Q s h hR => eT hC (fun s h => zc2.k4 C N Q (s 0) (s 1) h) hR (fun s h hR => eT hC (fun s h => zc2.k3 C N Q (s 0) (s 1) h) hR (fun s h hR => eT hC (fun s h => zd (zq0.l4 C (N 106) 1 Q (s 1) (s 5)) [(.int .i64 0)] h) hR (fun s h hR => eS hC (fun s h => Q (.bool true) h) (eT hC (fun s h => zd (zq0.l4 C (N 106) 1 Q (s 1) (s 5)) [(s 6)] h) hR (fun s h hR => eK (eL hC [1, 5] [6] (on2 (zq0.l4 C (N 106) 1 Q)) hR (fun Y1 s h hR => e1 hR)))) (fun s h hR => e1 hR))))
theorem zc2.imp : zc2.Imp (AC P) N := fun v0 v1 h Q hR => eF mixed (fn := Tryz.f41) (fun hC => zc2.L hC (dn Q) (zcl [v0, v1]) h hR)
def zde.I : Bx := ⟨[], [], 26, [(6, pz [] 9)]⟩
theorem zde.L : LkT P zde.I Tryz.f42 fun C Q s h => zde.cps C N (s 0) (s 1) h Q := fun {C} hC Q s h hR => eT hC (fun s h => zde.k3 C N Q (s 0) (s 1) h) hR (fun s h hR => eT hC (fun s h => zd (zrj.l4 2 [.s, .i .i64] Q (s 0) (s 1)) [(.int .i64 0)] h) hR (fun s h hR => eS hC (fun s h => Q (.bool true) h) (eT hC (fun s h => zd (zrj.l4 2 [.s, .i .i64] Q (s 0) (s 1)) [(s 5)] h) hR (fun s h hR => eK (eL hC [0, 1] [5] (on2 (zrj.l4 2 [.s, .i .i64] Q)) hR (fun Y1 s h hR => e1 hR)))) (fun s h hR => e1 hR)))
theorem zde.imp : zde.Imp (AC P) N := fun v0 v1 h Q hR => eF mixed (fn := Tryz.f42) (fun hC => zde.L hC (dn Q) (zcl [v0, v1]) h hR)
def zdn.I : Bx := ⟨[], [], 20, []⟩
theorem zdn.L : LkT P zdn.I Tryz.f43 fun C Q s h => zdn.cps C N (s 0) h Q := fun {C} hC Q s h hR => eT hC (fun s h => zd (zmu.l3 C 2 (N 108) (fun h p v K => B.stn h p 2 v K) 2 Q (s 2)) [(.int .i64 0)] h) hR (fun s h hR => eT hC (fun s h => zd (zmu.l3 C 2 (N 108) (fun h p v K => B.stn h p 2 v K) 2 Q (s 2)) [(s 3)] h) hR (fun s h hR => eK (eL hC [2] [3] (fun kv lv h Y1 => match kv with | [v2] => zmu.l3 C 2 (N 108) (fun h p v K => B.stn h p 2 v K) 2 Q v2 lv h Y1 | _ => False) hR (fun Y1 s h hR => e1 hR))))
theorem zdn.imp : zdn.Imp (AC P) N := fun v0 h Q hR => eF mixed (fn := Tryz.f43) (fun hC => zdn.L hC (dn Q) (zcl [v0]) h hR)
def zdm.I : Bx := ⟨[], [], 20, []⟩
theorem zdm.L : LkT P zdm.I Tryz.f44 fun C Q s h => zdm.cps C N (s 0) h Q := fun {C} hC Q s h hR => eT hC (fun s h => zd (zmu.l3 C 1 (N 106) (fun h p v K => B.st h p v K) 2 Q (s 2)) [(.int .i64 0)] h) hR (fun s h hR => eT hC (fun s h => zd (zmu.l3 C 1 (N 106) (fun h p v K => B.st h p v K) 2 Q (s 2)) [(s 3)] h) hR (fun s h hR => eK (eL hC [2] [3] (fun kv lv h Y1 => match kv with | [v2] => zmu.l3 C 1 (N 106) (fun h p v K => B.st h p v K) 2 Q v2 lv h Y1 | _ => False) hR (fun Y1 s h hR => e1 hR))))
theorem zdm.imp : zdm.Imp (AC P) N := fun v0 h Q hR => eF mixed (fn := Tryz.f44) (fun hC => zdm.L hC (dn Q) (zcl [v0]) h hR)
def zc9.I : Bx := ⟨[], [], 56, []⟩
theorem zc9.L : LkT P zc9.I Tryz.f45 fun C Q s h => zc9.cps C N (s 0) h Q := fun {C} hC Q s h hR => eT hC (fun s h => zc9.k3 C N Q (s 0) h) hR (fun s h hR => eT hC (fun s h => zd (zc9.l2 C N Q (s 0)) [(.int .i64 0)] h) hR (fun s h hR => eS hC (fun s h => Q (.bool true) h) (eT hC (fun s h => zd (zc9.l2 C N Q (s 0)) [(s 3)] h) hR (fun s h hR => eK (eL hC [0] [3] (on1 (zc9.l2 C N Q)) hR (fun Y1 s h hR => e1 hR)))) (fun s h hR => e1 hR)))
theorem zc9.imp : zc9.Imp (AC P) N := fun v0 h Q hR => eF mixed (fn := Tryz.f45) (fun hC => zc9.L hC (dn Q) (zcl [v0]) h hR)
def zcc.I : Bx := ⟨[1], [5, 9, 13, 17, 21, 27, 33, 41, 54, 60], 67, [(13, pz [] 13)]⟩
theorem zcc.L : LkT P zcc.I Tryz.f46 fun C Q s h => zcc.cps C N (s 0) h Q := fun {C} hC Q s h hR => eT hC (fun s h => zcc.k7 C N Q (s 68) h) hR (fun s h hR => eT hC (fun s h => zcc.k6 C N Q (s 68) h) hR (fun s h hR => eT hC (fun s h => zd (zcc.l5 C N Q (s 68)) [(.int .i64 0)] h) hR (fun s h hR => eS hC (fun s h => Q (.bool true) h) (eT hC (fun s h => zd (zcc.l5 C N Q (s 68)) [(s 3)] h) hR (fun s h hR => eK (eL hC [68] [3] (on1 (zcc.l5 C N Q)) hR (fun Y1 s h hR => eT hC (fun s h => zcc.k3 C N Q Y1 (s 3) (s 68) h) hR (fun s h hR => eS hC (fun s h => B.pv (V.bin .add (s 3) (.int .i64 1)) fun v32 => Y1 [v32] h) (eK (eT hC (fun s h => zd (zcc.l2 C N Q Y1 (s 3) (s 68)) [(.int .i64 0)] h) hR (fun s h hR => eT hC (fun s h => zd (zcc.l2 C N Q Y1 (s 3) (s 68)) [(s 4)] h) hR (fun s h hR => eK (eL hC [3, 68] [4] (on2 (zcc.l2 C N Q Y1)) hR (fun Y2 s h hR => e1 hR)))))) (fun s h hR => e1 hR)))))) (fun s h hR => e1 hR))))
theorem zcc.imp : zcc.Imp (AC P) N := fun v0 h Q hR => eF mixed (fn := Tryz.f46) (fun hC => zcc.L hC (dn Q) (zcl [v0]) h hR)
def zch.I : Bx := ⟨[], [], 59, []⟩
theorem zch.L : LkT P zch.I Tryz.f47 fun C Q s h => zch.cps C N (s 0) h Q := fun {C} hC Q s h hR => eT hC (fun s h => B.pv (V.zw (s 0)) fun v10 => 0 < 1 ∧ B.mks h 8 (some [.int .i64 0]) v10 v10 fun v11 h => zd (zch.l5 C N Q (s 0) v11) [(.int .i64 0)] h) hR (fun s h hR => eT hC (fun s h => zd (zch.l5 C N Q (s 0) (s 3)) [(.int .i64 0)] h) hR (fun s h hR => eS hC (fun s h => Q (s 3) h) (eT hC (fun s h => zd (zch.l5 C N Q (s 0) (s 3)) [(s 4)] h) hR (fun s h hR => eK (eL hC [0, 3] [4] (on2 (zch.l5 C N Q)) hR (fun Y1 s h hR => eT hC (fun s h => zd (zch.l4 C N Q Y1 (s 0) (s 3) (s 4)) [(.int .i64 0)] h) hR (fun s h hR => eS hC (fun s h => B.pv (V.bin .add (s 4) (.int .i64 1)) fun v17 => Y1 [v17] h) (eK (eT hC (fun s h => zd (zch.l4 C N Q Y1 (s 0) (s 3) (s 4)) [(s 5)] h) hR (fun s h hR => eK (eL hC [0, 3, 4] [5] (on3 (zch.l4 C N Q Y1)) hR (fun Y2 s h hR => eT hC (fun s h => zd (zch.l2 C N Q Y1 Y2 (s 0) (s 3) (s 4) (s 5)) [(.int .i64 1), (.int .i64 0)] h) hR (fun s h hR => eS hC (fun s h => B.pv (V.bin .add (s 5) (.int .i64 1)) fun v23 => Y2 [v23] h) (eK (eT hC (fun s h => zd (zch.l2 C N Q Y1 Y2 (s 0) (s 3) (s 4) (s 5)) [(s 6), (.int .i64 0)] h) hR (fun s h hR => eS hC (fun s h => B.pv (V.idxS 1 (s 3) (s 5)) fun v57 => B.st h v57 (s 6) fun h => B.pv (V.bin .add (s 5) (.int .i64 1)) fun v23 => Y2 [v23] h) (eT hC (fun s h => zd (zch.l2 C N Q Y1 Y2 (s 0) (s 3) (s 4) (s 5)) [(s 6), (s 7)] h) hR (fun s h hR => eK (eL hC [0, 3, 4, 5] [6, 7] (on4 (zch.l2 C N Q Y1 Y2)) hR (fun Y3 s h hR => e1 hR)))) (fun s h hR => e1 hR)))) (fun s h hR => e1 hR))))))) (fun s h hR => e1 hR)))))) (fun s h hR => e1 hR)))
theorem zch.imp : zch.Imp (AC P) N := fun v0 h Q hR => eF mixed (fn := Tryz.f47) (fun hC => zch.L hC (dn Q) (zcl [v0]) h hR)
def zk.I : Bx := ⟨[], [], 200, [(7, pz [(7, [3])] 11), (24, pz [(9, [3, 6]), (31, [25, 28])] 37), (41, pz [(9, [3, 6]), (23, [17, 20])] 28)]⟩
theorem zk.L : LkT P zk.I Tryz.f48 fun C Q s h => zk.cps C N (s 0) h Q := fun {C} hC Q s h hR => eT hC (fun s h => zd (zk.l21 C N Q (s 0)) [(.int .i64 0)] h) hR (fun s h hR => eS hC (fun s h => B.pv (V.zw (s 0)) fun v42 => 0 < 1 ∧ B.mks h 24 (some [.nils]) v42 v42 fun v43 h => zd (zk.l17 C N Q (s 0) v43) [(.int .i64 0)] h) (eT hC (fun s h => zd (zk.l21 C N Q (s 0)) [(s 3)] h) hR (fun s h hR => eK (eL hC [0] [3] (on1 (zk.l21 C N Q)) hR (fun Y9 s h hR => eT hC (fun s h => zd (zk.l19 C N Q Y9 (s 0) (s 3)) [(.int .i64 0)] h) hR (fun s h hR => eS hC (fun s h => B.pv (V.bin .add (s 3) (.int .i64 1)) fun v21 => Y9 [v21] h) (eK (eT hC (fun s h => zd (zk.l19 C N Q Y9 (s 0) (s 3)) [(s 4)] h) hR (fun s h hR => eK (eL hC [0, 3] [4] (on2 (zk.l19 C N Q Y9)) hR (fun Y10 s h hR => e1 hR))))) (fun s h hR => e1 hR)))))) (fun s h hR => eT hC (fun s h => zd (zk.l17 C N Q (s 0) (s 5)) [(.int .i64 0)] h) hR (fun s h hR => eS hC (fun s h => zd (zk.l13 C N Q (s 0) (s 5)) [(.int .i64 0)] h) (eT hC (fun s h => zd (zk.l17 C N Q (s 0) (s 5)) [(s 6)] h) hR (fun s h hR => eK (eL hC [0, 5] [6] (on2 (zk.l17 C N Q)) hR (fun Y7 s h hR => eT hC (fun s h => B.pv (V.idxS 1 (s 0) (s 6)) fun v52 => B.ld h v52 fun v53 => zd (zk.l15 C N Q Y7 (s 0) (s 5) (s 6)) [v53, (.int .i64 0)] h) hR (fun s h hR => eS hC (fun s h => B.pv (V.bin .add (s 6) (.int .i64 1)) fun v49 => Y7 [v49] h) (eK (eT hC (fun s h => zd (zk.l15 C N Q Y7 (s 0) (s 5) (s 6)) [(s 7), (.int .i64 0)] h) hR (fun s h hR => eS hC (fun s h => B.pv (V.idxS 1 (s 5) (s 6)) fun v74 => B.st h v74 (s 7) fun h => B.pv (V.bin .add (s 6) (.int .i64 1)) fun v49 => Y7 [v49] h) (eT hC (fun s h => zd (zk.l15 C N Q Y7 (s 0) (s 5) (s 6)) [(s 7), (s 8)] h) hR (fun s h hR => eK (eL hC [0, 5, 6] [7, 8] (on3 (zk.l15 C N Q Y7)) hR (fun Y8 s h hR => e1 hR)))) (fun s h hR => e1 hR)))) (fun s h hR => e1 hR)))))) (fun s h hR => eS hC (fun s h => zd (zk.l9 C N Q (s 0) (s 5)) [(.int .i64 0)] h) (eT hC (fun s h => zd (zk.l13 C N Q (s 0) (s 5)) [(s 9)] h) hR (fun s h hR => eK (eL hC [0, 5] [9] (on2 (zk.l13 C N Q)) hR (fun Y5 s h hR => eT hC (fun s h => zd (zk.l11 C N Q Y5 (s 0) (s 5) (s 9)) [(.int .i64 0)] h) hR (fun s h hR => eS hC (fun s h => B.pv (V.bin .add (s 9) (.int .i64 1)) fun v80 => Y5 [v80] h) (eK (eT hC (fun s h => zd (zk.l11 C N Q Y5 (s 0) (s 5) (s 9)) [(s 10)] h) hR (fun s h hR => eK (eL hC [0, 5, 9] [10] (on3 (zk.l11 C N Q Y5)) hR (fun Y6 s h hR => e1 hR))))) (fun s h hR => e1 hR)))))) (fun s h hR => eS hC (fun s h => zd (zk.l4 C N Q (s 0) (s 5)) [(.int .i64 0)] h) (eT hC (fun s h => zd (zk.l9 C N Q (s 0) (s 5)) [(s 11)] h) hR (fun s h hR => eK (eL hC [0, 5] [11] (on2 (zk.l9 C N Q)) hR (fun Y3 s h hR => eT hC (fun s h => 0 < 1 ∧ B.mks h 8 (some [.int .u64 0]) (.int .i64 64) (.int .i64 64) fun v133 h => zd (zk.l7 C N Q Y3 (s 0) (s 5) (s 11) v133) [(.int .i64 0)] h) hR (fun s h hR => eS hC (fun s h => B.pv (V.bin .add (s 11) (.int .i64 1)) fun v132 => Y3 [v132] h) (eK (eT hC (fun s h => zd (zk.l7 C N Q Y3 (s 0) (s 5) (s 11) (s 12)) [(.int .i64 0)] h) hR (fun s h hR => eS hC (fun s h => zk.k5 C N Q Y3 (s 0) (s 5) (s 11) (s 12) h) (eT hC (fun s h => zd (zk.l7 C N Q Y3 (s 0) (s 5) (s 11) (s 12)) [(s 13)] h) hR (fun s h hR => eK (eL hC [0, 5, 11, 12] [13] (on4 (zk.l7 C N Q Y3)) hR (fun Y4 s h hR => e1 hR)))) (fun s h hR => e1 hR)))) (fun s h hR => e1 hR)))))) (fun s h hR => eS hC (fun s h => Q (.bool true) h) (eT hC (fun s h => zd (zk.l4 C N Q (s 0) (s 5)) [(s 14)] h) hR (fun s h hR => eK (eL hC [0, 5] [14] (on2 (zk.l4 C N Q)) hR (fun Y1 s h hR => eT hC (fun s h => zd (zk.l2 C N Q Y1 (s 0) (s 5) (s 14)) [(.int .i64 0)] h) hR (fun s h hR => eS hC (fun s h => B.pv (V.bin .add (s 14) (.int .i64 1)) fun v162 => Y1 [v162] h) (eK (eT hC (fun s h => zd (zk.l2 C N Q Y1 (s 0) (s 5) (s 14)) [(s 15)] h) hR (fun s h hR => eK (eL hC [0, 5, 14] [15] (on3 (zk.l2 C N Q Y1)) hR (fun Y2 s h hR => e1 hR))))) (fun s h hR => e1 hR)))))) (fun s h hR => e1 hR)))))))
theorem zk.imp : zk.Imp (AC P) N := fun v0 h Q hR => eF mixed (fn := Tryz.f48) (fun hC => zk.L hC (dn Q) (zcl [v0]) h hR)
def zen.I : Bx := ⟨[], [], 193, [(7, pz [(7, [3])] 10), (24, pz [(9, [3, 6]), (30, [24, 27])] 35), (41, pz [(9, [3, 6]), (22, [16, 19])] 26)]⟩
theorem zen.L : LkT P zen.I Tryz.f49 fun C Q s h => zen.cps C N (s 0) h Q := fun {C} hC Q s h hR => eT hC (fun s h => zd (ze.l103 (opsS 8 (.int .i64 0) (N 20)) C Q (s 0)) [(.int .i64 0)] h) hR (fun s h hR => eS hC (fun s h => B.pv (V.zw (s 0)) fun v41 => 0 < 1 ∧ B.mks h 24 (some [.nils]) v41 v41 fun v42 h => zd (ze.l82 (opsS 8 (.int .i64 0) (N 20)) C Q (s 0) v42) [(.int .i64 0)] h) (eT hC (fun s h => zd (ze.l103 (opsS 8 (.int .i64 0) (N 20)) C Q (s 0)) [(s 3)] h) hR (fun s h hR => eK (eL hC [0] [3] (on1 (ze.l103 (opsS 8 (.int .i64 0) (N 20)) C Q)) hR (fun Y9 s h hR => eT hC (fun s h => zd (ze.l93 (opsS 8 (.int .i64 0) (N 20)) C Q Y9 (s 0) (s 3)) [(.int .i64 0)] h) hR (fun s h hR => eS hC (fun s h => B.pv (V.bin .add (s 3) (.int .i64 1)) fun v21 => Y9 [v21] h) (eK (eT hC (fun s h => zd (ze.l93 (opsS 8 (.int .i64 0) (N 20)) C Q Y9 (s 0) (s 3)) [(s 4)] h) hR (fun s h hR => eK (eL hC [0, 3] [4] (on2 (ze.l93 (opsS 8 (.int .i64 0) (N 20)) C Q Y9)) hR (fun Y10 s h hR => e1 hR))))) (fun s h hR => e1 hR)))))) (fun s h hR => eT hC (fun s h => zd (ze.l82 (opsS 8 (.int .i64 0) (N 20)) C Q (s 0) (s 5)) [(.int .i64 0)] h) hR (fun s h hR => eS hC (fun s h => zd (ze.l59 (opsS 8 (.int .i64 0) (N 20)) C Q (s 0) (s 5)) [(.int .i64 0)] h) (eT hC (fun s h => zd (ze.l82 (opsS 8 (.int .i64 0) (N 20)) C Q (s 0) (s 5)) [(s 6)] h) hR (fun s h hR => eK (eL hC [0, 5] [6] (on2 (ze.l82 (opsS 8 (.int .i64 0) (N 20)) C Q)) hR (fun Y7 s h hR => eT hC (fun s h => B.pv (V.idxS 1 (s 0) (s 6)) fun v51 => B.ld h v51 fun v52 => zd (ze.l69 (opsS 8 (.int .i64 0) (N 20)) C Q Y7 (s 0) (s 5) (s 6)) [v52, (.int .i64 0)] h) hR (fun s h hR => eS hC (fun s h => B.pv (V.bin .add (s 6) (.int .i64 1)) fun v48 => Y7 [v48] h) (eK (eT hC (fun s h => zd (ze.l69 (opsS 8 (.int .i64 0) (N 20)) C Q Y7 (s 0) (s 5) (s 6)) [(s 7), (.int .i64 0)] h) hR (fun s h hR => eS hC (fun s h => B.pv (V.idxS 1 (s 5) (s 6)) fun v72 => B.st h v72 (s 7) fun h => B.pv (V.bin .add (s 6) (.int .i64 1)) fun v48 => Y7 [v48] h) (eT hC (fun s h => zd (ze.l69 (opsS 8 (.int .i64 0) (N 20)) C Q Y7 (s 0) (s 5) (s 6)) [(s 7), (s 8)] h) hR (fun s h hR => eK (eL hC [0, 5, 6] [7, 8] (on3 (ze.l69 (opsS 8 (.int .i64 0) (N 20)) C Q Y7)) hR (fun Y8 s h hR => e1 hR)))) (fun s h hR => e1 hR)))) (fun s h hR => e1 hR)))))) (fun s h hR => eS hC (fun s h => zd (ze.l40 (opsS 8 (.int .i64 0) (N 20)) C Q (s 0) (s 5)) [(.int .i64 0)] h) (eT hC (fun s h => zd (ze.l59 (opsS 8 (.int .i64 0) (N 20)) C Q (s 0) (s 5)) [(s 9)] h) hR (fun s h hR => eK (eL hC [0, 5] [9] (on2 (ze.l59 (opsS 8 (.int .i64 0) (N 20)) C Q)) hR (fun Y5 s h hR => eT hC (fun s h => zd (ze.l49 (opsS 8 (.int .i64 0) (N 20)) C Q Y5 (s 0) (s 5) (s 9)) [(.int .i64 0)] h) hR (fun s h hR => eS hC (fun s h => B.pv (V.bin .add (s 9) (.int .i64 1)) fun v78 => Y5 [v78] h) (eK (eT hC (fun s h => zd (ze.l49 (opsS 8 (.int .i64 0) (N 20)) C Q Y5 (s 0) (s 5) (s 9)) [(s 10)] h) hR (fun s h hR => eK (eL hC [0, 5, 9] [10] (on3 (ze.l49 (opsS 8 (.int .i64 0) (N 20)) C Q Y5)) hR (fun Y6 s h hR => e1 hR))))) (fun s h hR => e1 hR)))))) (fun s h hR => eS hC (fun s h => zd (ze.l15 (opsS 8 (.int .i64 0) (N 20)) C Q (s 0) (s 5)) [(.int .i64 0)] h) (eT hC (fun s h => zd (ze.l40 (opsS 8 (.int .i64 0) (N 20)) C Q (s 0) (s 5)) [(s 11)] h) hR (fun s h hR => eK (eL hC [0, 5] [11] (on2 (ze.l40 (opsS 8 (.int .i64 0) (N 20)) C Q)) hR (fun Y3 s h hR => eT hC (fun s h => 0 < 1 ∧ B.mks h 8 (some [.int .i64 0]) (.int .i64 64) (.int .i64 64) fun v129 h => zd (ze.l26 (opsS 8 (.int .i64 0) (N 20)) C Q Y3 (s 0) (s 5) (s 11) v129) [(.int .i64 0)] h) hR (fun s h hR => eS hC (fun s h => B.pv (V.bin .add (s 11) (.int .i64 1)) fun v128 => Y3 [v128] h) (eK (eT hC (fun s h => zd (ze.l26 (opsS 8 (.int .i64 0) (N 20)) C Q Y3 (s 0) (s 5) (s 11) (s 12)) [(.int .i64 0)] h) hR (fun s h hR => eS hC (fun s h => ze.k22 (opsS 8 (.int .i64 0) (N 20)) C Q Y3 (s 0) (s 5) (s 11) (s 12) h) (eT hC (fun s h => zd (ze.l26 (opsS 8 (.int .i64 0) (N 20)) C Q Y3 (s 0) (s 5) (s 11) (s 12)) [(s 13)] h) hR (fun s h hR => eK (eL hC [0, 5, 11, 12] [13] (on4 (ze.l26 (opsS 8 (.int .i64 0) (N 20)) C Q Y3)) hR (fun Y4 s h hR => e1 hR)))) (fun s h hR => e1 hR)))) (fun s h hR => e1 hR)))))) (fun s h hR => eS hC (fun s h => Q (.bool true) h) (eT hC (fun s h => zd (ze.l15 (opsS 8 (.int .i64 0) (N 20)) C Q (s 0) (s 5)) [(s 14)] h) hR (fun s h hR => eK (eL hC [0, 5] [14] (on2 (ze.l15 (opsS 8 (.int .i64 0) (N 20)) C Q)) hR (fun Y1 s h hR => eT hC (fun s h => zd (ze.l5 (opsS 8 (.int .i64 0) (N 20)) C Q Y1 (s 0) (s 5) (s 14)) [(.int .i64 0)] h) hR (fun s h hR => eS hC (fun s h => B.pv (V.bin .add (s 14) (.int .i64 1)) fun v157 => Y1 [v157] h) (eK (eT hC (fun s h => zd (ze.l5 (opsS 8 (.int .i64 0) (N 20)) C Q Y1 (s 0) (s 5) (s 14)) [(s 15)] h) hR (fun s h hR => eK (eL hC [0, 5, 14] [15] (on3 (ze.l5 (opsS 8 (.int .i64 0) (N 20)) C Q Y1)) hR (fun Y2 s h hR => e1 hR))))) (fun s h hR => e1 hR)))))) (fun s h hR => e1 hR)))))))
theorem zen.imp : zen.Imp (AC P) N := fun v0 h Q hR => eF mixed (fn := Tryz.f49) (fun hC => zen.L hC (dn Q) (zcl [v0]) h hR)
def zl.I : Bx := ⟨[], [], 193, [(7, pz [(7, [3])] 10), (24, pz [(9, [3, 6]), (30, [24, 27])] 35), (41, pz [(9, [3, 6]), (22, [16, 19])] 26)]⟩
theorem zl.L : LkT P zl.I Tryz.f50 fun C Q s h => zl.cps C N (s 0) h Q := fun {C} hC Q s h hR => eT hC (fun s h => zd (zl.l21 C N Q (s 0)) [(.int .i64 0)] h) hR (fun s h hR => eS hC (fun s h => B.pv (V.zw (s 0)) fun v41 => 0 < 1 ∧ B.mks h 24 (some [.nils]) v41 v41 fun v42 h => zd (zl.l17 C N Q (s 0) v42) [(.int .i64 0)] h) (eT hC (fun s h => zd (zl.l21 C N Q (s 0)) [(s 3)] h) hR (fun s h hR => eK (eL hC [0] [3] (on1 (zl.l21 C N Q)) hR (fun Y9 s h hR => eT hC (fun s h => zd (zl.l19 C N Q Y9 (s 0) (s 3)) [(.int .i64 0)] h) hR (fun s h hR => eS hC (fun s h => B.pv (V.bin .add (s 3) (.int .i64 1)) fun v21 => Y9 [v21] h) (eK (eT hC (fun s h => zd (zl.l19 C N Q Y9 (s 0) (s 3)) [(s 4)] h) hR (fun s h hR => eK (eL hC [0, 3] [4] (on2 (zl.l19 C N Q Y9)) hR (fun Y10 s h hR => e1 hR))))) (fun s h hR => e1 hR)))))) (fun s h hR => eT hC (fun s h => zd (zl.l17 C N Q (s 0) (s 5)) [(.int .i64 0)] h) hR (fun s h hR => eS hC (fun s h => zd (zl.l13 C N Q (s 0) (s 5)) [(.int .i64 0)] h) (eT hC (fun s h => zd (zl.l17 C N Q (s 0) (s 5)) [(s 6)] h) hR (fun s h hR => eK (eL hC [0, 5] [6] (on2 (zl.l17 C N Q)) hR (fun Y7 s h hR => eT hC (fun s h => B.pv (V.idxS 1 (s 0) (s 6)) fun v51 => B.ld h v51 fun v52 => zd (zl.l15 C N Q Y7 (s 0) (s 5) (s 6)) [v52, (.int .i64 0)] h) hR (fun s h hR => eS hC (fun s h => B.pv (V.bin .add (s 6) (.int .i64 1)) fun v48 => Y7 [v48] h) (eK (eT hC (fun s h => zd (zl.l15 C N Q Y7 (s 0) (s 5) (s 6)) [(s 7), (.int .i64 0)] h) hR (fun s h hR => eS hC (fun s h => B.pv (V.idxS 1 (s 5) (s 6)) fun v72 => B.st h v72 (s 7) fun h => B.pv (V.bin .add (s 6) (.int .i64 1)) fun v48 => Y7 [v48] h) (eT hC (fun s h => zd (zl.l15 C N Q Y7 (s 0) (s 5) (s 6)) [(s 7), (s 8)] h) hR (fun s h hR => eK (eL hC [0, 5, 6] [7, 8] (on3 (zl.l15 C N Q Y7)) hR (fun Y8 s h hR => e1 hR)))) (fun s h hR => e1 hR)))) (fun s h hR => e1 hR)))))) (fun s h hR => eS hC (fun s h => zd (zl.l9 C N Q (s 0) (s 5)) [(.int .i64 0)] h) (eT hC (fun s h => zd (zl.l13 C N Q (s 0) (s 5)) [(s 9)] h) hR (fun s h hR => eK (eL hC [0, 5] [9] (on2 (zl.l13 C N Q)) hR (fun Y5 s h hR => eT hC (fun s h => zd (zl.l11 C N Q Y5 (s 0) (s 5) (s 9)) [(.int .i64 0)] h) hR (fun s h hR => eS hC (fun s h => B.pv (V.bin .add (s 9) (.int .i64 1)) fun v78 => Y5 [v78] h) (eK (eT hC (fun s h => zd (zl.l11 C N Q Y5 (s 0) (s 5) (s 9)) [(s 10)] h) hR (fun s h hR => eK (eL hC [0, 5, 9] [10] (on3 (zl.l11 C N Q Y5)) hR (fun Y6 s h hR => e1 hR))))) (fun s h hR => e1 hR)))))) (fun s h hR => eS hC (fun s h => zd (zl.l4 C N Q (s 0) (s 5)) [(.int .i64 0)] h) (eT hC (fun s h => zd (zl.l9 C N Q (s 0) (s 5)) [(s 11)] h) hR (fun s h hR => eK (eL hC [0, 5] [11] (on2 (zl.l9 C N Q)) hR (fun Y3 s h hR => eT hC (fun s h => 0 < 1 ∧ B.mks h 8 (some [.int .i64 0]) (.int .i64 64) (.int .i64 64) fun v129 h => zd (zl.l7 C N Q Y3 (s 0) (s 5) (s 11) v129) [(.int .i64 0)] h) hR (fun s h hR => eS hC (fun s h => B.pv (V.bin .add (s 11) (.int .i64 1)) fun v128 => Y3 [v128] h) (eK (eT hC (fun s h => zd (zl.l7 C N Q Y3 (s 0) (s 5) (s 11) (s 12)) [(.int .i64 0)] h) hR (fun s h hR => eS hC (fun s h => zl.k5 C N Q Y3 (s 0) (s 5) (s 11) (s 12) h) (eT hC (fun s h => zd (zl.l7 C N Q Y3 (s 0) (s 5) (s 11) (s 12)) [(s 13)] h) hR (fun s h hR => eK (eL hC [0, 5, 11, 12] [13] (on4 (zl.l7 C N Q Y3)) hR (fun Y4 s h hR => e1 hR)))) (fun s h hR => e1 hR)))) (fun s h hR => e1 hR)))))) (fun s h hR => eS hC (fun s h => Q (.bool true) h) (eT hC (fun s h => zd (zl.l4 C N Q (s 0) (s 5)) [(s 14)] h) hR (fun s h hR => eK (eL hC [0, 5] [14] (on2 (zl.l4 C N Q)) hR (fun Y1 s h hR => eT hC (fun s h => zd (zl.l2 C N Q Y1 (s 0) (s 5) (s 14)) [(.int .i64 0)] h) hR (fun s h hR => eS hC (fun s h => B.pv (V.bin .add (s 14) (.int .i64 1)) fun v157 => Y1 [v157] h) (eK (eT hC (fun s h => zd (zl.l2 C N Q Y1 (s 0) (s 5) (s 14)) [(s 15)] h) hR (fun s h hR => eK (eL hC [0, 5, 14] [15] (on3 (zl.l2 C N Q Y1)) hR (fun Y2 s h hR => e1 hR))))) (fun s h hR => e1 hR)))))) (fun s h hR => e1 hR)))))))
theorem zl.imp : zl.Imp (AC P) N := fun v0 h Q hR => eF mixed (fn := Tryz.f50) (fun hC => zl.L hC (dn Q) (zcl [v0]) h hR)
def zeg.I : Bx := ⟨[], [], 193, [(7, pz [(7, [3])] 10), (24, pz [(9, [3, 6]), (30, [24, 27])] 35), (41, pz [(9, [3, 6]), (22, [16, 19])] 26)]⟩
theorem zeg.L : LkT P zeg.I Tryz.f51 fun C Q s h => zeg.cps C N (s 0) h Q := fun {C} hC Q s h hR => eT hC (fun s h => zd (ze.l103 (opsS 16 (.str []) (N 106)) C Q (s 0)) [(.int .i64 0)] h) hR (fun s h hR => eS hC (fun s h => B.pv (V.zw (s 0)) fun v41 => 0 < 1 ∧ B.mks h 24 (some [.nils]) v41 v41 fun v42 h => zd (ze.l82 (opsS 16 (.str []) (N 106)) C Q (s 0) v42) [(.int .i64 0)] h) (eT hC (fun s h => zd (ze.l103 (opsS 16 (.str []) (N 106)) C Q (s 0)) [(s 3)] h) hR (fun s h hR => eK (eL hC [0] [3] (on1 (ze.l103 (opsS 16 (.str []) (N 106)) C Q)) hR (fun Y9 s h hR => eT hC (fun s h => zd (ze.l93 (opsS 16 (.str []) (N 106)) C Q Y9 (s 0) (s 3)) [(.int .i64 0)] h) hR (fun s h hR => eS hC (fun s h => B.pv (V.bin .add (s 3) (.int .i64 1)) fun v21 => Y9 [v21] h) (eK (eT hC (fun s h => zd (ze.l93 (opsS 16 (.str []) (N 106)) C Q Y9 (s 0) (s 3)) [(s 4)] h) hR (fun s h hR => eK (eL hC [0, 3] [4] (on2 (ze.l93 (opsS 16 (.str []) (N 106)) C Q Y9)) hR (fun Y10 s h hR => e1 hR))))) (fun s h hR => e1 hR)))))) (fun s h hR => eT hC (fun s h => zd (ze.l82 (opsS 16 (.str []) (N 106)) C Q (s 0) (s 5)) [(.int .i64 0)] h) hR (fun s h hR => eS hC (fun s h => zd (ze.l59 (opsS 16 (.str []) (N 106)) C Q (s 0) (s 5)) [(.int .i64 0)] h) (eT hC (fun s h => zd (ze.l82 (opsS 16 (.str []) (N 106)) C Q (s 0) (s 5)) [(s 6)] h) hR (fun s h hR => eK (eL hC [0, 5] [6] (on2 (ze.l82 (opsS 16 (.str []) (N 106)) C Q)) hR (fun Y7 s h hR => eT hC (fun s h => B.pv (V.idxS 1 (s 0) (s 6)) fun v51 => B.ld h v51 fun v52 => zd (ze.l69 (opsS 16 (.str []) (N 106)) C Q Y7 (s 0) (s 5) (s 6)) [v52, (.int .i64 0)] h) hR (fun s h hR => eS hC (fun s h => B.pv (V.bin .add (s 6) (.int .i64 1)) fun v48 => Y7 [v48] h) (eK (eT hC (fun s h => zd (ze.l69 (opsS 16 (.str []) (N 106)) C Q Y7 (s 0) (s 5) (s 6)) [(s 7), (.int .i64 0)] h) hR (fun s h hR => eS hC (fun s h => B.pv (V.idxS 1 (s 5) (s 6)) fun v72 => B.st h v72 (s 7) fun h => B.pv (V.bin .add (s 6) (.int .i64 1)) fun v48 => Y7 [v48] h) (eT hC (fun s h => zd (ze.l69 (opsS 16 (.str []) (N 106)) C Q Y7 (s 0) (s 5) (s 6)) [(s 7), (s 8)] h) hR (fun s h hR => eK (eL hC [0, 5, 6] [7, 8] (on3 (ze.l69 (opsS 16 (.str []) (N 106)) C Q Y7)) hR (fun Y8 s h hR => e1 hR)))) (fun s h hR => e1 hR)))) (fun s h hR => e1 hR)))))) (fun s h hR => eS hC (fun s h => zd (ze.l40 (opsS 16 (.str []) (N 106)) C Q (s 0) (s 5)) [(.int .i64 0)] h) (eT hC (fun s h => zd (ze.l59 (opsS 16 (.str []) (N 106)) C Q (s 0) (s 5)) [(s 9)] h) hR (fun s h hR => eK (eL hC [0, 5] [9] (on2 (ze.l59 (opsS 16 (.str []) (N 106)) C Q)) hR (fun Y5 s h hR => eT hC (fun s h => zd (ze.l49 (opsS 16 (.str []) (N 106)) C Q Y5 (s 0) (s 5) (s 9)) [(.int .i64 0)] h) hR (fun s h hR => eS hC (fun s h => B.pv (V.bin .add (s 9) (.int .i64 1)) fun v78 => Y5 [v78] h) (eK (eT hC (fun s h => zd (ze.l49 (opsS 16 (.str []) (N 106)) C Q Y5 (s 0) (s 5) (s 9)) [(s 10)] h) hR (fun s h hR => eK (eL hC [0, 5, 9] [10] (on3 (ze.l49 (opsS 16 (.str []) (N 106)) C Q Y5)) hR (fun Y6 s h hR => e1 hR))))) (fun s h hR => e1 hR)))))) (fun s h hR => eS hC (fun s h => zd (ze.l15 (opsS 16 (.str []) (N 106)) C Q (s 0) (s 5)) [(.int .i64 0)] h) (eT hC (fun s h => zd (ze.l40 (opsS 16 (.str []) (N 106)) C Q (s 0) (s 5)) [(s 11)] h) hR (fun s h hR => eK (eL hC [0, 5] [11] (on2 (ze.l40 (opsS 16 (.str []) (N 106)) C Q)) hR (fun Y3 s h hR => eT hC (fun s h => 0 < 1 ∧ B.mks h 16 (some [.str []]) (.int .i64 64) (.int .i64 64) fun v129 h => zd (ze.l26 (opsS 16 (.str []) (N 106)) C Q Y3 (s 0) (s 5) (s 11) v129) [(.int .i64 0)] h) hR (fun s h hR => eS hC (fun s h => B.pv (V.bin .add (s 11) (.int .i64 1)) fun v128 => Y3 [v128] h) (eK (eT hC (fun s h => zd (ze.l26 (opsS 16 (.str []) (N 106)) C Q Y3 (s 0) (s 5) (s 11) (s 12)) [(.int .i64 0)] h) hR (fun s h hR => eS hC (fun s h => ze.k22 (opsS 16 (.str []) (N 106)) C Q Y3 (s 0) (s 5) (s 11) (s 12) h) (eT hC (fun s h => zd (ze.l26 (opsS 16 (.str []) (N 106)) C Q Y3 (s 0) (s 5) (s 11) (s 12)) [(s 13)] h) hR (fun s h hR => eK (eL hC [0, 5, 11, 12] [13] (on4 (ze.l26 (opsS 16 (.str []) (N 106)) C Q Y3)) hR (fun Y4 s h hR => e1 hR)))) (fun s h hR => e1 hR)))) (fun s h hR => e1 hR)))))) (fun s h hR => eS hC (fun s h => Q (.bool true) h) (eT hC (fun s h => zd (ze.l15 (opsS 16 (.str []) (N 106)) C Q (s 0) (s 5)) [(s 14)] h) hR (fun s h hR => eK (eL hC [0, 5] [14] (on2 (ze.l15 (opsS 16 (.str []) (N 106)) C Q)) hR (fun Y1 s h hR => eT hC (fun s h => zd (ze.l5 (opsS 16 (.str []) (N 106)) C Q Y1 (s 0) (s 5) (s 14)) [(.int .i64 0)] h) hR (fun s h hR => eS hC (fun s h => B.pv (V.bin .add (s 14) (.int .i64 1)) fun v157 => Y1 [v157] h) (eK (eT hC (fun s h => zd (ze.l5 (opsS 16 (.str []) (N 106)) C Q Y1 (s 0) (s 5) (s 14)) [(s 15)] h) hR (fun s h hR => eK (eL hC [0, 5, 14] [15] (on3 (ze.l5 (opsS 16 (.str []) (N 106)) C Q Y1)) hR (fun Y2 s h hR => e1 hR))))) (fun s h hR => e1 hR)))))) (fun s h hR => e1 hR)))))))
theorem zeg.imp : zeg.Imp (AC P) N := fun v0 h Q hR => eF mixed (fn := Tryz.f51) (fun hC => zeg.L hC (dn Q) (zcl [v0]) h hR)
def zet.I : Bx := ⟨[], [], 193, [(7, pz [(7, [3])] 10), (24, pz [(9, [3, 6]), (30, [24, 27])] 35), (41, pz [(9, [3, 6]), (22, [16, 19])] 26)]⟩
theorem zet.L : LkT P zet.I Tryz.f52 fun C Q s h => zet.cps C N (s 0) h Q := fun {C} hC Q s h hR => eT hC (fun s h => zd (ze.l103 (opsS 1 (.int .u8 0) (N 64)) C Q (s 0)) [(.int .i64 0)] h) hR (fun s h hR => eS hC (fun s h => B.pv (V.zw (s 0)) fun v41 => 0 < 1 ∧ B.mks h 24 (some [.nils]) v41 v41 fun v42 h => zd (ze.l82 (opsS 1 (.int .u8 0) (N 64)) C Q (s 0) v42) [(.int .i64 0)] h) (eT hC (fun s h => zd (ze.l103 (opsS 1 (.int .u8 0) (N 64)) C Q (s 0)) [(s 3)] h) hR (fun s h hR => eK (eL hC [0] [3] (on1 (ze.l103 (opsS 1 (.int .u8 0) (N 64)) C Q)) hR (fun Y9 s h hR => eT hC (fun s h => zd (ze.l93 (opsS 1 (.int .u8 0) (N 64)) C Q Y9 (s 0) (s 3)) [(.int .i64 0)] h) hR (fun s h hR => eS hC (fun s h => B.pv (V.bin .add (s 3) (.int .i64 1)) fun v21 => Y9 [v21] h) (eK (eT hC (fun s h => zd (ze.l93 (opsS 1 (.int .u8 0) (N 64)) C Q Y9 (s 0) (s 3)) [(s 4)] h) hR (fun s h hR => eK (eL hC [0, 3] [4] (on2 (ze.l93 (opsS 1 (.int .u8 0) (N 64)) C Q Y9)) hR (fun Y10 s h hR => e1 hR))))) (fun s h hR => e1 hR)))))) (fun s h hR => eT hC (fun s h => zd (ze.l82 (opsS 1 (.int .u8 0) (N 64)) C Q (s 0) (s 5)) [(.int .i64 0)] h) hR (fun s h hR => eS hC (fun s h => zd (ze.l59 (opsS 1 (.int .u8 0) (N 64)) C Q (s 0) (s 5)) [(.int .i64 0)] h) (eT hC (fun s h => zd (ze.l82 (opsS 1 (.int .u8 0) (N 64)) C Q (s 0) (s 5)) [(s 6)] h) hR (fun s h hR => eK (eL hC [0, 5] [6] (on2 (ze.l82 (opsS 1 (.int .u8 0) (N 64)) C Q)) hR (fun Y7 s h hR => eT hC (fun s h => B.pv (V.idxS 1 (s 0) (s 6)) fun v51 => B.ld h v51 fun v52 => zd (ze.l69 (opsS 1 (.int .u8 0) (N 64)) C Q Y7 (s 0) (s 5) (s 6)) [v52, (.int .i64 0)] h) hR (fun s h hR => eS hC (fun s h => B.pv (V.bin .add (s 6) (.int .i64 1)) fun v48 => Y7 [v48] h) (eK (eT hC (fun s h => zd (ze.l69 (opsS 1 (.int .u8 0) (N 64)) C Q Y7 (s 0) (s 5) (s 6)) [(s 7), (.int .i64 0)] h) hR (fun s h hR => eS hC (fun s h => B.pv (V.idxS 1 (s 5) (s 6)) fun v72 => B.st h v72 (s 7) fun h => B.pv (V.bin .add (s 6) (.int .i64 1)) fun v48 => Y7 [v48] h) (eT hC (fun s h => zd (ze.l69 (opsS 1 (.int .u8 0) (N 64)) C Q Y7 (s 0) (s 5) (s 6)) [(s 7), (s 8)] h) hR (fun s h hR => eK (eL hC [0, 5, 6] [7, 8] (on3 (ze.l69 (opsS 1 (.int .u8 0) (N 64)) C Q Y7)) hR (fun Y8 s h hR => e1 hR)))) (fun s h hR => e1 hR)))) (fun s h hR => e1 hR)))))) (fun s h hR => eS hC (fun s h => zd (ze.l40 (opsS 1 (.int .u8 0) (N 64)) C Q (s 0) (s 5)) [(.int .i64 0)] h) (eT hC (fun s h => zd (ze.l59 (opsS 1 (.int .u8 0) (N 64)) C Q (s 0) (s 5)) [(s 9)] h) hR (fun s h hR => eK (eL hC [0, 5] [9] (on2 (ze.l59 (opsS 1 (.int .u8 0) (N 64)) C Q)) hR (fun Y5 s h hR => eT hC (fun s h => zd (ze.l49 (opsS 1 (.int .u8 0) (N 64)) C Q Y5 (s 0) (s 5) (s 9)) [(.int .i64 0)] h) hR (fun s h hR => eS hC (fun s h => B.pv (V.bin .add (s 9) (.int .i64 1)) fun v78 => Y5 [v78] h) (eK (eT hC (fun s h => zd (ze.l49 (opsS 1 (.int .u8 0) (N 64)) C Q Y5 (s 0) (s 5) (s 9)) [(s 10)] h) hR (fun s h hR => eK (eL hC [0, 5, 9] [10] (on3 (ze.l49 (opsS 1 (.int .u8 0) (N 64)) C Q Y5)) hR (fun Y6 s h hR => e1 hR))))) (fun s h hR => e1 hR)))))) (fun s h hR => eS hC (fun s h => zd (ze.l15 (opsS 1 (.int .u8 0) (N 64)) C Q (s 0) (s 5)) [(.int .i64 0)] h) (eT hC (fun s h => zd (ze.l40 (opsS 1 (.int .u8 0) (N 64)) C Q (s 0) (s 5)) [(s 11)] h) hR (fun s h hR => eK (eL hC [0, 5] [11] (on2 (ze.l40 (opsS 1 (.int .u8 0) (N 64)) C Q)) hR (fun Y3 s h hR => eT hC (fun s h => 0 < 1 ∧ B.mks h 1 (some [.int .u8 0]) (.int .i64 64) (.int .i64 64) fun v129 h => zd (ze.l26 (opsS 1 (.int .u8 0) (N 64)) C Q Y3 (s 0) (s 5) (s 11) v129) [(.int .i64 0)] h) hR (fun s h hR => eS hC (fun s h => B.pv (V.bin .add (s 11) (.int .i64 1)) fun v128 => Y3 [v128] h) (eK (eT hC (fun s h => zd (ze.l26 (opsS 1 (.int .u8 0) (N 64)) C Q Y3 (s 0) (s 5) (s 11) (s 12)) [(.int .i64 0)] h) hR (fun s h hR => eS hC (fun s h => ze.k22 (opsS 1 (.int .u8 0) (N 64)) C Q Y3 (s 0) (s 5) (s 11) (s 12) h) (eT hC (fun s h => zd (ze.l26 (opsS 1 (.int .u8 0) (N 64)) C Q Y3 (s 0) (s 5) (s 11) (s 12)) [(s 13)] h) hR (fun s h hR => eK (eL hC [0, 5, 11, 12] [13] (on4 (ze.l26 (opsS 1 (.int .u8 0) (N 64)) C Q Y3)) hR (fun Y4 s h hR => e1 hR)))) (fun s h hR => e1 hR)))) (fun s h hR => e1 hR)))))) (fun s h hR => eS hC (fun s h => Q (.bool true) h) (eT hC (fun s h => zd (ze.l15 (opsS 1 (.int .u8 0) (N 64)) C Q (s 0) (s 5)) [(s 14)] h) hR (fun s h hR => eK (eL hC [0, 5] [14] (on2 (ze.l15 (opsS 1 (.int .u8 0) (N 64)) C Q)) hR (fun Y1 s h hR => eT hC (fun s h => zd (ze.l5 (opsS 1 (.int .u8 0) (N 64)) C Q Y1 (s 0) (s 5) (s 14)) [(.int .i64 0)] h) hR (fun s h hR => eS hC (fun s h => B.pv (V.bin .add (s 14) (.int .i64 1)) fun v157 => Y1 [v157] h) (eK (eT hC (fun s h => zd (ze.l5 (opsS 1 (.int .u8 0) (N 64)) C Q Y1 (s 0) (s 5) (s 14)) [(s 15)] h) hR (fun s h hR => eK (eL hC [0, 5, 14] [15] (on3 (ze.l5 (opsS 1 (.int .u8 0) (N 64)) C Q Y1)) hR (fun Y2 s h hR => e1 hR))))) (fun s h hR => e1 hR)))))) (fun s h hR => e1 hR)))))))
theorem zet.imp : zet.Imp (AC P) N := fun v0 h Q hR => eF mixed (fn := Tryz.f52) (fun hC => zet.L hC (dn Q) (zcl [v0]) h hR)
def zz.I : Bx := ⟨[], [], 193, [(7, pz [(7, [3])] 10), (24, pz [(9, [3, 6]), (30, [24, 27])] 35), (41, pz [(9, [3, 6]), (22, [16, 19])] 26)]⟩
abbrev zz.E : z5 := opsF 2 16 [.int .i64 0, .int .i64 0] (N 18) [.i .i64, .i .i64]
theorem zz.L : LkT P zz.I Tryz.f53 fun C Q s h => zz.cps C N (s 0) h Q := fun {C} hC Q s h hR => eT hC (fun s h => zd (ze.l103 zz.E C Q (s 0)) [(.int .i64 0)] h) hR (fun s h hR => eS hC (fun s h => B.pv (V.zw (s 0)) fun v41 => 0 < 1 ∧ B.mks h 24 (some [.nils]) v41 v41 fun v42 h => zd (ze.l82 zz.E C Q (s 0) v42) [(.int .i64 0)] h) (eT hC (fun s h => zd (ze.l103 zz.E C Q (s 0)) [(s 3)] h) hR (fun s h hR => eK (eL hC [0] [3] (on1 (ze.l103 zz.E C Q)) hR (fun Y9 s h hR => eT hC (fun s h => zd (ze.l93 zz.E C Q Y9 (s 0) (s 3)) [(.int .i64 0)] h) hR (fun s h hR => eS hC (fun s h => B.pv (V.bin .add (s 3) (.int .i64 1)) fun v21 => Y9 [v21] h) (eK (eT hC (fun s h => zd (ze.l93 zz.E C Q Y9 (s 0) (s 3)) [(s 4)] h) hR (fun s h hR => eK (eL hC [0, 3] [4] (on2 (ze.l93 zz.E C Q Y9)) hR (fun Y10 s h hR => e1 hR))))) (fun s h hR => e1 hR)))))) (fun s h hR => eT hC (fun s h => zd (ze.l82 zz.E C Q (s 0) (s 5)) [(.int .i64 0)] h) hR (fun s h hR => eS hC (fun s h => zd (ze.l59 zz.E C Q (s 0) (s 5)) [(.int .i64 0)] h) (eT hC (fun s h => zd (ze.l82 zz.E C Q (s 0) (s 5)) [(s 6)] h) hR (fun s h hR => eK (eL hC [0, 5] [6] (on2 (ze.l82 zz.E C Q)) hR (fun Y7 s h hR => eT hC (fun s h => B.pv (V.idxS 1 (s 0) (s 6)) fun v51 => B.ld h v51 fun v52 => zd (ze.l69 zz.E C Q Y7 (s 0) (s 5) (s 6)) [v52, (.int .i64 0)] h) hR (fun s h hR => eS hC (fun s h => B.pv (V.bin .add (s 6) (.int .i64 1)) fun v48 => Y7 [v48] h) (eK (eT hC (fun s h => zd (ze.l69 zz.E C Q Y7 (s 0) (s 5) (s 6)) [(s 7), (.int .i64 0)] h) hR (fun s h hR => eS hC (fun s h => B.pv (V.idxS 1 (s 5) (s 6)) fun v72 => B.st h v72 (s 7) fun h => B.pv (V.bin .add (s 6) (.int .i64 1)) fun v48 => Y7 [v48] h) (eT hC (fun s h => zd (ze.l69 zz.E C Q Y7 (s 0) (s 5) (s 6)) [(s 7), (s 8)] h) hR (fun s h hR => eK (eL hC [0, 5, 6] [7, 8] (on3 (ze.l69 zz.E C Q Y7)) hR (fun Y8 s h hR => e1 hR)))) (fun s h hR => e1 hR)))) (fun s h hR => e1 hR)))))) (fun s h hR => eS hC (fun s h => zd (ze.l40 zz.E C Q (s 0) (s 5)) [(.int .i64 0)] h) (eT hC (fun s h => zd (ze.l59 zz.E C Q (s 0) (s 5)) [(s 9)] h) hR (fun s h hR => eK (eL hC [0, 5] [9] (on2 (ze.l59 zz.E C Q)) hR (fun Y5 s h hR => eT hC (fun s h => zd (ze.l49 zz.E C Q Y5 (s 0) (s 5) (s 9)) [(.int .i64 0)] h) hR (fun s h hR => eS hC (fun s h => B.pv (V.bin .add (s 9) (.int .i64 1)) fun v78 => Y5 [v78] h) (eK (eT hC (fun s h => zd (ze.l49 zz.E C Q Y5 (s 0) (s 5) (s 9)) [(s 10)] h) hR (fun s h hR => eK (eL hC [0, 5, 9] [10] (on3 (ze.l49 zz.E C Q Y5)) hR (fun Y6 s h hR => e1 hR))))) (fun s h hR => e1 hR)))))) (fun s h hR => eS hC (fun s h => zd (ze.l15 zz.E C Q (s 0) (s 5)) [(.int .i64 0)] h) (eT hC (fun s h => zd (ze.l40 zz.E C Q (s 0) (s 5)) [(s 11)] h) hR (fun s h hR => eK (eL hC [0, 5] [11] (on2 (ze.l40 zz.E C Q)) hR (fun Y3 s h hR => eT hC (fun s h => 0 < 2 ∧ B.mks h 16 (some [.int .i64 0, .int .i64 0]) (.int .i64 64) (.int .i64 64) fun v129 h => zd (ze.l26 zz.E C Q Y3 (s 0) (s 5) (s 11) v129) [(.int .i64 0)] h) hR (fun s h hR => eS hC (fun s h => B.pv (V.bin .add (s 11) (.int .i64 1)) fun v128 => Y3 [v128] h) (eK (eT hC (fun s h => zd (ze.l26 zz.E C Q Y3 (s 0) (s 5) (s 11) (s 12)) [(.int .i64 0)] h) hR (fun s h hR => eS hC (fun s h => ze.k22 zz.E C Q Y3 (s 0) (s 5) (s 11) (s 12) h) (eT hC (fun s h => zd (ze.l26 zz.E C Q Y3 (s 0) (s 5) (s 11) (s 12)) [(s 13)] h) hR (fun s h hR => eK (eL hC [0, 5, 11, 12] [13] (on4 (ze.l26 zz.E C Q Y3)) hR (fun Y4 s h hR => e1 hR)))) (fun s h hR => e1 hR)))) (fun s h hR => e1 hR)))))) (fun s h hR => eS hC (fun s h => Q (.bool true) h) (eT hC (fun s h => zd (ze.l15 zz.E C Q (s 0) (s 5)) [(s 14)] h) hR (fun s h hR => eK (eL hC [0, 5] [14] (on2 (ze.l15 zz.E C Q)) hR (fun Y1 s h hR => eT hC (fun s h => zd (ze.l5 zz.E C Q Y1 (s 0) (s 5) (s 14)) [(.int .i64 0)] h) hR (fun s h hR => eS hC (fun s h => B.pv (V.bin .add (s 14) (.int .i64 1)) fun v157 => Y1 [v157] h) (eK (eT hC (fun s h => zd (ze.l5 zz.E C Q Y1 (s 0) (s 5) (s 14)) [(s 15)] h) hR (fun s h hR => eK (eL hC [0, 5, 14] [15] (on3 (ze.l5 zz.E C Q Y1)) hR (fun Y2 s h hR => e1 hR))))) (fun s h hR => e1 hR)))))) (fun s h hR => e1 hR)))))))
theorem zz.imp : zz.Imp (AC P) N := fun v0 h Q hR => eF mixed (fn := Tryz.f53) (fun hC => zz.L hC (dn Q) (zcl [v0]) h hR)
def zbt.I : Bx := ⟨[], [], 193, [(7, pz [(7, [3])] 10), (24, pz [(9, [3, 6]), (30, [24, 27])] 35), (41, pz [(9, [3, 6]), (22, [16, 19])] 26)]⟩
abbrev zbt.E : z5 := opsF 6 56 [.int .i64 0, .str [], .int .i64 0, .int .i64 0, .int .i64 0, .bool false] (N 77) [.i .i64, .s, .i .i64, .i .i64, .i .i64, .b]
theorem zbt.L : LkT P zbt.I Tryz.f54 fun C Q s h => zbt.cps C N (s 0) h Q := fun {C} hC Q s h hR => eT hC (fun s h => zd (ze.l103 zbt.E C Q (s 0)) [(.int .i64 0)] h) hR (fun s h hR => eS hC (fun s h => B.pv (V.zw (s 0)) fun v41 => 0 < 1 ∧ B.mks h 24 (some [.nils]) v41 v41 fun v42 h => zd (ze.l82 zbt.E C Q (s 0) v42) [(.int .i64 0)] h) (eT hC (fun s h => zd (ze.l103 zbt.E C Q (s 0)) [(s 3)] h) hR (fun s h hR => eK (eL hC [0] [3] (on1 (ze.l103 zbt.E C Q)) hR (fun Y9 s h hR => eT hC (fun s h => zd (ze.l93 zbt.E C Q Y9 (s 0) (s 3)) [(.int .i64 0)] h) hR (fun s h hR => eS hC (fun s h => B.pv (V.bin .add (s 3) (.int .i64 1)) fun v21 => Y9 [v21] h) (eK (eT hC (fun s h => zd (ze.l93 zbt.E C Q Y9 (s 0) (s 3)) [(s 4)] h) hR (fun s h hR => eK (eL hC [0, 3] [4] (on2 (ze.l93 zbt.E C Q Y9)) hR (fun Y10 s h hR => e1 hR))))) (fun s h hR => e1 hR)))))) (fun s h hR => eT hC (fun s h => zd (ze.l82 zbt.E C Q (s 0) (s 5)) [(.int .i64 0)] h) hR (fun s h hR => eS hC (fun s h => zd (ze.l59 zbt.E C Q (s 0) (s 5)) [(.int .i64 0)] h) (eT hC (fun s h => zd (ze.l82 zbt.E C Q (s 0) (s 5)) [(s 6)] h) hR (fun s h hR => eK (eL hC [0, 5] [6] (on2 (ze.l82 zbt.E C Q)) hR (fun Y7 s h hR => eT hC (fun s h => B.pv (V.idxS 1 (s 0) (s 6)) fun v51 => B.ld h v51 fun v52 => zd (ze.l69 zbt.E C Q Y7 (s 0) (s 5) (s 6)) [v52, (.int .i64 0)] h) hR (fun s h hR => eS hC (fun s h => B.pv (V.bin .add (s 6) (.int .i64 1)) fun v48 => Y7 [v48] h) (eK (eT hC (fun s h => zd (ze.l69 zbt.E C Q Y7 (s 0) (s 5) (s 6)) [(s 7), (.int .i64 0)] h) hR (fun s h hR => eS hC (fun s h => B.pv (V.idxS 1 (s 5) (s 6)) fun v72 => B.st h v72 (s 7) fun h => B.pv (V.bin .add (s 6) (.int .i64 1)) fun v48 => Y7 [v48] h) (eT hC (fun s h => zd (ze.l69 zbt.E C Q Y7 (s 0) (s 5) (s 6)) [(s 7), (s 8)] h) hR (fun s h hR => eK (eL hC [0, 5, 6] [7, 8] (on3 (ze.l69 zbt.E C Q Y7)) hR (fun Y8 s h hR => e1 hR)))) (fun s h hR => e1 hR)))) (fun s h hR => e1 hR)))))) (fun s h hR => eS hC (fun s h => zd (ze.l40 zbt.E C Q (s 0) (s 5)) [(.int .i64 0)] h) (eT hC (fun s h => zd (ze.l59 zbt.E C Q (s 0) (s 5)) [(s 9)] h) hR (fun s h hR => eK (eL hC [0, 5] [9] (on2 (ze.l59 zbt.E C Q)) hR (fun Y5 s h hR => eT hC (fun s h => zd (ze.l49 zbt.E C Q Y5 (s 0) (s 5) (s 9)) [(.int .i64 0)] h) hR (fun s h hR => eS hC (fun s h => B.pv (V.bin .add (s 9) (.int .i64 1)) fun v78 => Y5 [v78] h) (eK (eT hC (fun s h => zd (ze.l49 zbt.E C Q Y5 (s 0) (s 5) (s 9)) [(s 10)] h) hR (fun s h hR => eK (eL hC [0, 5, 9] [10] (on3 (ze.l49 zbt.E C Q Y5)) hR (fun Y6 s h hR => e1 hR))))) (fun s h hR => e1 hR)))))) (fun s h hR => eS hC (fun s h => zd (ze.l15 zbt.E C Q (s 0) (s 5)) [(.int .i64 0)] h) (eT hC (fun s h => zd (ze.l40 zbt.E C Q (s 0) (s 5)) [(s 11)] h) hR (fun s h hR => eK (eL hC [0, 5] [11] (on2 (ze.l40 zbt.E C Q)) hR (fun Y3 s h hR => eT hC (fun s h => 0 < 6 ∧ B.mks h 56 (some [.int .i64 0, .str [], .int .i64 0, .int .i64 0, .int .i64 0, .bool false]) (.int .i64 64) (.int .i64 64) fun v129 h => zd (ze.l26 zbt.E C Q Y3 (s 0) (s 5) (s 11) v129) [(.int .i64 0)] h) hR (fun s h hR => eS hC (fun s h => B.pv (V.bin .add (s 11) (.int .i64 1)) fun v128 => Y3 [v128] h) (eK (eT hC (fun s h => zd (ze.l26 zbt.E C Q Y3 (s 0) (s 5) (s 11) (s 12)) [(.int .i64 0)] h) hR (fun s h hR => eS hC (fun s h => ze.k22 zbt.E C Q Y3 (s 0) (s 5) (s 11) (s 12) h) (eT hC (fun s h => zd (ze.l26 zbt.E C Q Y3 (s 0) (s 5) (s 11) (s 12)) [(s 13)] h) hR (fun s h hR => eK (eL hC [0, 5, 11, 12] [13] (on4 (ze.l26 zbt.E C Q Y3)) hR (fun Y4 s h hR => e1 hR)))) (fun s h hR => e1 hR)))) (fun s h hR => e1 hR)))))) (fun s h hR => eS hC (fun s h => Q (.bool true) h) (eT hC (fun s h => zd (ze.l15 zbt.E C Q (s 0) (s 5)) [(s 14)] h) hR (fun s h hR => eK (eL hC [0, 5] [14] (on2 (ze.l15 zbt.E C Q)) hR (fun Y1 s h hR => eT hC (fun s h => zd (ze.l5 zbt.E C Q Y1 (s 0) (s 5) (s 14)) [(.int .i64 0)] h) hR (fun s h hR => eS hC (fun s h => B.pv (V.bin .add (s 14) (.int .i64 1)) fun v157 => Y1 [v157] h) (eK (eT hC (fun s h => zd (ze.l5 zbt.E C Q Y1 (s 0) (s 5) (s 14)) [(s 15)] h) hR (fun s h hR => eK (eL hC [0, 5, 14] [15] (on3 (ze.l5 zbt.E C Q Y1)) hR (fun Y2 s h hR => e1 hR))))) (fun s h hR => e1 hR)))))) (fun s h hR => e1 hR)))))))
theorem zbt.imp : zbt.Imp (AC P) N := fun v0 h Q hR => eF mixed (fn := Tryz.f54) (fun hC => zbt.L hC (dn Q) (zcl [v0]) h hR)
def zbf.I : Bx := ⟨[], [], 193, [(7, pz [(7, [3])] 10), (24, pz [(9, [3, 6]), (30, [24, 27])] 35), (41, pz [(9, [3, 6]), (22, [16, 19])] 26)]⟩
abbrev zbf.E : z5 := opsF 3 32 [.str [], .int .i64 0, .int .i64 0] (N 107) [.s, .i .i64, .i .i64]
theorem zbf.L : LkT P zbf.I Tryz.f55 fun C Q s h => zbf.cps C N (s 0) h Q := fun {C} hC Q s h hR => eT hC (fun s h => zd (ze.l103 zbf.E C Q (s 0)) [(.int .i64 0)] h) hR (fun s h hR => eS hC (fun s h => B.pv (V.zw (s 0)) fun v41 => 0 < 1 ∧ B.mks h 24 (some [.nils]) v41 v41 fun v42 h => zd (ze.l82 zbf.E C Q (s 0) v42) [(.int .i64 0)] h) (eT hC (fun s h => zd (ze.l103 zbf.E C Q (s 0)) [(s 3)] h) hR (fun s h hR => eK (eL hC [0] [3] (on1 (ze.l103 zbf.E C Q)) hR (fun Y9 s h hR => eT hC (fun s h => zd (ze.l93 zbf.E C Q Y9 (s 0) (s 3)) [(.int .i64 0)] h) hR (fun s h hR => eS hC (fun s h => B.pv (V.bin .add (s 3) (.int .i64 1)) fun v21 => Y9 [v21] h) (eK (eT hC (fun s h => zd (ze.l93 zbf.E C Q Y9 (s 0) (s 3)) [(s 4)] h) hR (fun s h hR => eK (eL hC [0, 3] [4] (on2 (ze.l93 zbf.E C Q Y9)) hR (fun Y10 s h hR => e1 hR))))) (fun s h hR => e1 hR)))))) (fun s h hR => eT hC (fun s h => zd (ze.l82 zbf.E C Q (s 0) (s 5)) [(.int .i64 0)] h) hR (fun s h hR => eS hC (fun s h => zd (ze.l59 zbf.E C Q (s 0) (s 5)) [(.int .i64 0)] h) (eT hC (fun s h => zd (ze.l82 zbf.E C Q (s 0) (s 5)) [(s 6)] h) hR (fun s h hR => eK (eL hC [0, 5] [6] (on2 (ze.l82 zbf.E C Q)) hR (fun Y7 s h hR => eT hC (fun s h => B.pv (V.idxS 1 (s 0) (s 6)) fun v51 => B.ld h v51 fun v52 => zd (ze.l69 zbf.E C Q Y7 (s 0) (s 5) (s 6)) [v52, (.int .i64 0)] h) hR (fun s h hR => eS hC (fun s h => B.pv (V.bin .add (s 6) (.int .i64 1)) fun v48 => Y7 [v48] h) (eK (eT hC (fun s h => zd (ze.l69 zbf.E C Q Y7 (s 0) (s 5) (s 6)) [(s 7), (.int .i64 0)] h) hR (fun s h hR => eS hC (fun s h => B.pv (V.idxS 1 (s 5) (s 6)) fun v72 => B.st h v72 (s 7) fun h => B.pv (V.bin .add (s 6) (.int .i64 1)) fun v48 => Y7 [v48] h) (eT hC (fun s h => zd (ze.l69 zbf.E C Q Y7 (s 0) (s 5) (s 6)) [(s 7), (s 8)] h) hR (fun s h hR => eK (eL hC [0, 5, 6] [7, 8] (on3 (ze.l69 zbf.E C Q Y7)) hR (fun Y8 s h hR => e1 hR)))) (fun s h hR => e1 hR)))) (fun s h hR => e1 hR)))))) (fun s h hR => eS hC (fun s h => zd (ze.l40 zbf.E C Q (s 0) (s 5)) [(.int .i64 0)] h) (eT hC (fun s h => zd (ze.l59 zbf.E C Q (s 0) (s 5)) [(s 9)] h) hR (fun s h hR => eK (eL hC [0, 5] [9] (on2 (ze.l59 zbf.E C Q)) hR (fun Y5 s h hR => eT hC (fun s h => zd (ze.l49 zbf.E C Q Y5 (s 0) (s 5) (s 9)) [(.int .i64 0)] h) hR (fun s h hR => eS hC (fun s h => B.pv (V.bin .add (s 9) (.int .i64 1)) fun v78 => Y5 [v78] h) (eK (eT hC (fun s h => zd (ze.l49 zbf.E C Q Y5 (s 0) (s 5) (s 9)) [(s 10)] h) hR (fun s h hR => eK (eL hC [0, 5, 9] [10] (on3 (ze.l49 zbf.E C Q Y5)) hR (fun Y6 s h hR => e1 hR))))) (fun s h hR => e1 hR)))))) (fun s h hR => eS hC (fun s h => zd (ze.l15 zbf.E C Q (s 0) (s 5)) [(.int .i64 0)] h) (eT hC (fun s h => zd (ze.l40 zbf.E C Q (s 0) (s 5)) [(s 11)] h) hR (fun s h hR => eK (eL hC [0, 5] [11] (on2 (ze.l40 zbf.E C Q)) hR (fun Y3 s h hR => eT hC (fun s h => 0 < 3 ∧ B.mks h 32 (some [.str [], .int .i64 0, .int .i64 0]) (.int .i64 64) (.int .i64 64) fun v129 h => zd (ze.l26 zbf.E C Q Y3 (s 0) (s 5) (s 11) v129) [(.int .i64 0)] h) hR (fun s h hR => eS hC (fun s h => B.pv (V.bin .add (s 11) (.int .i64 1)) fun v128 => Y3 [v128] h) (eK (eT hC (fun s h => zd (ze.l26 zbf.E C Q Y3 (s 0) (s 5) (s 11) (s 12)) [(.int .i64 0)] h) hR (fun s h hR => eS hC (fun s h => ze.k22 zbf.E C Q Y3 (s 0) (s 5) (s 11) (s 12) h) (eT hC (fun s h => zd (ze.l26 zbf.E C Q Y3 (s 0) (s 5) (s 11) (s 12)) [(s 13)] h) hR (fun s h hR => eK (eL hC [0, 5, 11, 12] [13] (on4 (ze.l26 zbf.E C Q Y3)) hR (fun Y4 s h hR => e1 hR)))) (fun s h hR => e1 hR)))) (fun s h hR => e1 hR)))))) (fun s h hR => eS hC (fun s h => Q (.bool true) h) (eT hC (fun s h => zd (ze.l15 zbf.E C Q (s 0) (s 5)) [(s 14)] h) hR (fun s h hR => eK (eL hC [0, 5] [14] (on2 (ze.l15 zbf.E C Q)) hR (fun Y1 s h hR => eT hC (fun s h => zd (ze.l5 zbf.E C Q Y1 (s 0) (s 5) (s 14)) [(.int .i64 0)] h) hR (fun s h hR => eS hC (fun s h => B.pv (V.bin .add (s 14) (.int .i64 1)) fun v157 => Y1 [v157] h) (eK (eT hC (fun s h => zd (ze.l5 zbf.E C Q Y1 (s 0) (s 5) (s 14)) [(s 15)] h) hR (fun s h hR => eK (eL hC [0, 5, 14] [15] (on3 (ze.l5 zbf.E C Q Y1)) hR (fun Y2 s h hR => e1 hR))))) (fun s h hR => e1 hR)))))) (fun s h hR => e1 hR)))))))
theorem zbf.imp : zbf.Imp (AC P) N := fun v0 h Q hR => eF mixed (fn := Tryz.f55) (fun hC => zbf.L hC (dn Q) (zcl [v0]) h hR)
def zbs.I : Bx := ⟨[], [], 193, [(7, pz [(7, [3])] 10), (24, pz [(9, [3, 6]), (30, [24, 27])] 35), (41, pz [(9, [3, 6]), (22, [16, 19])] 26)]⟩
abbrev zbs.E : z5 := opsF 3 24 [.int .i64 0, .int .i64 0, .int .i64 0] (N 78) [.i .i64, .i .i64, .i .i64]
theorem zbs.L : LkT P zbs.I Tryz.f56 fun C Q s h => zbs.cps C N (s 0) h Q := fun {C} hC Q s h hR => eT hC (fun s h => zd (ze.l103 zbs.E C Q (s 0)) [(.int .i64 0)] h) hR (fun s h hR => eS hC (fun s h => B.pv (V.zw (s 0)) fun v41 => 0 < 1 ∧ B.mks h 24 (some [.nils]) v41 v41 fun v42 h => zd (ze.l82 zbs.E C Q (s 0) v42) [(.int .i64 0)] h) (eT hC (fun s h => zd (ze.l103 zbs.E C Q (s 0)) [(s 3)] h) hR (fun s h hR => eK (eL hC [0] [3] (on1 (ze.l103 zbs.E C Q)) hR (fun Y9 s h hR => eT hC (fun s h => zd (ze.l93 zbs.E C Q Y9 (s 0) (s 3)) [(.int .i64 0)] h) hR (fun s h hR => eS hC (fun s h => B.pv (V.bin .add (s 3) (.int .i64 1)) fun v21 => Y9 [v21] h) (eK (eT hC (fun s h => zd (ze.l93 zbs.E C Q Y9 (s 0) (s 3)) [(s 4)] h) hR (fun s h hR => eK (eL hC [0, 3] [4] (on2 (ze.l93 zbs.E C Q Y9)) hR (fun Y10 s h hR => e1 hR))))) (fun s h hR => e1 hR)))))) (fun s h hR => eT hC (fun s h => zd (ze.l82 zbs.E C Q (s 0) (s 5)) [(.int .i64 0)] h) hR (fun s h hR => eS hC (fun s h => zd (ze.l59 zbs.E C Q (s 0) (s 5)) [(.int .i64 0)] h) (eT hC (fun s h => zd (ze.l82 zbs.E C Q (s 0) (s 5)) [(s 6)] h) hR (fun s h hR => eK (eL hC [0, 5] [6] (on2 (ze.l82 zbs.E C Q)) hR (fun Y7 s h hR => eT hC (fun s h => B.pv (V.idxS 1 (s 0) (s 6)) fun v51 => B.ld h v51 fun v52 => zd (ze.l69 zbs.E C Q Y7 (s 0) (s 5) (s 6)) [v52, (.int .i64 0)] h) hR (fun s h hR => eS hC (fun s h => B.pv (V.bin .add (s 6) (.int .i64 1)) fun v48 => Y7 [v48] h) (eK (eT hC (fun s h => zd (ze.l69 zbs.E C Q Y7 (s 0) (s 5) (s 6)) [(s 7), (.int .i64 0)] h) hR (fun s h hR => eS hC (fun s h => B.pv (V.idxS 1 (s 5) (s 6)) fun v72 => B.st h v72 (s 7) fun h => B.pv (V.bin .add (s 6) (.int .i64 1)) fun v48 => Y7 [v48] h) (eT hC (fun s h => zd (ze.l69 zbs.E C Q Y7 (s 0) (s 5) (s 6)) [(s 7), (s 8)] h) hR (fun s h hR => eK (eL hC [0, 5, 6] [7, 8] (on3 (ze.l69 zbs.E C Q Y7)) hR (fun Y8 s h hR => e1 hR)))) (fun s h hR => e1 hR)))) (fun s h hR => e1 hR)))))) (fun s h hR => eS hC (fun s h => zd (ze.l40 zbs.E C Q (s 0) (s 5)) [(.int .i64 0)] h) (eT hC (fun s h => zd (ze.l59 zbs.E C Q (s 0) (s 5)) [(s 9)] h) hR (fun s h hR => eK (eL hC [0, 5] [9] (on2 (ze.l59 zbs.E C Q)) hR (fun Y5 s h hR => eT hC (fun s h => zd (ze.l49 zbs.E C Q Y5 (s 0) (s 5) (s 9)) [(.int .i64 0)] h) hR (fun s h hR => eS hC (fun s h => B.pv (V.bin .add (s 9) (.int .i64 1)) fun v78 => Y5 [v78] h) (eK (eT hC (fun s h => zd (ze.l49 zbs.E C Q Y5 (s 0) (s 5) (s 9)) [(s 10)] h) hR (fun s h hR => eK (eL hC [0, 5, 9] [10] (on3 (ze.l49 zbs.E C Q Y5)) hR (fun Y6 s h hR => e1 hR))))) (fun s h hR => e1 hR)))))) (fun s h hR => eS hC (fun s h => zd (ze.l15 zbs.E C Q (s 0) (s 5)) [(.int .i64 0)] h) (eT hC (fun s h => zd (ze.l40 zbs.E C Q (s 0) (s 5)) [(s 11)] h) hR (fun s h hR => eK (eL hC [0, 5] [11] (on2 (ze.l40 zbs.E C Q)) hR (fun Y3 s h hR => eT hC (fun s h => 0 < 3 ∧ B.mks h 24 (some [.int .i64 0, .int .i64 0, .int .i64 0]) (.int .i64 64) (.int .i64 64) fun v129 h => zd (ze.l26 zbs.E C Q Y3 (s 0) (s 5) (s 11) v129) [(.int .i64 0)] h) hR (fun s h hR => eS hC (fun s h => B.pv (V.bin .add (s 11) (.int .i64 1)) fun v128 => Y3 [v128] h) (eK (eT hC (fun s h => zd (ze.l26 zbs.E C Q Y3 (s 0) (s 5) (s 11) (s 12)) [(.int .i64 0)] h) hR (fun s h hR => eS hC (fun s h => ze.k22 zbs.E C Q Y3 (s 0) (s 5) (s 11) (s 12) h) (eT hC (fun s h => zd (ze.l26 zbs.E C Q Y3 (s 0) (s 5) (s 11) (s 12)) [(s 13)] h) hR (fun s h hR => eK (eL hC [0, 5, 11, 12] [13] (on4 (ze.l26 zbs.E C Q Y3)) hR (fun Y4 s h hR => e1 hR)))) (fun s h hR => e1 hR)))) (fun s h hR => e1 hR)))))) (fun s h hR => eS hC (fun s h => Q (.bool true) h) (eT hC (fun s h => zd (ze.l15 zbs.E C Q (s 0) (s 5)) [(s 14)] h) hR (fun s h hR => eK (eL hC [0, 5] [14] (on2 (ze.l15 zbs.E C Q)) hR (fun Y1 s h hR => eT hC (fun s h => zd (ze.l5 zbs.E C Q Y1 (s 0) (s 5) (s 14)) [(.int .i64 0)] h) hR (fun s h hR => eS hC (fun s h => B.pv (V.bin .add (s 14) (.int .i64 1)) fun v157 => Y1 [v157] h) (eK (eT hC (fun s h => zd (ze.l5 zbs.E C Q Y1 (s 0) (s 5) (s 14)) [(s 15)] h) hR (fun s h hR => eK (eL hC [0, 5, 14] [15] (on3 (ze.l5 zbs.E C Q Y1)) hR (fun Y2 s h hR => e1 hR))))) (fun s h hR => e1 hR)))))) (fun s h hR => e1 hR)))))))
theorem zbs.imp : zbs.Imp (AC P) N := fun v0 h Q hR => eF mixed (fn := Tryz.f56) (fun hC => zbs.L hC (dn Q) (zcl [v0]) h hR)
def zbg.I : Bx := ⟨[], [], 193, [(7, pz [(7, [3])] 10), (24, pz [(9, [3, 6]), (30, [24, 27])] 35), (41, pz [(9, [3, 6]), (22, [16, 19])] 26)]⟩
abbrev zbg.E : z5 := opsF 2 24 [.str [], .int .i64 0] (N 108) [.s, .i .i64]
theorem zbg.L : LkT P zbg.I Tryz.f57 fun C Q s h => zbg.cps C N (s 0) h Q := fun {C} hC Q s h hR => eT hC (fun s h => zd (ze.l103 zbg.E C Q (s 0)) [(.int .i64 0)] h) hR (fun s h hR => eS hC (fun s h => B.pv (V.zw (s 0)) fun v41 => 0 < 1 ∧ B.mks h 24 (some [.nils]) v41 v41 fun v42 h => zd (ze.l82 zbg.E C Q (s 0) v42) [(.int .i64 0)] h) (eT hC (fun s h => zd (ze.l103 zbg.E C Q (s 0)) [(s 3)] h) hR (fun s h hR => eK (eL hC [0] [3] (on1 (ze.l103 zbg.E C Q)) hR (fun Y9 s h hR => eT hC (fun s h => zd (ze.l93 zbg.E C Q Y9 (s 0) (s 3)) [(.int .i64 0)] h) hR (fun s h hR => eS hC (fun s h => B.pv (V.bin .add (s 3) (.int .i64 1)) fun v21 => Y9 [v21] h) (eK (eT hC (fun s h => zd (ze.l93 zbg.E C Q Y9 (s 0) (s 3)) [(s 4)] h) hR (fun s h hR => eK (eL hC [0, 3] [4] (on2 (ze.l93 zbg.E C Q Y9)) hR (fun Y10 s h hR => e1 hR))))) (fun s h hR => e1 hR)))))) (fun s h hR => eT hC (fun s h => zd (ze.l82 zbg.E C Q (s 0) (s 5)) [(.int .i64 0)] h) hR (fun s h hR => eS hC (fun s h => zd (ze.l59 zbg.E C Q (s 0) (s 5)) [(.int .i64 0)] h) (eT hC (fun s h => zd (ze.l82 zbg.E C Q (s 0) (s 5)) [(s 6)] h) hR (fun s h hR => eK (eL hC [0, 5] [6] (on2 (ze.l82 zbg.E C Q)) hR (fun Y7 s h hR => eT hC (fun s h => B.pv (V.idxS 1 (s 0) (s 6)) fun v51 => B.ld h v51 fun v52 => zd (ze.l69 zbg.E C Q Y7 (s 0) (s 5) (s 6)) [v52, (.int .i64 0)] h) hR (fun s h hR => eS hC (fun s h => B.pv (V.bin .add (s 6) (.int .i64 1)) fun v48 => Y7 [v48] h) (eK (eT hC (fun s h => zd (ze.l69 zbg.E C Q Y7 (s 0) (s 5) (s 6)) [(s 7), (.int .i64 0)] h) hR (fun s h hR => eS hC (fun s h => B.pv (V.idxS 1 (s 5) (s 6)) fun v72 => B.st h v72 (s 7) fun h => B.pv (V.bin .add (s 6) (.int .i64 1)) fun v48 => Y7 [v48] h) (eT hC (fun s h => zd (ze.l69 zbg.E C Q Y7 (s 0) (s 5) (s 6)) [(s 7), (s 8)] h) hR (fun s h hR => eK (eL hC [0, 5, 6] [7, 8] (on3 (ze.l69 zbg.E C Q Y7)) hR (fun Y8 s h hR => e1 hR)))) (fun s h hR => e1 hR)))) (fun s h hR => e1 hR)))))) (fun s h hR => eS hC (fun s h => zd (ze.l40 zbg.E C Q (s 0) (s 5)) [(.int .i64 0)] h) (eT hC (fun s h => zd (ze.l59 zbg.E C Q (s 0) (s 5)) [(s 9)] h) hR (fun s h hR => eK (eL hC [0, 5] [9] (on2 (ze.l59 zbg.E C Q)) hR (fun Y5 s h hR => eT hC (fun s h => zd (ze.l49 zbg.E C Q Y5 (s 0) (s 5) (s 9)) [(.int .i64 0)] h) hR (fun s h hR => eS hC (fun s h => B.pv (V.bin .add (s 9) (.int .i64 1)) fun v78 => Y5 [v78] h) (eK (eT hC (fun s h => zd (ze.l49 zbg.E C Q Y5 (s 0) (s 5) (s 9)) [(s 10)] h) hR (fun s h hR => eK (eL hC [0, 5, 9] [10] (on3 (ze.l49 zbg.E C Q Y5)) hR (fun Y6 s h hR => e1 hR))))) (fun s h hR => e1 hR)))))) (fun s h hR => eS hC (fun s h => zd (ze.l15 zbg.E C Q (s 0) (s 5)) [(.int .i64 0)] h) (eT hC (fun s h => zd (ze.l40 zbg.E C Q (s 0) (s 5)) [(s 11)] h) hR (fun s h hR => eK (eL hC [0, 5] [11] (on2 (ze.l40 zbg.E C Q)) hR (fun Y3 s h hR => eT hC (fun s h => 0 < 2 ∧ B.mks h 24 (some [.str [], .int .i64 0]) (.int .i64 64) (.int .i64 64) fun v129 h => zd (ze.l26 zbg.E C Q Y3 (s 0) (s 5) (s 11) v129) [(.int .i64 0)] h) hR (fun s h hR => eS hC (fun s h => B.pv (V.bin .add (s 11) (.int .i64 1)) fun v128 => Y3 [v128] h) (eK (eT hC (fun s h => zd (ze.l26 zbg.E C Q Y3 (s 0) (s 5) (s 11) (s 12)) [(.int .i64 0)] h) hR (fun s h hR => eS hC (fun s h => ze.k22 zbg.E C Q Y3 (s 0) (s 5) (s 11) (s 12) h) (eT hC (fun s h => zd (ze.l26 zbg.E C Q Y3 (s 0) (s 5) (s 11) (s 12)) [(s 13)] h) hR (fun s h hR => eK (eL hC [0, 5, 11, 12] [13] (on4 (ze.l26 zbg.E C Q Y3)) hR (fun Y4 s h hR => e1 hR)))) (fun s h hR => e1 hR)))) (fun s h hR => e1 hR)))))) (fun s h hR => eS hC (fun s h => Q (.bool true) h) (eT hC (fun s h => zd (ze.l15 zbg.E C Q (s 0) (s 5)) [(s 14)] h) hR (fun s h hR => eK (eL hC [0, 5] [14] (on2 (ze.l15 zbg.E C Q)) hR (fun Y1 s h hR => eT hC (fun s h => zd (ze.l5 zbg.E C Q Y1 (s 0) (s 5) (s 14)) [(.int .i64 0)] h) hR (fun s h hR => eS hC (fun s h => B.pv (V.bin .add (s 14) (.int .i64 1)) fun v157 => Y1 [v157] h) (eK (eT hC (fun s h => zd (ze.l5 zbg.E C Q Y1 (s 0) (s 5) (s 14)) [(s 15)] h) hR (fun s h hR => eK (eL hC [0, 5, 14] [15] (on3 (ze.l5 zbg.E C Q Y1)) hR (fun Y2 s h hR => e1 hR))))) (fun s h hR => e1 hR)))))) (fun s h hR => e1 hR)))))))
theorem zbg.imp : zbg.Imp (AC P) N := fun v0 h Q hR => eF mixed (fn := Tryz.f57) (fun hC => zbg.L hC (dn Q) (zcl [v0]) h hR)
def zbd.I : Bx := ⟨[], [], 193, [(7, pz [(7, [3])] 10), (24, pz [(9, [3, 6]), (30, [24, 27])] 35), (41, pz [(9, [3, 6]), (22, [16, 19])] 26)]⟩
abbrev zbd.E (C : CSem) : z5 := opsD C 4 72 [.str [], .int .i64 0, .nils, .nils] (N 109) (N 110)
theorem zbd.L : LkT P zbd.I Tryz.f58 fun C Q s h => zbd.cps C N (s 0) h Q := fun {C} hC Q s h hR => eT hC (fun s h => zd (ze.l103 (zbd.E C) C Q (s 0)) [(.int .i64 0)] h) hR (fun s h hR => eS hC (fun s h => B.pv (V.zw (s 0)) fun v41 => 0 < 1 ∧ B.mks h 24 (some [.nils]) v41 v41 fun v42 h => zd (ze.l82 (zbd.E C) C Q (s 0) v42) [(.int .i64 0)] h) (eT hC (fun s h => zd (ze.l103 (zbd.E C) C Q (s 0)) [(s 3)] h) hR (fun s h hR => eK (eL hC [0] [3] (on1 (ze.l103 (zbd.E C) C Q)) hR (fun Y9 s h hR => eT hC (fun s h => zd (ze.l93 (zbd.E C) C Q Y9 (s 0) (s 3)) [(.int .i64 0)] h) hR (fun s h hR => eS hC (fun s h => B.pv (V.bin .add (s 3) (.int .i64 1)) fun v21 => Y9 [v21] h) (eK (eT hC (fun s h => zd (ze.l93 (zbd.E C) C Q Y9 (s 0) (s 3)) [(s 4)] h) hR (fun s h hR => eK (eL hC [0, 3] [4] (on2 (ze.l93 (zbd.E C) C Q Y9)) hR (fun Y10 s h hR => e1 hR))))) (fun s h hR => e1 hR)))))) (fun s h hR => eT hC (fun s h => zd (ze.l82 (zbd.E C) C Q (s 0) (s 5)) [(.int .i64 0)] h) hR (fun s h hR => eS hC (fun s h => zd (ze.l59 (zbd.E C) C Q (s 0) (s 5)) [(.int .i64 0)] h) (eT hC (fun s h => zd (ze.l82 (zbd.E C) C Q (s 0) (s 5)) [(s 6)] h) hR (fun s h hR => eK (eL hC [0, 5] [6] (on2 (ze.l82 (zbd.E C) C Q)) hR (fun Y7 s h hR => eT hC (fun s h => B.pv (V.idxS 1 (s 0) (s 6)) fun v51 => B.ld h v51 fun v52 => zd (ze.l69 (zbd.E C) C Q Y7 (s 0) (s 5) (s 6)) [v52, (.int .i64 0)] h) hR (fun s h hR => eS hC (fun s h => B.pv (V.bin .add (s 6) (.int .i64 1)) fun v48 => Y7 [v48] h) (eK (eT hC (fun s h => zd (ze.l69 (zbd.E C) C Q Y7 (s 0) (s 5) (s 6)) [(s 7), (.int .i64 0)] h) hR (fun s h hR => eS hC (fun s h => B.pv (V.idxS 1 (s 5) (s 6)) fun v72 => B.st h v72 (s 7) fun h => B.pv (V.bin .add (s 6) (.int .i64 1)) fun v48 => Y7 [v48] h) (eT hC (fun s h => zd (ze.l69 (zbd.E C) C Q Y7 (s 0) (s 5) (s 6)) [(s 7), (s 8)] h) hR (fun s h hR => eK (eL hC [0, 5, 6] [7, 8] (on3 (ze.l69 (zbd.E C) C Q Y7)) hR (fun Y8 s h hR => e1 hR)))) (fun s h hR => e1 hR)))) (fun s h hR => e1 hR)))))) (fun s h hR => eS hC (fun s h => zd (ze.l40 (zbd.E C) C Q (s 0) (s 5)) [(.int .i64 0)] h) (eT hC (fun s h => zd (ze.l59 (zbd.E C) C Q (s 0) (s 5)) [(s 9)] h) hR (fun s h hR => eK (eL hC [0, 5] [9] (on2 (ze.l59 (zbd.E C) C Q)) hR (fun Y5 s h hR => eT hC (fun s h => zd (ze.l49 (zbd.E C) C Q Y5 (s 0) (s 5) (s 9)) [(.int .i64 0)] h) hR (fun s h hR => eS hC (fun s h => B.pv (V.bin .add (s 9) (.int .i64 1)) fun v78 => Y5 [v78] h) (eK (eT hC (fun s h => zd (ze.l49 (zbd.E C) C Q Y5 (s 0) (s 5) (s 9)) [(s 10)] h) hR (fun s h hR => eK (eL hC [0, 5, 9] [10] (on3 (ze.l49 (zbd.E C) C Q Y5)) hR (fun Y6 s h hR => e1 hR))))) (fun s h hR => e1 hR)))))) (fun s h hR => eS hC (fun s h => zd (ze.l15 (zbd.E C) C Q (s 0) (s 5)) [(.int .i64 0)] h) (eT hC (fun s h => zd (ze.l40 (zbd.E C) C Q (s 0) (s 5)) [(s 11)] h) hR (fun s h hR => eK (eL hC [0, 5] [11] (on2 (ze.l40 (zbd.E C) C Q)) hR (fun Y3 s h hR => eT hC (fun s h => 0 < 4 ∧ B.mks h 72 (some [.str [], .int .i64 0, .nils, .nils]) (.int .i64 64) (.int .i64 64) fun v129 h => zd (ze.l26 (zbd.E C) C Q Y3 (s 0) (s 5) (s 11) v129) [(.int .i64 0)] h) hR (fun s h hR => eS hC (fun s h => B.pv (V.bin .add (s 11) (.int .i64 1)) fun v128 => Y3 [v128] h) (eK (eT hC (fun s h => zd (ze.l26 (zbd.E C) C Q Y3 (s 0) (s 5) (s 11) (s 12)) [(.int .i64 0)] h) hR (fun s h hR => eS hC (fun s h => ze.k22 (zbd.E C) C Q Y3 (s 0) (s 5) (s 11) (s 12) h) (eT hC (fun s h => zd (ze.l26 (zbd.E C) C Q Y3 (s 0) (s 5) (s 11) (s 12)) [(s 13)] h) hR (fun s h hR => eK (eL hC [0, 5, 11, 12] [13] (on4 (ze.l26 (zbd.E C) C Q Y3)) hR (fun Y4 s h hR => e1 hR)))) (fun s h hR => e1 hR)))) (fun s h hR => e1 hR)))))) (fun s h hR => eS hC (fun s h => Q (.bool true) h) (eT hC (fun s h => zd (ze.l15 (zbd.E C) C Q (s 0) (s 5)) [(s 14)] h) hR (fun s h hR => eK (eL hC [0, 5] [14] (on2 (ze.l15 (zbd.E C) C Q)) hR (fun Y1 s h hR => eT hC (fun s h => zd (ze.l5 (zbd.E C) C Q Y1 (s 0) (s 5) (s 14)) [(.int .i64 0)] h) hR (fun s h hR => eS hC (fun s h => B.pv (V.bin .add (s 14) (.int .i64 1)) fun v157 => Y1 [v157] h) (eK (eT hC (fun s h => zd (ze.l5 (zbd.E C) C Q Y1 (s 0) (s 5) (s 14)) [(s 15)] h) hR (fun s h hR => eK (eL hC [0, 5, 14] [15] (on3 (ze.l5 (zbd.E C) C Q Y1)) hR (fun Y2 s h hR => e1 hR))))) (fun s h hR => e1 hR)))))) (fun s h hR => e1 hR)))))))
theorem zbd.imp : zbd.Imp (AC P) N := fun v0 h Q hR => eF mixed (fn := Tryz.f58) (fun hC => zbd.L hC (dn Q) (zcl [v0]) h hR)
def zbh.I : Bx := ⟨[], [], 193, [(7, pz [(7, [3])] 10), (24, pz [(9, [3, 6]), (30, [24, 27])] 35), (41, pz [(9, [3, 6]), (22, [16, 19])] 26)]⟩
abbrev zbh.E : z5 := opsF 8 80 [.int .i64 0, .str [], .int .i64 0, .int .i64 0, .int .i64 0, .int .u8 0, .int .i64 0, .str []] (N 111) [.i .i64, .s, .i .i64, .i .i64, .i .i64, .i .u8, .i .i64, .s]
theorem zbh.L : LkT P zbh.I Tryz.f59 fun C Q s h => zbh.cps C N (s 0) h Q := fun {C} hC Q s h hR => eT hC (fun s h => zd (ze.l103 zbh.E C Q (s 0)) [(.int .i64 0)] h) hR (fun s h hR => eS hC (fun s h => B.pv (V.zw (s 0)) fun v41 => 0 < 1 ∧ B.mks h 24 (some [.nils]) v41 v41 fun v42 h => zd (ze.l82 zbh.E C Q (s 0) v42) [(.int .i64 0)] h) (eT hC (fun s h => zd (ze.l103 zbh.E C Q (s 0)) [(s 3)] h) hR (fun s h hR => eK (eL hC [0] [3] (on1 (ze.l103 zbh.E C Q)) hR (fun Y9 s h hR => eT hC (fun s h => zd (ze.l93 zbh.E C Q Y9 (s 0) (s 3)) [(.int .i64 0)] h) hR (fun s h hR => eS hC (fun s h => B.pv (V.bin .add (s 3) (.int .i64 1)) fun v21 => Y9 [v21] h) (eK (eT hC (fun s h => zd (ze.l93 zbh.E C Q Y9 (s 0) (s 3)) [(s 4)] h) hR (fun s h hR => eK (eL hC [0, 3] [4] (on2 (ze.l93 zbh.E C Q Y9)) hR (fun Y10 s h hR => e1 hR))))) (fun s h hR => e1 hR)))))) (fun s h hR => eT hC (fun s h => zd (ze.l82 zbh.E C Q (s 0) (s 5)) [(.int .i64 0)] h) hR (fun s h hR => eS hC (fun s h => zd (ze.l59 zbh.E C Q (s 0) (s 5)) [(.int .i64 0)] h) (eT hC (fun s h => zd (ze.l82 zbh.E C Q (s 0) (s 5)) [(s 6)] h) hR (fun s h hR => eK (eL hC [0, 5] [6] (on2 (ze.l82 zbh.E C Q)) hR (fun Y7 s h hR => eT hC (fun s h => B.pv (V.idxS 1 (s 0) (s 6)) fun v51 => B.ld h v51 fun v52 => zd (ze.l69 zbh.E C Q Y7 (s 0) (s 5) (s 6)) [v52, (.int .i64 0)] h) hR (fun s h hR => eS hC (fun s h => B.pv (V.bin .add (s 6) (.int .i64 1)) fun v48 => Y7 [v48] h) (eK (eT hC (fun s h => zd (ze.l69 zbh.E C Q Y7 (s 0) (s 5) (s 6)) [(s 7), (.int .i64 0)] h) hR (fun s h hR => eS hC (fun s h => B.pv (V.idxS 1 (s 5) (s 6)) fun v72 => B.st h v72 (s 7) fun h => B.pv (V.bin .add (s 6) (.int .i64 1)) fun v48 => Y7 [v48] h) (eT hC (fun s h => zd (ze.l69 zbh.E C Q Y7 (s 0) (s 5) (s 6)) [(s 7), (s 8)] h) hR (fun s h hR => eK (eL hC [0, 5, 6] [7, 8] (on3 (ze.l69 zbh.E C Q Y7)) hR (fun Y8 s h hR => e1 hR)))) (fun s h hR => e1 hR)))) (fun s h hR => e1 hR)))))) (fun s h hR => eS hC (fun s h => zd (ze.l40 zbh.E C Q (s 0) (s 5)) [(.int .i64 0)] h) (eT hC (fun s h => zd (ze.l59 zbh.E C Q (s 0) (s 5)) [(s 9)] h) hR (fun s h hR => eK (eL hC [0, 5] [9] (on2 (ze.l59 zbh.E C Q)) hR (fun Y5 s h hR => eT hC (fun s h => zd (ze.l49 zbh.E C Q Y5 (s 0) (s 5) (s 9)) [(.int .i64 0)] h) hR (fun s h hR => eS hC (fun s h => B.pv (V.bin .add (s 9) (.int .i64 1)) fun v78 => Y5 [v78] h) (eK (eT hC (fun s h => zd (ze.l49 zbh.E C Q Y5 (s 0) (s 5) (s 9)) [(s 10)] h) hR (fun s h hR => eK (eL hC [0, 5, 9] [10] (on3 (ze.l49 zbh.E C Q Y5)) hR (fun Y6 s h hR => e1 hR))))) (fun s h hR => e1 hR)))))) (fun s h hR => eS hC (fun s h => zd (ze.l15 zbh.E C Q (s 0) (s 5)) [(.int .i64 0)] h) (eT hC (fun s h => zd (ze.l40 zbh.E C Q (s 0) (s 5)) [(s 11)] h) hR (fun s h hR => eK (eL hC [0, 5] [11] (on2 (ze.l40 zbh.E C Q)) hR (fun Y3 s h hR => eT hC (fun s h => 0 < 8 ∧ B.mks h 80 (some [.int .i64 0, .str [], .int .i64 0, .int .i64 0, .int .i64 0, .int .u8 0, .int .i64 0, .str []]) (.int .i64 64) (.int .i64 64) fun v129 h => zd (ze.l26 zbh.E C Q Y3 (s 0) (s 5) (s 11) v129) [(.int .i64 0)] h) hR (fun s h hR => eS hC (fun s h => B.pv (V.bin .add (s 11) (.int .i64 1)) fun v128 => Y3 [v128] h) (eK (eT hC (fun s h => zd (ze.l26 zbh.E C Q Y3 (s 0) (s 5) (s 11) (s 12)) [(.int .i64 0)] h) hR (fun s h hR => eS hC (fun s h => ze.k22 zbh.E C Q Y3 (s 0) (s 5) (s 11) (s 12) h) (eT hC (fun s h => zd (ze.l26 zbh.E C Q Y3 (s 0) (s 5) (s 11) (s 12)) [(s 13)] h) hR (fun s h hR => eK (eL hC [0, 5, 11, 12] [13] (on4 (ze.l26 zbh.E C Q Y3)) hR (fun Y4 s h hR => e1 hR)))) (fun s h hR => e1 hR)))) (fun s h hR => e1 hR)))))) (fun s h hR => eS hC (fun s h => Q (.bool true) h) (eT hC (fun s h => zd (ze.l15 zbh.E C Q (s 0) (s 5)) [(s 14)] h) hR (fun s h hR => eK (eL hC [0, 5] [14] (on2 (ze.l15 zbh.E C Q)) hR (fun Y1 s h hR => eT hC (fun s h => zd (ze.l5 zbh.E C Q Y1 (s 0) (s 5) (s 14)) [(.int .i64 0)] h) hR (fun s h hR => eS hC (fun s h => B.pv (V.bin .add (s 14) (.int .i64 1)) fun v157 => Y1 [v157] h) (eK (eT hC (fun s h => zd (ze.l5 zbh.E C Q Y1 (s 0) (s 5) (s 14)) [(s 15)] h) hR (fun s h hR => eK (eL hC [0, 5, 14] [15] (on3 (ze.l5 zbh.E C Q Y1)) hR (fun Y2 s h hR => e1 hR))))) (fun s h hR => e1 hR)))))) (fun s h hR => e1 hR)))))))
theorem zbh.imp : zbh.Imp (AC P) N := fun v0 h Q hR => eF mixed (fn := Tryz.f59) (fun hC => zbh.L hC (dn Q) (zcl [v0]) h hR)
def zbp.I : Bx := ⟨[], [], 193, [(7, pz [(7, [3])] 10), (24, pz [(9, [3, 6]), (30, [24, 27])] 35), (41, pz [(9, [3, 6]), (22, [16, 19])] 26)]⟩
abbrev zbp.E (C : CSem) : z5 := opsD C 11 128 [.int .u8 0, .int .i64 0, .str [], .int .i64 0, .int .i64 0, .int .i64 0, .int .i64 0, .int .i64 0, .int .i64 0, .nils, .nils] (N 112) (N 113)
theorem zbp.L : LkT P zbp.I Tryz.f60 fun C Q s h => zbp.cps C N (s 0) h Q := fun {C} hC Q s h hR => eT hC (fun s h => zd (ze.l103 (zbp.E C) C Q (s 0)) [(.int .i64 0)] h) hR (fun s h hR => eS hC (fun s h => B.pv (V.zw (s 0)) fun v41 => 0 < 1 ∧ B.mks h 24 (some [.nils]) v41 v41 fun v42 h => zd (ze.l82 (zbp.E C) C Q (s 0) v42) [(.int .i64 0)] h) (eT hC (fun s h => zd (ze.l103 (zbp.E C) C Q (s 0)) [(s 3)] h) hR (fun s h hR => eK (eL hC [0] [3] (on1 (ze.l103 (zbp.E C) C Q)) hR (fun Y9 s h hR => eT hC (fun s h => zd (ze.l93 (zbp.E C) C Q Y9 (s 0) (s 3)) [(.int .i64 0)] h) hR (fun s h hR => eS hC (fun s h => B.pv (V.bin .add (s 3) (.int .i64 1)) fun v21 => Y9 [v21] h) (eK (eT hC (fun s h => zd (ze.l93 (zbp.E C) C Q Y9 (s 0) (s 3)) [(s 4)] h) hR (fun s h hR => eK (eL hC [0, 3] [4] (on2 (ze.l93 (zbp.E C) C Q Y9)) hR (fun Y10 s h hR => e1 hR))))) (fun s h hR => e1 hR)))))) (fun s h hR => eT hC (fun s h => zd (ze.l82 (zbp.E C) C Q (s 0) (s 5)) [(.int .i64 0)] h) hR (fun s h hR => eS hC (fun s h => zd (ze.l59 (zbp.E C) C Q (s 0) (s 5)) [(.int .i64 0)] h) (eT hC (fun s h => zd (ze.l82 (zbp.E C) C Q (s 0) (s 5)) [(s 6)] h) hR (fun s h hR => eK (eL hC [0, 5] [6] (on2 (ze.l82 (zbp.E C) C Q)) hR (fun Y7 s h hR => eT hC (fun s h => B.pv (V.idxS 1 (s 0) (s 6)) fun v51 => B.ld h v51 fun v52 => zd (ze.l69 (zbp.E C) C Q Y7 (s 0) (s 5) (s 6)) [v52, (.int .i64 0)] h) hR (fun s h hR => eS hC (fun s h => B.pv (V.bin .add (s 6) (.int .i64 1)) fun v48 => Y7 [v48] h) (eK (eT hC (fun s h => zd (ze.l69 (zbp.E C) C Q Y7 (s 0) (s 5) (s 6)) [(s 7), (.int .i64 0)] h) hR (fun s h hR => eS hC (fun s h => B.pv (V.idxS 1 (s 5) (s 6)) fun v72 => B.st h v72 (s 7) fun h => B.pv (V.bin .add (s 6) (.int .i64 1)) fun v48 => Y7 [v48] h) (eT hC (fun s h => zd (ze.l69 (zbp.E C) C Q Y7 (s 0) (s 5) (s 6)) [(s 7), (s 8)] h) hR (fun s h hR => eK (eL hC [0, 5, 6] [7, 8] (on3 (ze.l69 (zbp.E C) C Q Y7)) hR (fun Y8 s h hR => e1 hR)))) (fun s h hR => e1 hR)))) (fun s h hR => e1 hR)))))) (fun s h hR => eS hC (fun s h => zd (ze.l40 (zbp.E C) C Q (s 0) (s 5)) [(.int .i64 0)] h) (eT hC (fun s h => zd (ze.l59 (zbp.E C) C Q (s 0) (s 5)) [(s 9)] h) hR (fun s h hR => eK (eL hC [0, 5] [9] (on2 (ze.l59 (zbp.E C) C Q)) hR (fun Y5 s h hR => eT hC (fun s h => zd (ze.l49 (zbp.E C) C Q Y5 (s 0) (s 5) (s 9)) [(.int .i64 0)] h) hR (fun s h hR => eS hC (fun s h => B.pv (V.bin .add (s 9) (.int .i64 1)) fun v78 => Y5 [v78] h) (eK (eT hC (fun s h => zd (ze.l49 (zbp.E C) C Q Y5 (s 0) (s 5) (s 9)) [(s 10)] h) hR (fun s h hR => eK (eL hC [0, 5, 9] [10] (on3 (ze.l49 (zbp.E C) C Q Y5)) hR (fun Y6 s h hR => e1 hR))))) (fun s h hR => e1 hR)))))) (fun s h hR => eS hC (fun s h => zd (ze.l15 (zbp.E C) C Q (s 0) (s 5)) [(.int .i64 0)] h) (eT hC (fun s h => zd (ze.l40 (zbp.E C) C Q (s 0) (s 5)) [(s 11)] h) hR (fun s h hR => eK (eL hC [0, 5] [11] (on2 (ze.l40 (zbp.E C) C Q)) hR (fun Y3 s h hR => eT hC (fun s h => 0 < 11 ∧ B.mks h 128 (some [.int .u8 0, .int .i64 0, .str [], .int .i64 0, .int .i64 0, .int .i64 0, .int .i64 0, .int .i64 0, .int .i64 0, .nils, .nils]) (.int .i64 64) (.int .i64 64) fun v129 h => zd (ze.l26 (zbp.E C) C Q Y3 (s 0) (s 5) (s 11) v129) [(.int .i64 0)] h) hR (fun s h hR => eS hC (fun s h => B.pv (V.bin .add (s 11) (.int .i64 1)) fun v128 => Y3 [v128] h) (eK (eT hC (fun s h => zd (ze.l26 (zbp.E C) C Q Y3 (s 0) (s 5) (s 11) (s 12)) [(.int .i64 0)] h) hR (fun s h hR => eS hC (fun s h => ze.k22 (zbp.E C) C Q Y3 (s 0) (s 5) (s 11) (s 12) h) (eT hC (fun s h => zd (ze.l26 (zbp.E C) C Q Y3 (s 0) (s 5) (s 11) (s 12)) [(s 13)] h) hR (fun s h hR => eK (eL hC [0, 5, 11, 12] [13] (on4 (ze.l26 (zbp.E C) C Q Y3)) hR (fun Y4 s h hR => e1 hR)))) (fun s h hR => e1 hR)))) (fun s h hR => e1 hR)))))) (fun s h hR => eS hC (fun s h => Q (.bool true) h) (eT hC (fun s h => zd (ze.l15 (zbp.E C) C Q (s 0) (s 5)) [(s 14)] h) hR (fun s h hR => eK (eL hC [0, 5] [14] (on2 (ze.l15 (zbp.E C) C Q)) hR (fun Y1 s h hR => eT hC (fun s h => zd (ze.l5 (zbp.E C) C Q Y1 (s 0) (s 5) (s 14)) [(.int .i64 0)] h) hR (fun s h hR => eS hC (fun s h => B.pv (V.bin .add (s 14) (.int .i64 1)) fun v157 => Y1 [v157] h) (eK (eT hC (fun s h => zd (ze.l5 (zbp.E C) C Q Y1 (s 0) (s 5) (s 14)) [(s 15)] h) hR (fun s h hR => eK (eL hC [0, 5, 14] [15] (on3 (ze.l5 (zbp.E C) C Q Y1)) hR (fun Y2 s h hR => e1 hR))))) (fun s h hR => e1 hR)))))) (fun s h hR => e1 hR)))))))
theorem zbp.imp : zbp.Imp (AC P) N := fun v0 h Q hR => eF mixed (fn := Tryz.f60) (fun hC => zbp.L hC (dn Q) (zcl [v0]) h hR)
def z9.I : Bx := ⟨[], [], 193, [(7, pz [(7, [3])] 10), (24, pz [(9, [3, 6]), (30, [24, 27])] 35), (41, pz [(9, [3, 6]), (22, [16, 19])] 26)]⟩
abbrev z9.E (C : CSem) : z5 := opsD C 7 96 [.int .i64 0, .int .i64 0, .int .i64 0, .str [], .int .u8 0, .nils, .nils] (N 114) (N 42)
theorem z9.L : LkT P z9.I Tryz.f61 fun C Q s h => z9.cps C N (s 0) h Q := fun {C} hC Q s h hR => eT hC (fun s h => zd (ze.l103 (z9.E C) C Q (s 0)) [(.int .i64 0)] h) hR (fun s h hR => eS hC (fun s h => B.pv (V.zw (s 0)) fun v41 => 0 < 1 ∧ B.mks h 24 (some [.nils]) v41 v41 fun v42 h => zd (ze.l82 (z9.E C) C Q (s 0) v42) [(.int .i64 0)] h) (eT hC (fun s h => zd (ze.l103 (z9.E C) C Q (s 0)) [(s 3)] h) hR (fun s h hR => eK (eL hC [0] [3] (on1 (ze.l103 (z9.E C) C Q)) hR (fun Y9 s h hR => eT hC (fun s h => zd (ze.l93 (z9.E C) C Q Y9 (s 0) (s 3)) [(.int .i64 0)] h) hR (fun s h hR => eS hC (fun s h => B.pv (V.bin .add (s 3) (.int .i64 1)) fun v21 => Y9 [v21] h) (eK (eT hC (fun s h => zd (ze.l93 (z9.E C) C Q Y9 (s 0) (s 3)) [(s 4)] h) hR (fun s h hR => eK (eL hC [0, 3] [4] (on2 (ze.l93 (z9.E C) C Q Y9)) hR (fun Y10 s h hR => e1 hR))))) (fun s h hR => e1 hR)))))) (fun s h hR => eT hC (fun s h => zd (ze.l82 (z9.E C) C Q (s 0) (s 5)) [(.int .i64 0)] h) hR (fun s h hR => eS hC (fun s h => zd (ze.l59 (z9.E C) C Q (s 0) (s 5)) [(.int .i64 0)] h) (eT hC (fun s h => zd (ze.l82 (z9.E C) C Q (s 0) (s 5)) [(s 6)] h) hR (fun s h hR => eK (eL hC [0, 5] [6] (on2 (ze.l82 (z9.E C) C Q)) hR (fun Y7 s h hR => eT hC (fun s h => B.pv (V.idxS 1 (s 0) (s 6)) fun v51 => B.ld h v51 fun v52 => zd (ze.l69 (z9.E C) C Q Y7 (s 0) (s 5) (s 6)) [v52, (.int .i64 0)] h) hR (fun s h hR => eS hC (fun s h => B.pv (V.bin .add (s 6) (.int .i64 1)) fun v48 => Y7 [v48] h) (eK (eT hC (fun s h => zd (ze.l69 (z9.E C) C Q Y7 (s 0) (s 5) (s 6)) [(s 7), (.int .i64 0)] h) hR (fun s h hR => eS hC (fun s h => B.pv (V.idxS 1 (s 5) (s 6)) fun v72 => B.st h v72 (s 7) fun h => B.pv (V.bin .add (s 6) (.int .i64 1)) fun v48 => Y7 [v48] h) (eT hC (fun s h => zd (ze.l69 (z9.E C) C Q Y7 (s 0) (s 5) (s 6)) [(s 7), (s 8)] h) hR (fun s h hR => eK (eL hC [0, 5, 6] [7, 8] (on3 (ze.l69 (z9.E C) C Q Y7)) hR (fun Y8 s h hR => e1 hR)))) (fun s h hR => e1 hR)))) (fun s h hR => e1 hR)))))) (fun s h hR => eS hC (fun s h => zd (ze.l40 (z9.E C) C Q (s 0) (s 5)) [(.int .i64 0)] h) (eT hC (fun s h => zd (ze.l59 (z9.E C) C Q (s 0) (s 5)) [(s 9)] h) hR (fun s h hR => eK (eL hC [0, 5] [9] (on2 (ze.l59 (z9.E C) C Q)) hR (fun Y5 s h hR => eT hC (fun s h => zd (ze.l49 (z9.E C) C Q Y5 (s 0) (s 5) (s 9)) [(.int .i64 0)] h) hR (fun s h hR => eS hC (fun s h => B.pv (V.bin .add (s 9) (.int .i64 1)) fun v78 => Y5 [v78] h) (eK (eT hC (fun s h => zd (ze.l49 (z9.E C) C Q Y5 (s 0) (s 5) (s 9)) [(s 10)] h) hR (fun s h hR => eK (eL hC [0, 5, 9] [10] (on3 (ze.l49 (z9.E C) C Q Y5)) hR (fun Y6 s h hR => e1 hR))))) (fun s h hR => e1 hR)))))) (fun s h hR => eS hC (fun s h => zd (ze.l15 (z9.E C) C Q (s 0) (s 5)) [(.int .i64 0)] h) (eT hC (fun s h => zd (ze.l40 (z9.E C) C Q (s 0) (s 5)) [(s 11)] h) hR (fun s h hR => eK (eL hC [0, 5] [11] (on2 (ze.l40 (z9.E C) C Q)) hR (fun Y3 s h hR => eT hC (fun s h => 0 < 7 ∧ B.mks h 96 (some [.int .i64 0, .int .i64 0, .int .i64 0, .str [], .int .u8 0, .nils, .nils]) (.int .i64 64) (.int .i64 64) fun v129 h => zd (ze.l26 (z9.E C) C Q Y3 (s 0) (s 5) (s 11) v129) [(.int .i64 0)] h) hR (fun s h hR => eS hC (fun s h => B.pv (V.bin .add (s 11) (.int .i64 1)) fun v128 => Y3 [v128] h) (eK (eT hC (fun s h => zd (ze.l26 (z9.E C) C Q Y3 (s 0) (s 5) (s 11) (s 12)) [(.int .i64 0)] h) hR (fun s h hR => eS hC (fun s h => ze.k22 (z9.E C) C Q Y3 (s 0) (s 5) (s 11) (s 12) h) (eT hC (fun s h => zd (ze.l26 (z9.E C) C Q Y3 (s 0) (s 5) (s 11) (s 12)) [(s 13)] h) hR (fun s h hR => eK (eL hC [0, 5, 11, 12] [13] (on4 (ze.l26 (z9.E C) C Q Y3)) hR (fun Y4 s h hR => e1 hR)))) (fun s h hR => e1 hR)))) (fun s h hR => e1 hR)))))) (fun s h hR => eS hC (fun s h => Q (.bool true) h) (eT hC (fun s h => zd (ze.l15 (z9.E C) C Q (s 0) (s 5)) [(s 14)] h) hR (fun s h hR => eK (eL hC [0, 5] [14] (on2 (ze.l15 (z9.E C) C Q)) hR (fun Y1 s h hR => eT hC (fun s h => zd (ze.l5 (z9.E C) C Q Y1 (s 0) (s 5) (s 14)) [(.int .i64 0)] h) hR (fun s h hR => eS hC (fun s h => B.pv (V.bin .add (s 14) (.int .i64 1)) fun v157 => Y1 [v157] h) (eK (eT hC (fun s h => zd (ze.l5 (z9.E C) C Q Y1 (s 0) (s 5) (s 14)) [(s 15)] h) hR (fun s h hR => eK (eL hC [0, 5, 14] [15] (on3 (ze.l5 (z9.E C) C Q Y1)) hR (fun Y2 s h hR => e1 hR))))) (fun s h hR => e1 hR)))))) (fun s h hR => e1 hR)))))))
theorem z9.imp : z9.Imp (AC P) N := fun v0 h Q hR => eF mixed (fn := Tryz.f61) (fun hC => z9.L hC (dn Q) (zcl [v0]) h hR)
def z4.I : Bx := ⟨[], [], 193, [(7, pz [(7, [3])] 10), (24, pz [(9, [3, 6]), (30, [24, 27])] 35), (41, pz [(9, [3, 6]), (22, [16, 19])] 26)]⟩
abbrev z4.E (C : CSem) : z5 := opsD C 6 96 [.int .i64 0, .int .i64 0, .int .i64 0, .nils, .nils, .nils] (N 115) (N 116)
theorem z4.L : LkT P z4.I Tryz.f62 fun C Q s h => z4.cps C N (s 0) h Q := fun {C} hC Q s h hR => eT hC (fun s h => zd (ze.l103 (z4.E C) C Q (s 0)) [(.int .i64 0)] h) hR (fun s h hR => eS hC (fun s h => B.pv (V.zw (s 0)) fun v41 => 0 < 1 ∧ B.mks h 24 (some [.nils]) v41 v41 fun v42 h => zd (ze.l82 (z4.E C) C Q (s 0) v42) [(.int .i64 0)] h) (eT hC (fun s h => zd (ze.l103 (z4.E C) C Q (s 0)) [(s 3)] h) hR (fun s h hR => eK (eL hC [0] [3] (on1 (ze.l103 (z4.E C) C Q)) hR (fun Y9 s h hR => eT hC (fun s h => zd (ze.l93 (z4.E C) C Q Y9 (s 0) (s 3)) [(.int .i64 0)] h) hR (fun s h hR => eS hC (fun s h => B.pv (V.bin .add (s 3) (.int .i64 1)) fun v21 => Y9 [v21] h) (eK (eT hC (fun s h => zd (ze.l93 (z4.E C) C Q Y9 (s 0) (s 3)) [(s 4)] h) hR (fun s h hR => eK (eL hC [0, 3] [4] (on2 (ze.l93 (z4.E C) C Q Y9)) hR (fun Y10 s h hR => e1 hR))))) (fun s h hR => e1 hR)))))) (fun s h hR => eT hC (fun s h => zd (ze.l82 (z4.E C) C Q (s 0) (s 5)) [(.int .i64 0)] h) hR (fun s h hR => eS hC (fun s h => zd (ze.l59 (z4.E C) C Q (s 0) (s 5)) [(.int .i64 0)] h) (eT hC (fun s h => zd (ze.l82 (z4.E C) C Q (s 0) (s 5)) [(s 6)] h) hR (fun s h hR => eK (eL hC [0, 5] [6] (on2 (ze.l82 (z4.E C) C Q)) hR (fun Y7 s h hR => eT hC (fun s h => B.pv (V.idxS 1 (s 0) (s 6)) fun v51 => B.ld h v51 fun v52 => zd (ze.l69 (z4.E C) C Q Y7 (s 0) (s 5) (s 6)) [v52, (.int .i64 0)] h) hR (fun s h hR => eS hC (fun s h => B.pv (V.bin .add (s 6) (.int .i64 1)) fun v48 => Y7 [v48] h) (eK (eT hC (fun s h => zd (ze.l69 (z4.E C) C Q Y7 (s 0) (s 5) (s 6)) [(s 7), (.int .i64 0)] h) hR (fun s h hR => eS hC (fun s h => B.pv (V.idxS 1 (s 5) (s 6)) fun v72 => B.st h v72 (s 7) fun h => B.pv (V.bin .add (s 6) (.int .i64 1)) fun v48 => Y7 [v48] h) (eT hC (fun s h => zd (ze.l69 (z4.E C) C Q Y7 (s 0) (s 5) (s 6)) [(s 7), (s 8)] h) hR (fun s h hR => eK (eL hC [0, 5, 6] [7, 8] (on3 (ze.l69 (z4.E C) C Q Y7)) hR (fun Y8 s h hR => e1 hR)))) (fun s h hR => e1 hR)))) (fun s h hR => e1 hR)))))) (fun s h hR => eS hC (fun s h => zd (ze.l40 (z4.E C) C Q (s 0) (s 5)) [(.int .i64 0)] h) (eT hC (fun s h => zd (ze.l59 (z4.E C) C Q (s 0) (s 5)) [(s 9)] h) hR (fun s h hR => eK (eL hC [0, 5] [9] (on2 (ze.l59 (z4.E C) C Q)) hR (fun Y5 s h hR => eT hC (fun s h => zd (ze.l49 (z4.E C) C Q Y5 (s 0) (s 5) (s 9)) [(.int .i64 0)] h) hR (fun s h hR => eS hC (fun s h => B.pv (V.bin .add (s 9) (.int .i64 1)) fun v78 => Y5 [v78] h) (eK (eT hC (fun s h => zd (ze.l49 (z4.E C) C Q Y5 (s 0) (s 5) (s 9)) [(s 10)] h) hR (fun s h hR => eK (eL hC [0, 5, 9] [10] (on3 (ze.l49 (z4.E C) C Q Y5)) hR (fun Y6 s h hR => e1 hR))))) (fun s h hR => e1 hR)))))) (fun s h hR => eS hC (fun s h => zd (ze.l15 (z4.E C) C Q (s 0) (s 5)) [(.int .i64 0)] h) (eT hC (fun s h => zd (ze.l40 (z4.E C) C Q (s 0) (s 5)) [(s 11)] h) hR (fun s h hR => eK (eL hC [0, 5] [11] (on2 (ze.l40 (z4.E C) C Q)) hR (fun Y3 s h hR => eT hC (fun s h => 0 < 6 ∧ B.mks h 96 (some [.int .i64 0, .int .i64 0, .int .i64 0, .nils, .nils, .nils]) (.int .i64 64) (.int .i64 64) fun v129 h => zd (ze.l26 (z4.E C) C Q Y3 (s 0) (s 5) (s 11) v129) [(.int .i64 0)] h) hR (fun s h hR => eS hC (fun s h => B.pv (V.bin .add (s 11) (.int .i64 1)) fun v128 => Y3 [v128] h) (eK (eT hC (fun s h => zd (ze.l26 (z4.E C) C Q Y3 (s 0) (s 5) (s 11) (s 12)) [(.int .i64 0)] h) hR (fun s h hR => eS hC (fun s h => ze.k22 (z4.E C) C Q Y3 (s 0) (s 5) (s 11) (s 12) h) (eT hC (fun s h => zd (ze.l26 (z4.E C) C Q Y3 (s 0) (s 5) (s 11) (s 12)) [(s 13)] h) hR (fun s h hR => eK (eL hC [0, 5, 11, 12] [13] (on4 (ze.l26 (z4.E C) C Q Y3)) hR (fun Y4 s h hR => e1 hR)))) (fun s h hR => e1 hR)))) (fun s h hR => e1 hR)))))) (fun s h hR => eS hC (fun s h => Q (.bool true) h) (eT hC (fun s h => zd (ze.l15 (z4.E C) C Q (s 0) (s 5)) [(s 14)] h) hR (fun s h hR => eK (eL hC [0, 5] [14] (on2 (ze.l15 (z4.E C) C Q)) hR (fun Y1 s h hR => eT hC (fun s h => zd (ze.l5 (z4.E C) C Q Y1 (s 0) (s 5) (s 14)) [(.int .i64 0)] h) hR (fun s h hR => eS hC (fun s h => B.pv (V.bin .add (s 14) (.int .i64 1)) fun v157 => Y1 [v157] h) (eK (eT hC (fun s h => zd (ze.l5 (z4.E C) C Q Y1 (s 0) (s 5) (s 14)) [(s 15)] h) hR (fun s h hR => eK (eL hC [0, 5, 14] [15] (on3 (ze.l5 (z4.E C) C Q Y1)) hR (fun Y2 s h hR => e1 hR))))) (fun s h hR => e1 hR)))))) (fun s h hR => e1 hR)))))))
theorem z4.imp : z4.Imp (AC P) N := fun v0 h Q hR => eF mixed (fn := Tryz.f62) (fun hC => z4.L hC (dn Q) (zcl [v0]) h hR)
def zbo.I : Bx := ⟨[], [], 193, [(7, pz [(7, [3])] 10), (24, pz [(9, [3, 6]), (30, [24, 27])] 35), (41, pz [(9, [3, 6]), (22, [16, 19])] 26)]⟩
abbrev zbo.E (C : CSem) : z5 := opsD C 2 48 [.nils, .nils] (N 117) (N 118)
theorem zbo.L : LkT P zbo.I Tryz.f63 fun C Q s h => zbo.cps C N (s 0) h Q := fun {C} hC Q s h hR => eT hC (fun s h => zd (ze.l103 (zbo.E C) C Q (s 0)) [(.int .i64 0)] h) hR (fun s h hR => eS hC (fun s h => B.pv (V.zw (s 0)) fun v41 => 0 < 1 ∧ B.mks h 24 (some [.nils]) v41 v41 fun v42 h => zd (ze.l82 (zbo.E C) C Q (s 0) v42) [(.int .i64 0)] h) (eT hC (fun s h => zd (ze.l103 (zbo.E C) C Q (s 0)) [(s 3)] h) hR (fun s h hR => eK (eL hC [0] [3] (on1 (ze.l103 (zbo.E C) C Q)) hR (fun Y9 s h hR => eT hC (fun s h => zd (ze.l93 (zbo.E C) C Q Y9 (s 0) (s 3)) [(.int .i64 0)] h) hR (fun s h hR => eS hC (fun s h => B.pv (V.bin .add (s 3) (.int .i64 1)) fun v21 => Y9 [v21] h) (eK (eT hC (fun s h => zd (ze.l93 (zbo.E C) C Q Y9 (s 0) (s 3)) [(s 4)] h) hR (fun s h hR => eK (eL hC [0, 3] [4] (on2 (ze.l93 (zbo.E C) C Q Y9)) hR (fun Y10 s h hR => e1 hR))))) (fun s h hR => e1 hR)))))) (fun s h hR => eT hC (fun s h => zd (ze.l82 (zbo.E C) C Q (s 0) (s 5)) [(.int .i64 0)] h) hR (fun s h hR => eS hC (fun s h => zd (ze.l59 (zbo.E C) C Q (s 0) (s 5)) [(.int .i64 0)] h) (eT hC (fun s h => zd (ze.l82 (zbo.E C) C Q (s 0) (s 5)) [(s 6)] h) hR (fun s h hR => eK (eL hC [0, 5] [6] (on2 (ze.l82 (zbo.E C) C Q)) hR (fun Y7 s h hR => eT hC (fun s h => B.pv (V.idxS 1 (s 0) (s 6)) fun v51 => B.ld h v51 fun v52 => zd (ze.l69 (zbo.E C) C Q Y7 (s 0) (s 5) (s 6)) [v52, (.int .i64 0)] h) hR (fun s h hR => eS hC (fun s h => B.pv (V.bin .add (s 6) (.int .i64 1)) fun v48 => Y7 [v48] h) (eK (eT hC (fun s h => zd (ze.l69 (zbo.E C) C Q Y7 (s 0) (s 5) (s 6)) [(s 7), (.int .i64 0)] h) hR (fun s h hR => eS hC (fun s h => B.pv (V.idxS 1 (s 5) (s 6)) fun v72 => B.st h v72 (s 7) fun h => B.pv (V.bin .add (s 6) (.int .i64 1)) fun v48 => Y7 [v48] h) (eT hC (fun s h => zd (ze.l69 (zbo.E C) C Q Y7 (s 0) (s 5) (s 6)) [(s 7), (s 8)] h) hR (fun s h hR => eK (eL hC [0, 5, 6] [7, 8] (on3 (ze.l69 (zbo.E C) C Q Y7)) hR (fun Y8 s h hR => e1 hR)))) (fun s h hR => e1 hR)))) (fun s h hR => e1 hR)))))) (fun s h hR => eS hC (fun s h => zd (ze.l40 (zbo.E C) C Q (s 0) (s 5)) [(.int .i64 0)] h) (eT hC (fun s h => zd (ze.l59 (zbo.E C) C Q (s 0) (s 5)) [(s 9)] h) hR (fun s h hR => eK (eL hC [0, 5] [9] (on2 (ze.l59 (zbo.E C) C Q)) hR (fun Y5 s h hR => eT hC (fun s h => zd (ze.l49 (zbo.E C) C Q Y5 (s 0) (s 5) (s 9)) [(.int .i64 0)] h) hR (fun s h hR => eS hC (fun s h => B.pv (V.bin .add (s 9) (.int .i64 1)) fun v78 => Y5 [v78] h) (eK (eT hC (fun s h => zd (ze.l49 (zbo.E C) C Q Y5 (s 0) (s 5) (s 9)) [(s 10)] h) hR (fun s h hR => eK (eL hC [0, 5, 9] [10] (on3 (ze.l49 (zbo.E C) C Q Y5)) hR (fun Y6 s h hR => e1 hR))))) (fun s h hR => e1 hR)))))) (fun s h hR => eS hC (fun s h => zd (ze.l15 (zbo.E C) C Q (s 0) (s 5)) [(.int .i64 0)] h) (eT hC (fun s h => zd (ze.l40 (zbo.E C) C Q (s 0) (s 5)) [(s 11)] h) hR (fun s h hR => eK (eL hC [0, 5] [11] (on2 (ze.l40 (zbo.E C) C Q)) hR (fun Y3 s h hR => eT hC (fun s h => 0 < 2 ∧ B.mks h 48 (some [.nils, .nils]) (.int .i64 64) (.int .i64 64) fun v129 h => zd (ze.l26 (zbo.E C) C Q Y3 (s 0) (s 5) (s 11) v129) [(.int .i64 0)] h) hR (fun s h hR => eS hC (fun s h => B.pv (V.bin .add (s 11) (.int .i64 1)) fun v128 => Y3 [v128] h) (eK (eT hC (fun s h => zd (ze.l26 (zbo.E C) C Q Y3 (s 0) (s 5) (s 11) (s 12)) [(.int .i64 0)] h) hR (fun s h hR => eS hC (fun s h => ze.k22 (zbo.E C) C Q Y3 (s 0) (s 5) (s 11) (s 12) h) (eT hC (fun s h => zd (ze.l26 (zbo.E C) C Q Y3 (s 0) (s 5) (s 11) (s 12)) [(s 13)] h) hR (fun s h hR => eK (eL hC [0, 5, 11, 12] [13] (on4 (ze.l26 (zbo.E C) C Q Y3)) hR (fun Y4 s h hR => e1 hR)))) (fun s h hR => e1 hR)))) (fun s h hR => e1 hR)))))) (fun s h hR => eS hC (fun s h => Q (.bool true) h) (eT hC (fun s h => zd (ze.l15 (zbo.E C) C Q (s 0) (s 5)) [(s 14)] h) hR (fun s h hR => eK (eL hC [0, 5] [14] (on2 (ze.l15 (zbo.E C) C Q)) hR (fun Y1 s h hR => eT hC (fun s h => zd (ze.l5 (zbo.E C) C Q Y1 (s 0) (s 5) (s 14)) [(.int .i64 0)] h) hR (fun s h hR => eS hC (fun s h => B.pv (V.bin .add (s 14) (.int .i64 1)) fun v157 => Y1 [v157] h) (eK (eT hC (fun s h => zd (ze.l5 (zbo.E C) C Q Y1 (s 0) (s 5) (s 14)) [(s 15)] h) hR (fun s h hR => eK (eL hC [0, 5, 14] [15] (on3 (ze.l5 (zbo.E C) C Q Y1)) hR (fun Y2 s h hR => e1 hR))))) (fun s h hR => e1 hR)))))) (fun s h hR => e1 hR)))))))
theorem zbo.imp : zbo.Imp (AC P) N := fun v0 h Q hR => eF mixed (fn := Tryz.f63) (fun hC => zbo.L hC (dn Q) (zcl [v0]) h hR)
def z8.I : Bx := ⟨[], [], 193, [(7, pz [(7, [3])] 10), (24, pz [(9, [3, 6]), (30, [24, 27])] 35), (41, pz [(9, [3, 6]), (22, [16, 19])] 26)]⟩
abbrev z8.E (C : CSem) : z5 := opsD C 3 72 [.nils, .nils, .nils] (N 119) (N 120)
theorem z8.L : LkT P z8.I Tryz.f64 fun C Q s h => z8.cps C N (s 0) h Q := fun {C} hC Q s h hR => eT hC (fun s h => zd (ze.l103 (z8.E C) C Q (s 0)) [(.int .i64 0)] h) hR (fun s h hR => eS hC (fun s h => B.pv (V.zw (s 0)) fun v41 => 0 < 1 ∧ B.mks h 24 (some [.nils]) v41 v41 fun v42 h => zd (ze.l82 (z8.E C) C Q (s 0) v42) [(.int .i64 0)] h) (eT hC (fun s h => zd (ze.l103 (z8.E C) C Q (s 0)) [(s 3)] h) hR (fun s h hR => eK (eL hC [0] [3] (on1 (ze.l103 (z8.E C) C Q)) hR (fun Y9 s h hR => eT hC (fun s h => zd (ze.l93 (z8.E C) C Q Y9 (s 0) (s 3)) [(.int .i64 0)] h) hR (fun s h hR => eS hC (fun s h => B.pv (V.bin .add (s 3) (.int .i64 1)) fun v21 => Y9 [v21] h) (eK (eT hC (fun s h => zd (ze.l93 (z8.E C) C Q Y9 (s 0) (s 3)) [(s 4)] h) hR (fun s h hR => eK (eL hC [0, 3] [4] (on2 (ze.l93 (z8.E C) C Q Y9)) hR (fun Y10 s h hR => e1 hR))))) (fun s h hR => e1 hR)))))) (fun s h hR => eT hC (fun s h => zd (ze.l82 (z8.E C) C Q (s 0) (s 5)) [(.int .i64 0)] h) hR (fun s h hR => eS hC (fun s h => zd (ze.l59 (z8.E C) C Q (s 0) (s 5)) [(.int .i64 0)] h) (eT hC (fun s h => zd (ze.l82 (z8.E C) C Q (s 0) (s 5)) [(s 6)] h) hR (fun s h hR => eK (eL hC [0, 5] [6] (on2 (ze.l82 (z8.E C) C Q)) hR (fun Y7 s h hR => eT hC (fun s h => B.pv (V.idxS 1 (s 0) (s 6)) fun v51 => B.ld h v51 fun v52 => zd (ze.l69 (z8.E C) C Q Y7 (s 0) (s 5) (s 6)) [v52, (.int .i64 0)] h) hR (fun s h hR => eS hC (fun s h => B.pv (V.bin .add (s 6) (.int .i64 1)) fun v48 => Y7 [v48] h) (eK (eT hC (fun s h => zd (ze.l69 (z8.E C) C Q Y7 (s 0) (s 5) (s 6)) [(s 7), (.int .i64 0)] h) hR (fun s h hR => eS hC (fun s h => B.pv (V.idxS 1 (s 5) (s 6)) fun v72 => B.st h v72 (s 7) fun h => B.pv (V.bin .add (s 6) (.int .i64 1)) fun v48 => Y7 [v48] h) (eT hC (fun s h => zd (ze.l69 (z8.E C) C Q Y7 (s 0) (s 5) (s 6)) [(s 7), (s 8)] h) hR (fun s h hR => eK (eL hC [0, 5, 6] [7, 8] (on3 (ze.l69 (z8.E C) C Q Y7)) hR (fun Y8 s h hR => e1 hR)))) (fun s h hR => e1 hR)))) (fun s h hR => e1 hR)))))) (fun s h hR => eS hC (fun s h => zd (ze.l40 (z8.E C) C Q (s 0) (s 5)) [(.int .i64 0)] h) (eT hC (fun s h => zd (ze.l59 (z8.E C) C Q (s 0) (s 5)) [(s 9)] h) hR (fun s h hR => eK (eL hC [0, 5] [9] (on2 (ze.l59 (z8.E C) C Q)) hR (fun Y5 s h hR => eT hC (fun s h => zd (ze.l49 (z8.E C) C Q Y5 (s 0) (s 5) (s 9)) [(.int .i64 0)] h) hR (fun s h hR => eS hC (fun s h => B.pv (V.bin .add (s 9) (.int .i64 1)) fun v78 => Y5 [v78] h) (eK (eT hC (fun s h => zd (ze.l49 (z8.E C) C Q Y5 (s 0) (s 5) (s 9)) [(s 10)] h) hR (fun s h hR => eK (eL hC [0, 5, 9] [10] (on3 (ze.l49 (z8.E C) C Q Y5)) hR (fun Y6 s h hR => e1 hR))))) (fun s h hR => e1 hR)))))) (fun s h hR => eS hC (fun s h => zd (ze.l15 (z8.E C) C Q (s 0) (s 5)) [(.int .i64 0)] h) (eT hC (fun s h => zd (ze.l40 (z8.E C) C Q (s 0) (s 5)) [(s 11)] h) hR (fun s h hR => eK (eL hC [0, 5] [11] (on2 (ze.l40 (z8.E C) C Q)) hR (fun Y3 s h hR => eT hC (fun s h => 0 < 3 ∧ B.mks h 72 (some [.nils, .nils, .nils]) (.int .i64 64) (.int .i64 64) fun v129 h => zd (ze.l26 (z8.E C) C Q Y3 (s 0) (s 5) (s 11) v129) [(.int .i64 0)] h) hR (fun s h hR => eS hC (fun s h => B.pv (V.bin .add (s 11) (.int .i64 1)) fun v128 => Y3 [v128] h) (eK (eT hC (fun s h => zd (ze.l26 (z8.E C) C Q Y3 (s 0) (s 5) (s 11) (s 12)) [(.int .i64 0)] h) hR (fun s h hR => eS hC (fun s h => ze.k22 (z8.E C) C Q Y3 (s 0) (s 5) (s 11) (s 12) h) (eT hC (fun s h => zd (ze.l26 (z8.E C) C Q Y3 (s 0) (s 5) (s 11) (s 12)) [(s 13)] h) hR (fun s h hR => eK (eL hC [0, 5, 11, 12] [13] (on4 (ze.l26 (z8.E C) C Q Y3)) hR (fun Y4 s h hR => e1 hR)))) (fun s h hR => e1 hR)))) (fun s h hR => e1 hR)))))) (fun s h hR => eS hC (fun s h => Q (.bool true) h) (eT hC (fun s h => zd (ze.l15 (z8.E C) C Q (s 0) (s 5)) [(s 14)] h) hR (fun s h hR => eK (eL hC [0, 5] [14] (on2 (ze.l15 (z8.E C) C Q)) hR (fun Y1 s h hR => eT hC (fun s h => zd (ze.l5 (z8.E C) C Q Y1 (s 0) (s 5) (s 14)) [(.int .i64 0)] h) hR (fun s h hR => eS hC (fun s h => B.pv (V.bin .add (s 14) (.int .i64 1)) fun v157 => Y1 [v157] h) (eK (eT hC (fun s h => zd (ze.l5 (z8.E C) C Q Y1 (s 0) (s 5) (s 14)) [(s 15)] h) hR (fun s h hR => eK (eL hC [0, 5, 14] [15] (on3 (ze.l5 (z8.E C) C Q Y1)) hR (fun Y2 s h hR => e1 hR))))) (fun s h hR => e1 hR)))))) (fun s h hR => e1 hR)))))))
theorem z8.imp : z8.Imp (AC P) N := fun v0 h Q hR => eF mixed (fn := Tryz.f64) (fun hC => z8.L hC (dn Q) (zcl [v0]) h hR)
def zbe.I : Bx := ⟨[], [], 193, [(7, pz [(7, [3])] 10), (24, pz [(9, [3, 6]), (30, [24, 27])] 35), (41, pz [(9, [3, 6]), (22, [16, 19])] 26)]⟩
abbrev zbe.E : z5 := opsF 1 8 [.int .i64 0] (N 121) [.i .i64]
theorem zbe.L : LkT P zbe.I Tryz.f65 fun C Q s h => zbe.cps C N (s 0) h Q := fun {C} hC Q s h hR => eT hC (fun s h => zd (ze.l103 zbe.E C Q (s 0)) [(.int .i64 0)] h) hR (fun s h hR => eS hC (fun s h => B.pv (V.zw (s 0)) fun v41 => 0 < 1 ∧ B.mks h 24 (some [.nils]) v41 v41 fun v42 h => zd (ze.l82 zbe.E C Q (s 0) v42) [(.int .i64 0)] h) (eT hC (fun s h => zd (ze.l103 zbe.E C Q (s 0)) [(s 3)] h) hR (fun s h hR => eK (eL hC [0] [3] (on1 (ze.l103 zbe.E C Q)) hR (fun Y9 s h hR => eT hC (fun s h => zd (ze.l93 zbe.E C Q Y9 (s 0) (s 3)) [(.int .i64 0)] h) hR (fun s h hR => eS hC (fun s h => B.pv (V.bin .add (s 3) (.int .i64 1)) fun v21 => Y9 [v21] h) (eK (eT hC (fun s h => zd (ze.l93 zbe.E C Q Y9 (s 0) (s 3)) [(s 4)] h) hR (fun s h hR => eK (eL hC [0, 3] [4] (on2 (ze.l93 zbe.E C Q Y9)) hR (fun Y10 s h hR => e1 hR))))) (fun s h hR => e1 hR)))))) (fun s h hR => eT hC (fun s h => zd (ze.l82 zbe.E C Q (s 0) (s 5)) [(.int .i64 0)] h) hR (fun s h hR => eS hC (fun s h => zd (ze.l59 zbe.E C Q (s 0) (s 5)) [(.int .i64 0)] h) (eT hC (fun s h => zd (ze.l82 zbe.E C Q (s 0) (s 5)) [(s 6)] h) hR (fun s h hR => eK (eL hC [0, 5] [6] (on2 (ze.l82 zbe.E C Q)) hR (fun Y7 s h hR => eT hC (fun s h => B.pv (V.idxS 1 (s 0) (s 6)) fun v51 => B.ld h v51 fun v52 => zd (ze.l69 zbe.E C Q Y7 (s 0) (s 5) (s 6)) [v52, (.int .i64 0)] h) hR (fun s h hR => eS hC (fun s h => B.pv (V.bin .add (s 6) (.int .i64 1)) fun v48 => Y7 [v48] h) (eK (eT hC (fun s h => zd (ze.l69 zbe.E C Q Y7 (s 0) (s 5) (s 6)) [(s 7), (.int .i64 0)] h) hR (fun s h hR => eS hC (fun s h => B.pv (V.idxS 1 (s 5) (s 6)) fun v72 => B.st h v72 (s 7) fun h => B.pv (V.bin .add (s 6) (.int .i64 1)) fun v48 => Y7 [v48] h) (eT hC (fun s h => zd (ze.l69 zbe.E C Q Y7 (s 0) (s 5) (s 6)) [(s 7), (s 8)] h) hR (fun s h hR => eK (eL hC [0, 5, 6] [7, 8] (on3 (ze.l69 zbe.E C Q Y7)) hR (fun Y8 s h hR => e1 hR)))) (fun s h hR => e1 hR)))) (fun s h hR => e1 hR)))))) (fun s h hR => eS hC (fun s h => zd (ze.l40 zbe.E C Q (s 0) (s 5)) [(.int .i64 0)] h) (eT hC (fun s h => zd (ze.l59 zbe.E C Q (s 0) (s 5)) [(s 9)] h) hR (fun s h hR => eK (eL hC [0, 5] [9] (on2 (ze.l59 zbe.E C Q)) hR (fun Y5 s h hR => eT hC (fun s h => zd (ze.l49 zbe.E C Q Y5 (s 0) (s 5) (s 9)) [(.int .i64 0)] h) hR (fun s h hR => eS hC (fun s h => B.pv (V.bin .add (s 9) (.int .i64 1)) fun v78 => Y5 [v78] h) (eK (eT hC (fun s h => zd (ze.l49 zbe.E C Q Y5 (s 0) (s 5) (s 9)) [(s 10)] h) hR (fun s h hR => eK (eL hC [0, 5, 9] [10] (on3 (ze.l49 zbe.E C Q Y5)) hR (fun Y6 s h hR => e1 hR))))) (fun s h hR => e1 hR)))))) (fun s h hR => eS hC (fun s h => zd (ze.l15 zbe.E C Q (s 0) (s 5)) [(.int .i64 0)] h) (eT hC (fun s h => zd (ze.l40 zbe.E C Q (s 0) (s 5)) [(s 11)] h) hR (fun s h hR => eK (eL hC [0, 5] [11] (on2 (ze.l40 zbe.E C Q)) hR (fun Y3 s h hR => eT hC (fun s h => 0 < 1 ∧ B.mks h 8 (some [.int .i64 0]) (.int .i64 64) (.int .i64 64) fun v129 h => zd (ze.l26 zbe.E C Q Y3 (s 0) (s 5) (s 11) v129) [(.int .i64 0)] h) hR (fun s h hR => eS hC (fun s h => B.pv (V.bin .add (s 11) (.int .i64 1)) fun v128 => Y3 [v128] h) (eK (eT hC (fun s h => zd (ze.l26 zbe.E C Q Y3 (s 0) (s 5) (s 11) (s 12)) [(.int .i64 0)] h) hR (fun s h hR => eS hC (fun s h => ze.k22 zbe.E C Q Y3 (s 0) (s 5) (s 11) (s 12) h) (eT hC (fun s h => zd (ze.l26 zbe.E C Q Y3 (s 0) (s 5) (s 11) (s 12)) [(s 13)] h) hR (fun s h hR => eK (eL hC [0, 5, 11, 12] [13] (on4 (ze.l26 zbe.E C Q Y3)) hR (fun Y4 s h hR => e1 hR)))) (fun s h hR => e1 hR)))) (fun s h hR => e1 hR)))))) (fun s h hR => eS hC (fun s h => Q (.bool true) h) (eT hC (fun s h => zd (ze.l15 zbe.E C Q (s 0) (s 5)) [(s 14)] h) hR (fun s h hR => eK (eL hC [0, 5] [14] (on2 (ze.l15 zbe.E C Q)) hR (fun Y1 s h hR => eT hC (fun s h => zd (ze.l5 zbe.E C Q Y1 (s 0) (s 5) (s 14)) [(.int .i64 0)] h) hR (fun s h hR => eS hC (fun s h => B.pv (V.bin .add (s 14) (.int .i64 1)) fun v157 => Y1 [v157] h) (eK (eT hC (fun s h => zd (ze.l5 zbe.E C Q Y1 (s 0) (s 5) (s 14)) [(s 15)] h) hR (fun s h hR => eK (eL hC [0, 5, 14] [15] (on3 (ze.l5 zbe.E C Q Y1)) hR (fun Y2 s h hR => e1 hR))))) (fun s h hR => e1 hR)))))) (fun s h hR => e1 hR)))))))
theorem zbe.imp : zbe.Imp (AC P) N := fun v0 h Q hR => eF mixed (fn := Tryz.f65) (fun hC => zbe.L hC (dn Q) (zcl [v0]) h hR)
def zy.I : Bx := ⟨[], [], 193, [(7, pz [(7, [3])] 10), (24, pz [(9, [3, 6]), (30, [24, 27])] 35), (41, pz [(9, [3, 6]), (22, [16, 19])] 26)]⟩
abbrev zy.E : z5 := opsF 2 16 [.int .i64 0, .int .i64 0] (N 122) [.i .i64, .i .i64]
theorem zy.L : LkT P zy.I Tryz.f66 fun C Q s h => zy.cps C N (s 0) h Q := fun {C} hC Q s h hR => eT hC (fun s h => zd (ze.l103 zy.E C Q (s 0)) [(.int .i64 0)] h) hR (fun s h hR => eS hC (fun s h => B.pv (V.zw (s 0)) fun v41 => 0 < 1 ∧ B.mks h 24 (some [.nils]) v41 v41 fun v42 h => zd (ze.l82 zy.E C Q (s 0) v42) [(.int .i64 0)] h) (eT hC (fun s h => zd (ze.l103 zy.E C Q (s 0)) [(s 3)] h) hR (fun s h hR => eK (eL hC [0] [3] (on1 (ze.l103 zy.E C Q)) hR (fun Y9 s h hR => eT hC (fun s h => zd (ze.l93 zy.E C Q Y9 (s 0) (s 3)) [(.int .i64 0)] h) hR (fun s h hR => eS hC (fun s h => B.pv (V.bin .add (s 3) (.int .i64 1)) fun v21 => Y9 [v21] h) (eK (eT hC (fun s h => zd (ze.l93 zy.E C Q Y9 (s 0) (s 3)) [(s 4)] h) hR (fun s h hR => eK (eL hC [0, 3] [4] (on2 (ze.l93 zy.E C Q Y9)) hR (fun Y10 s h hR => e1 hR))))) (fun s h hR => e1 hR)))))) (fun s h hR => eT hC (fun s h => zd (ze.l82 zy.E C Q (s 0) (s 5)) [(.int .i64 0)] h) hR (fun s h hR => eS hC (fun s h => zd (ze.l59 zy.E C Q (s 0) (s 5)) [(.int .i64 0)] h) (eT hC (fun s h => zd (ze.l82 zy.E C Q (s 0) (s 5)) [(s 6)] h) hR (fun s h hR => eK (eL hC [0, 5] [6] (on2 (ze.l82 zy.E C Q)) hR (fun Y7 s h hR => eT hC (fun s h => B.pv (V.idxS 1 (s 0) (s 6)) fun v51 => B.ld h v51 fun v52 => zd (ze.l69 zy.E C Q Y7 (s 0) (s 5) (s 6)) [v52, (.int .i64 0)] h) hR (fun s h hR => eS hC (fun s h => B.pv (V.bin .add (s 6) (.int .i64 1)) fun v48 => Y7 [v48] h) (eK (eT hC (fun s h => zd (ze.l69 zy.E C Q Y7 (s 0) (s 5) (s 6)) [(s 7), (.int .i64 0)] h) hR (fun s h hR => eS hC (fun s h => B.pv (V.idxS 1 (s 5) (s 6)) fun v72 => B.st h v72 (s 7) fun h => B.pv (V.bin .add (s 6) (.int .i64 1)) fun v48 => Y7 [v48] h) (eT hC (fun s h => zd (ze.l69 zy.E C Q Y7 (s 0) (s 5) (s 6)) [(s 7), (s 8)] h) hR (fun s h hR => eK (eL hC [0, 5, 6] [7, 8] (on3 (ze.l69 zy.E C Q Y7)) hR (fun Y8 s h hR => e1 hR)))) (fun s h hR => e1 hR)))) (fun s h hR => e1 hR)))))) (fun s h hR => eS hC (fun s h => zd (ze.l40 zy.E C Q (s 0) (s 5)) [(.int .i64 0)] h) (eT hC (fun s h => zd (ze.l59 zy.E C Q (s 0) (s 5)) [(s 9)] h) hR (fun s h hR => eK (eL hC [0, 5] [9] (on2 (ze.l59 zy.E C Q)) hR (fun Y5 s h hR => eT hC (fun s h => zd (ze.l49 zy.E C Q Y5 (s 0) (s 5) (s 9)) [(.int .i64 0)] h) hR (fun s h hR => eS hC (fun s h => B.pv (V.bin .add (s 9) (.int .i64 1)) fun v78 => Y5 [v78] h) (eK (eT hC (fun s h => zd (ze.l49 zy.E C Q Y5 (s 0) (s 5) (s 9)) [(s 10)] h) hR (fun s h hR => eK (eL hC [0, 5, 9] [10] (on3 (ze.l49 zy.E C Q Y5)) hR (fun Y6 s h hR => e1 hR))))) (fun s h hR => e1 hR)))))) (fun s h hR => eS hC (fun s h => zd (ze.l15 zy.E C Q (s 0) (s 5)) [(.int .i64 0)] h) (eT hC (fun s h => zd (ze.l40 zy.E C Q (s 0) (s 5)) [(s 11)] h) hR (fun s h hR => eK (eL hC [0, 5] [11] (on2 (ze.l40 zy.E C Q)) hR (fun Y3 s h hR => eT hC (fun s h => 0 < 2 ∧ B.mks h 16 (some [.int .i64 0, .int .i64 0]) (.int .i64 64) (.int .i64 64) fun v129 h => zd (ze.l26 zy.E C Q Y3 (s 0) (s 5) (s 11) v129) [(.int .i64 0)] h) hR (fun s h hR => eS hC (fun s h => B.pv (V.bin .add (s 11) (.int .i64 1)) fun v128 => Y3 [v128] h) (eK (eT hC (fun s h => zd (ze.l26 zy.E C Q Y3 (s 0) (s 5) (s 11) (s 12)) [(.int .i64 0)] h) hR (fun s h hR => eS hC (fun s h => ze.k22 zy.E C Q Y3 (s 0) (s 5) (s 11) (s 12) h) (eT hC (fun s h => zd (ze.l26 zy.E C Q Y3 (s 0) (s 5) (s 11) (s 12)) [(s 13)] h) hR (fun s h hR => eK (eL hC [0, 5, 11, 12] [13] (on4 (ze.l26 zy.E C Q Y3)) hR (fun Y4 s h hR => e1 hR)))) (fun s h hR => e1 hR)))) (fun s h hR => e1 hR)))))) (fun s h hR => eS hC (fun s h => Q (.bool true) h) (eT hC (fun s h => zd (ze.l15 zy.E C Q (s 0) (s 5)) [(s 14)] h) hR (fun s h hR => eK (eL hC [0, 5] [14] (on2 (ze.l15 zy.E C Q)) hR (fun Y1 s h hR => eT hC (fun s h => zd (ze.l5 zy.E C Q Y1 (s 0) (s 5) (s 14)) [(.int .i64 0)] h) hR (fun s h hR => eS hC (fun s h => B.pv (V.bin .add (s 14) (.int .i64 1)) fun v157 => Y1 [v157] h) (eK (eT hC (fun s h => zd (ze.l5 zy.E C Q Y1 (s 0) (s 5) (s 14)) [(s 15)] h) hR (fun s h hR => eK (eL hC [0, 5, 14] [15] (on3 (ze.l5 zy.E C Q Y1)) hR (fun Y2 s h hR => e1 hR))))) (fun s h hR => e1 hR)))))) (fun s h hR => e1 hR)))))))
theorem zy.imp : zy.Imp (AC P) N := fun v0 h Q hR => eF mixed (fn := Tryz.f66) (fun hC => zy.L hC (dn Q) (zcl [v0]) h hR)
def zbc.I : Bx := ⟨[], [], 193, [(7, pz [(7, [3])] 10), (24, pz [(9, [3, 6]), (30, [24, 27])] 35), (41, pz [(9, [3, 6]), (22, [16, 19])] 26)]⟩
abbrev zbc.E : z5 := opsF 2 16 [.int .i64 0, .int .i64 0] (N 123) [.i .i64, .i .i64]
theorem zbc.L : LkT P zbc.I Tryz.f67 fun C Q s h => zbc.cps C N (s 0) h Q := fun {C} hC Q s h hR => eT hC (fun s h => zd (ze.l103 zbc.E C Q (s 0)) [(.int .i64 0)] h) hR (fun s h hR => eS hC (fun s h => B.pv (V.zw (s 0)) fun v41 => 0 < 1 ∧ B.mks h 24 (some [.nils]) v41 v41 fun v42 h => zd (ze.l82 zbc.E C Q (s 0) v42) [(.int .i64 0)] h) (eT hC (fun s h => zd (ze.l103 zbc.E C Q (s 0)) [(s 3)] h) hR (fun s h hR => eK (eL hC [0] [3] (on1 (ze.l103 zbc.E C Q)) hR (fun Y9 s h hR => eT hC (fun s h => zd (ze.l93 zbc.E C Q Y9 (s 0) (s 3)) [(.int .i64 0)] h) hR (fun s h hR => eS hC (fun s h => B.pv (V.bin .add (s 3) (.int .i64 1)) fun v21 => Y9 [v21] h) (eK (eT hC (fun s h => zd (ze.l93 zbc.E C Q Y9 (s 0) (s 3)) [(s 4)] h) hR (fun s h hR => eK (eL hC [0, 3] [4] (on2 (ze.l93 zbc.E C Q Y9)) hR (fun Y10 s h hR => e1 hR))))) (fun s h hR => e1 hR)))))) (fun s h hR => eT hC (fun s h => zd (ze.l82 zbc.E C Q (s 0) (s 5)) [(.int .i64 0)] h) hR (fun s h hR => eS hC (fun s h => zd (ze.l59 zbc.E C Q (s 0) (s 5)) [(.int .i64 0)] h) (eT hC (fun s h => zd (ze.l82 zbc.E C Q (s 0) (s 5)) [(s 6)] h) hR (fun s h hR => eK (eL hC [0, 5] [6] (on2 (ze.l82 zbc.E C Q)) hR (fun Y7 s h hR => eT hC (fun s h => B.pv (V.idxS 1 (s 0) (s 6)) fun v51 => B.ld h v51 fun v52 => zd (ze.l69 zbc.E C Q Y7 (s 0) (s 5) (s 6)) [v52, (.int .i64 0)] h) hR (fun s h hR => eS hC (fun s h => B.pv (V.bin .add (s 6) (.int .i64 1)) fun v48 => Y7 [v48] h) (eK (eT hC (fun s h => zd (ze.l69 zbc.E C Q Y7 (s 0) (s 5) (s 6)) [(s 7), (.int .i64 0)] h) hR (fun s h hR => eS hC (fun s h => B.pv (V.idxS 1 (s 5) (s 6)) fun v72 => B.st h v72 (s 7) fun h => B.pv (V.bin .add (s 6) (.int .i64 1)) fun v48 => Y7 [v48] h) (eT hC (fun s h => zd (ze.l69 zbc.E C Q Y7 (s 0) (s 5) (s 6)) [(s 7), (s 8)] h) hR (fun s h hR => eK (eL hC [0, 5, 6] [7, 8] (on3 (ze.l69 zbc.E C Q Y7)) hR (fun Y8 s h hR => e1 hR)))) (fun s h hR => e1 hR)))) (fun s h hR => e1 hR)))))) (fun s h hR => eS hC (fun s h => zd (ze.l40 zbc.E C Q (s 0) (s 5)) [(.int .i64 0)] h) (eT hC (fun s h => zd (ze.l59 zbc.E C Q (s 0) (s 5)) [(s 9)] h) hR (fun s h hR => eK (eL hC [0, 5] [9] (on2 (ze.l59 zbc.E C Q)) hR (fun Y5 s h hR => eT hC (fun s h => zd (ze.l49 zbc.E C Q Y5 (s 0) (s 5) (s 9)) [(.int .i64 0)] h) hR (fun s h hR => eS hC (fun s h => B.pv (V.bin .add (s 9) (.int .i64 1)) fun v78 => Y5 [v78] h) (eK (eT hC (fun s h => zd (ze.l49 zbc.E C Q Y5 (s 0) (s 5) (s 9)) [(s 10)] h) hR (fun s h hR => eK (eL hC [0, 5, 9] [10] (on3 (ze.l49 zbc.E C Q Y5)) hR (fun Y6 s h hR => e1 hR))))) (fun s h hR => e1 hR)))))) (fun s h hR => eS hC (fun s h => zd (ze.l15 zbc.E C Q (s 0) (s 5)) [(.int .i64 0)] h) (eT hC (fun s h => zd (ze.l40 zbc.E C Q (s 0) (s 5)) [(s 11)] h) hR (fun s h hR => eK (eL hC [0, 5] [11] (on2 (ze.l40 zbc.E C Q)) hR (fun Y3 s h hR => eT hC (fun s h => 0 < 2 ∧ B.mks h 16 (some [.int .i64 0, .int .i64 0]) (.int .i64 64) (.int .i64 64) fun v129 h => zd (ze.l26 zbc.E C Q Y3 (s 0) (s 5) (s 11) v129) [(.int .i64 0)] h) hR (fun s h hR => eS hC (fun s h => B.pv (V.bin .add (s 11) (.int .i64 1)) fun v128 => Y3 [v128] h) (eK (eT hC (fun s h => zd (ze.l26 zbc.E C Q Y3 (s 0) (s 5) (s 11) (s 12)) [(.int .i64 0)] h) hR (fun s h hR => eS hC (fun s h => ze.k22 zbc.E C Q Y3 (s 0) (s 5) (s 11) (s 12) h) (eT hC (fun s h => zd (ze.l26 zbc.E C Q Y3 (s 0) (s 5) (s 11) (s 12)) [(s 13)] h) hR (fun s h hR => eK (eL hC [0, 5, 11, 12] [13] (on4 (ze.l26 zbc.E C Q Y3)) hR (fun Y4 s h hR => e1 hR)))) (fun s h hR => e1 hR)))) (fun s h hR => e1 hR)))))) (fun s h hR => eS hC (fun s h => Q (.bool true) h) (eT hC (fun s h => zd (ze.l15 zbc.E C Q (s 0) (s 5)) [(s 14)] h) hR (fun s h hR => eK (eL hC [0, 5] [14] (on2 (ze.l15 zbc.E C Q)) hR (fun Y1 s h hR => eT hC (fun s h => zd (ze.l5 zbc.E C Q Y1 (s 0) (s 5) (s 14)) [(.int .i64 0)] h) hR (fun s h hR => eS hC (fun s h => B.pv (V.bin .add (s 14) (.int .i64 1)) fun v157 => Y1 [v157] h) (eK (eT hC (fun s h => zd (ze.l5 zbc.E C Q Y1 (s 0) (s 5) (s 14)) [(s 15)] h) hR (fun s h hR => eK (eL hC [0, 5, 14] [15] (on3 (ze.l5 zbc.E C Q Y1)) hR (fun Y2 s h hR => e1 hR))))) (fun s h hR => e1 hR)))))) (fun s h hR => e1 hR)))))))
theorem zbc.imp : zbc.Imp (AC P) N := fun v0 h Q hR => eF mixed (fn := Tryz.f67) (fun hC => zbc.L hC (dn Q) (zcl [v0]) h hR)
def zx.I : Bx := ⟨[], [], 193, [(7, pz [(7, [3])] 10), (24, pz [(9, [3, 6]), (30, [24, 27])] 35), (41, pz [(9, [3, 6]), (22, [16, 19])] 26)]⟩
abbrev zx.E (C : CSem) : z5 := opsD C 11 168 [.int .i64 0, .int .i64 0, .int .i64 0, .int .i64 0, .int .u8 0, .int .i64 0, .nils, .nils, .nils, .nils, .nils] (N 124) (N 125)
theorem zx.L : LkT P zx.I Tryz.f68 fun C Q s h => zx.cps C N (s 0) h Q := fun {C} hC Q s h hR => eT hC (fun s h => zd (ze.l103 (zx.E C) C Q (s 0)) [(.int .i64 0)] h) hR (fun s h hR => eS hC (fun s h => B.pv (V.zw (s 0)) fun v41 => 0 < 1 ∧ B.mks h 24 (some [.nils]) v41 v41 fun v42 h => zd (ze.l82 (zx.E C) C Q (s 0) v42) [(.int .i64 0)] h) (eT hC (fun s h => zd (ze.l103 (zx.E C) C Q (s 0)) [(s 3)] h) hR (fun s h hR => eK (eL hC [0] [3] (on1 (ze.l103 (zx.E C) C Q)) hR (fun Y9 s h hR => eT hC (fun s h => zd (ze.l93 (zx.E C) C Q Y9 (s 0) (s 3)) [(.int .i64 0)] h) hR (fun s h hR => eS hC (fun s h => B.pv (V.bin .add (s 3) (.int .i64 1)) fun v21 => Y9 [v21] h) (eK (eT hC (fun s h => zd (ze.l93 (zx.E C) C Q Y9 (s 0) (s 3)) [(s 4)] h) hR (fun s h hR => eK (eL hC [0, 3] [4] (on2 (ze.l93 (zx.E C) C Q Y9)) hR (fun Y10 s h hR => e1 hR))))) (fun s h hR => e1 hR)))))) (fun s h hR => eT hC (fun s h => zd (ze.l82 (zx.E C) C Q (s 0) (s 5)) [(.int .i64 0)] h) hR (fun s h hR => eS hC (fun s h => zd (ze.l59 (zx.E C) C Q (s 0) (s 5)) [(.int .i64 0)] h) (eT hC (fun s h => zd (ze.l82 (zx.E C) C Q (s 0) (s 5)) [(s 6)] h) hR (fun s h hR => eK (eL hC [0, 5] [6] (on2 (ze.l82 (zx.E C) C Q)) hR (fun Y7 s h hR => eT hC (fun s h => B.pv (V.idxS 1 (s 0) (s 6)) fun v51 => B.ld h v51 fun v52 => zd (ze.l69 (zx.E C) C Q Y7 (s 0) (s 5) (s 6)) [v52, (.int .i64 0)] h) hR (fun s h hR => eS hC (fun s h => B.pv (V.bin .add (s 6) (.int .i64 1)) fun v48 => Y7 [v48] h) (eK (eT hC (fun s h => zd (ze.l69 (zx.E C) C Q Y7 (s 0) (s 5) (s 6)) [(s 7), (.int .i64 0)] h) hR (fun s h hR => eS hC (fun s h => B.pv (V.idxS 1 (s 5) (s 6)) fun v72 => B.st h v72 (s 7) fun h => B.pv (V.bin .add (s 6) (.int .i64 1)) fun v48 => Y7 [v48] h) (eT hC (fun s h => zd (ze.l69 (zx.E C) C Q Y7 (s 0) (s 5) (s 6)) [(s 7), (s 8)] h) hR (fun s h hR => eK (eL hC [0, 5, 6] [7, 8] (on3 (ze.l69 (zx.E C) C Q Y7)) hR (fun Y8 s h hR => e1 hR)))) (fun s h hR => e1 hR)))) (fun s h hR => e1 hR)))))) (fun s h hR => eS hC (fun s h => zd (ze.l40 (zx.E C) C Q (s 0) (s 5)) [(.int .i64 0)] h) (eT hC (fun s h => zd (ze.l59 (zx.E C) C Q (s 0) (s 5)) [(s 9)] h) hR (fun s h hR => eK (eL hC [0, 5] [9] (on2 (ze.l59 (zx.E C) C Q)) hR (fun Y5 s h hR => eT hC (fun s h => zd (ze.l49 (zx.E C) C Q Y5 (s 0) (s 5) (s 9)) [(.int .i64 0)] h) hR (fun s h hR => eS hC (fun s h => B.pv (V.bin .add (s 9) (.int .i64 1)) fun v78 => Y5 [v78] h) (eK (eT hC (fun s h => zd (ze.l49 (zx.E C) C Q Y5 (s 0) (s 5) (s 9)) [(s 10)] h) hR (fun s h hR => eK (eL hC [0, 5, 9] [10] (on3 (ze.l49 (zx.E C) C Q Y5)) hR (fun Y6 s h hR => e1 hR))))) (fun s h hR => e1 hR)))))) (fun s h hR => eS hC (fun s h => zd (ze.l15 (zx.E C) C Q (s 0) (s 5)) [(.int .i64 0)] h) (eT hC (fun s h => zd (ze.l40 (zx.E C) C Q (s 0) (s 5)) [(s 11)] h) hR (fun s h hR => eK (eL hC [0, 5] [11] (on2 (ze.l40 (zx.E C) C Q)) hR (fun Y3 s h hR => eT hC (fun s h => 0 < 11 ∧ B.mks h 168 (some [.int .i64 0, .int .i64 0, .int .i64 0, .int .i64 0, .int .u8 0, .int .i64 0, .nils, .nils, .nils, .nils, .nils]) (.int .i64 64) (.int .i64 64) fun v129 h => zd (ze.l26 (zx.E C) C Q Y3 (s 0) (s 5) (s 11) v129) [(.int .i64 0)] h) hR (fun s h hR => eS hC (fun s h => B.pv (V.bin .add (s 11) (.int .i64 1)) fun v128 => Y3 [v128] h) (eK (eT hC (fun s h => zd (ze.l26 (zx.E C) C Q Y3 (s 0) (s 5) (s 11) (s 12)) [(.int .i64 0)] h) hR (fun s h hR => eS hC (fun s h => ze.k22 (zx.E C) C Q Y3 (s 0) (s 5) (s 11) (s 12) h) (eT hC (fun s h => zd (ze.l26 (zx.E C) C Q Y3 (s 0) (s 5) (s 11) (s 12)) [(s 13)] h) hR (fun s h hR => eK (eL hC [0, 5, 11, 12] [13] (on4 (ze.l26 (zx.E C) C Q Y3)) hR (fun Y4 s h hR => e1 hR)))) (fun s h hR => e1 hR)))) (fun s h hR => e1 hR)))))) (fun s h hR => eS hC (fun s h => Q (.bool true) h) (eT hC (fun s h => zd (ze.l15 (zx.E C) C Q (s 0) (s 5)) [(s 14)] h) hR (fun s h hR => eK (eL hC [0, 5] [14] (on2 (ze.l15 (zx.E C) C Q)) hR (fun Y1 s h hR => eT hC (fun s h => zd (ze.l5 (zx.E C) C Q Y1 (s 0) (s 5) (s 14)) [(.int .i64 0)] h) hR (fun s h hR => eS hC (fun s h => B.pv (V.bin .add (s 14) (.int .i64 1)) fun v157 => Y1 [v157] h) (eK (eT hC (fun s h => zd (ze.l5 (zx.E C) C Q Y1 (s 0) (s 5) (s 14)) [(s 15)] h) hR (fun s h hR => eK (eL hC [0, 5, 14] [15] (on3 (ze.l5 (zx.E C) C Q Y1)) hR (fun Y2 s h hR => e1 hR))))) (fun s h hR => e1 hR)))))) (fun s h hR => e1 hR)))))))
theorem zx.imp : zx.Imp (AC P) N := fun v0 h Q hR => eF mixed (fn := Tryz.f68) (fun hC => zx.L hC (dn Q) (zcl [v0]) h hR)
def zbb.I : Bx := ⟨[], [], 193, [(7, pz [(7, [3])] 10), (24, pz [(9, [3, 6]), (30, [24, 27])] 35), (41, pz [(9, [3, 6]), (22, [16, 19])] 26)]⟩
abbrev zbb.E (C : CSem) : z5 := opsD C 15 176 [.int .u8 0, .int .i64 0, .int .i64 0, .int .u8 0, .int .i64 0, .str [], .int .i64 0, .int .i64 0, .int .i64 0, .int .i64 0, .int .i64 0, .int .i64 0, .nils, .nils, .nils] (N 126) (N 127)
theorem zbb.L : LkT P zbb.I Tryz.f69 fun C Q s h => zbb.cps C N (s 0) h Q := fun {C} hC Q s h hR => eT hC (fun s h => zd (ze.l103 (zbb.E C) C Q (s 0)) [(.int .i64 0)] h) hR (fun s h hR => eS hC (fun s h => B.pv (V.zw (s 0)) fun v41 => 0 < 1 ∧ B.mks h 24 (some [.nils]) v41 v41 fun v42 h => zd (ze.l82 (zbb.E C) C Q (s 0) v42) [(.int .i64 0)] h) (eT hC (fun s h => zd (ze.l103 (zbb.E C) C Q (s 0)) [(s 3)] h) hR (fun s h hR => eK (eL hC [0] [3] (on1 (ze.l103 (zbb.E C) C Q)) hR (fun Y9 s h hR => eT hC (fun s h => zd (ze.l93 (zbb.E C) C Q Y9 (s 0) (s 3)) [(.int .i64 0)] h) hR (fun s h hR => eS hC (fun s h => B.pv (V.bin .add (s 3) (.int .i64 1)) fun v21 => Y9 [v21] h) (eK (eT hC (fun s h => zd (ze.l93 (zbb.E C) C Q Y9 (s 0) (s 3)) [(s 4)] h) hR (fun s h hR => eK (eL hC [0, 3] [4] (on2 (ze.l93 (zbb.E C) C Q Y9)) hR (fun Y10 s h hR => e1 hR))))) (fun s h hR => e1 hR)))))) (fun s h hR => eT hC (fun s h => zd (ze.l82 (zbb.E C) C Q (s 0) (s 5)) [(.int .i64 0)] h) hR (fun s h hR => eS hC (fun s h => zd (ze.l59 (zbb.E C) C Q (s 0) (s 5)) [(.int .i64 0)] h) (eT hC (fun s h => zd (ze.l82 (zbb.E C) C Q (s 0) (s 5)) [(s 6)] h) hR (fun s h hR => eK (eL hC [0, 5] [6] (on2 (ze.l82 (zbb.E C) C Q)) hR (fun Y7 s h hR => eT hC (fun s h => B.pv (V.idxS 1 (s 0) (s 6)) fun v51 => B.ld h v51 fun v52 => zd (ze.l69 (zbb.E C) C Q Y7 (s 0) (s 5) (s 6)) [v52, (.int .i64 0)] h) hR (fun s h hR => eS hC (fun s h => B.pv (V.bin .add (s 6) (.int .i64 1)) fun v48 => Y7 [v48] h) (eK (eT hC (fun s h => zd (ze.l69 (zbb.E C) C Q Y7 (s 0) (s 5) (s 6)) [(s 7), (.int .i64 0)] h) hR (fun s h hR => eS hC (fun s h => B.pv (V.idxS 1 (s 5) (s 6)) fun v72 => B.st h v72 (s 7) fun h => B.pv (V.bin .add (s 6) (.int .i64 1)) fun v48 => Y7 [v48] h) (eT hC (fun s h => zd (ze.l69 (zbb.E C) C Q Y7 (s 0) (s 5) (s 6)) [(s 7), (s 8)] h) hR (fun s h hR => eK (eL hC [0, 5, 6] [7, 8] (on3 (ze.l69 (zbb.E C) C Q Y7)) hR (fun Y8 s h hR => e1 hR)))) (fun s h hR => e1 hR)))) (fun s h hR => e1 hR)))))) (fun s h hR => eS hC (fun s h => zd (ze.l40 (zbb.E C) C Q (s 0) (s 5)) [(.int .i64 0)] h) (eT hC (fun s h => zd (ze.l59 (zbb.E C) C Q (s 0) (s 5)) [(s 9)] h) hR (fun s h hR => eK (eL hC [0, 5] [9] (on2 (ze.l59 (zbb.E C) C Q)) hR (fun Y5 s h hR => eT hC (fun s h => zd (ze.l49 (zbb.E C) C Q Y5 (s 0) (s 5) (s 9)) [(.int .i64 0)] h) hR (fun s h hR => eS hC (fun s h => B.pv (V.bin .add (s 9) (.int .i64 1)) fun v78 => Y5 [v78] h) (eK (eT hC (fun s h => zd (ze.l49 (zbb.E C) C Q Y5 (s 0) (s 5) (s 9)) [(s 10)] h) hR (fun s h hR => eK (eL hC [0, 5, 9] [10] (on3 (ze.l49 (zbb.E C) C Q Y5)) hR (fun Y6 s h hR => e1 hR))))) (fun s h hR => e1 hR)))))) (fun s h hR => eS hC (fun s h => zd (ze.l15 (zbb.E C) C Q (s 0) (s 5)) [(.int .i64 0)] h) (eT hC (fun s h => zd (ze.l40 (zbb.E C) C Q (s 0) (s 5)) [(s 11)] h) hR (fun s h hR => eK (eL hC [0, 5] [11] (on2 (ze.l40 (zbb.E C) C Q)) hR (fun Y3 s h hR => eT hC (fun s h => 0 < 15 ∧ B.mks h 176 (some [.int .u8 0, .int .i64 0, .int .i64 0, .int .u8 0, .int .i64 0, .str [], .int .i64 0, .int .i64 0, .int .i64 0, .int .i64 0, .int .i64 0, .int .i64 0, .nils, .nils, .nils]) (.int .i64 64) (.int .i64 64) fun v129 h => zd (ze.l26 (zbb.E C) C Q Y3 (s 0) (s 5) (s 11) v129) [(.int .i64 0)] h) hR (fun s h hR => eS hC (fun s h => B.pv (V.bin .add (s 11) (.int .i64 1)) fun v128 => Y3 [v128] h) (eK (eT hC (fun s h => zd (ze.l26 (zbb.E C) C Q Y3 (s 0) (s 5) (s 11) (s 12)) [(.int .i64 0)] h) hR (fun s h hR => eS hC (fun s h => ze.k22 (zbb.E C) C Q Y3 (s 0) (s 5) (s 11) (s 12) h) (eT hC (fun s h => zd (ze.l26 (zbb.E C) C Q Y3 (s 0) (s 5) (s 11) (s 12)) [(s 13)] h) hR (fun s h hR => eK (eL hC [0, 5, 11, 12] [13] (on4 (ze.l26 (zbb.E C) C Q Y3)) hR (fun Y4 s h hR => e1 hR)))) (fun s h hR => e1 hR)))) (fun s h hR => e1 hR)))))) (fun s h hR => eS hC (fun s h => Q (.bool true) h) (eT hC (fun s h => zd (ze.l15 (zbb.E C) C Q (s 0) (s 5)) [(s 14)] h) hR (fun s h hR => eK (eL hC [0, 5] [14] (on2 (ze.l15 (zbb.E C) C Q)) hR (fun Y1 s h hR => eT hC (fun s h => zd (ze.l5 (zbb.E C) C Q Y1 (s 0) (s 5) (s 14)) [(.int .i64 0)] h) hR (fun s h hR => eS hC (fun s h => B.pv (V.bin .add (s 14) (.int .i64 1)) fun v157 => Y1 [v157] h) (eK (eT hC (fun s h => zd (ze.l5 (zbb.E C) C Q Y1 (s 0) (s 5) (s 14)) [(s 15)] h) hR (fun s h hR => eK (eL hC [0, 5, 14] [15] (on3 (ze.l5 (zbb.E C) C Q Y1)) hR (fun Y2 s h hR => e1 hR))))) (fun s h hR => e1 hR)))))) (fun s h hR => e1 hR)))))))
theorem zbb.imp : zbb.Imp (AC P) N := fun v0 h Q hR => eF mixed (fn := Tryz.f69) (fun hC => zbb.L hC (dn Q) (zcl [v0]) h hR)
def zba.I : Bx := ⟨[], [], 193, [(7, pz [(7, [3])] 10), (24, pz [(9, [3, 6]), (30, [24, 27])] 35), (41, pz [(9, [3, 6]), (22, [16, 19])] 26)]⟩
abbrev zba.E (C : CSem) : z5 := opsD C 21 248 [.int .u8 0, .int .i64 0, .int .i64 0, .int .u8 0, .int .i64 0, .str [], .int .i64 0, .int .i64 0, .int .i64 0, .int .i64 0, .int .i64 0, .int .i64 0, .nils, .nils, .int .i64 0, .int .i64 0, .int .i64 0, .str [], .int .u8 0, .nils, .nils] (N 128) (N 129)
theorem zba.L : LkT P zba.I Tryz.f70 fun C Q s h => zba.cps C N (s 0) h Q := fun {C} hC Q s h hR => eT hC (fun s h => zd (ze.l103 (zba.E C) C Q (s 0)) [(.int .i64 0)] h) hR (fun s h hR => eS hC (fun s h => B.pv (V.zw (s 0)) fun v41 => 0 < 1 ∧ B.mks h 24 (some [.nils]) v41 v41 fun v42 h => zd (ze.l82 (zba.E C) C Q (s 0) v42) [(.int .i64 0)] h) (eT hC (fun s h => zd (ze.l103 (zba.E C) C Q (s 0)) [(s 3)] h) hR (fun s h hR => eK (eL hC [0] [3] (on1 (ze.l103 (zba.E C) C Q)) hR (fun Y9 s h hR => eT hC (fun s h => zd (ze.l93 (zba.E C) C Q Y9 (s 0) (s 3)) [(.int .i64 0)] h) hR (fun s h hR => eS hC (fun s h => B.pv (V.bin .add (s 3) (.int .i64 1)) fun v21 => Y9 [v21] h) (eK (eT hC (fun s h => zd (ze.l93 (zba.E C) C Q Y9 (s 0) (s 3)) [(s 4)] h) hR (fun s h hR => eK (eL hC [0, 3] [4] (on2 (ze.l93 (zba.E C) C Q Y9)) hR (fun Y10 s h hR => e1 hR))))) (fun s h hR => e1 hR)))))) (fun s h hR => eT hC (fun s h => zd (ze.l82 (zba.E C) C Q (s 0) (s 5)) [(.int .i64 0)] h) hR (fun s h hR => eS hC (fun s h => zd (ze.l59 (zba.E C) C Q (s 0) (s 5)) [(.int .i64 0)] h) (eT hC (fun s h => zd (ze.l82 (zba.E C) C Q (s 0) (s 5)) [(s 6)] h) hR (fun s h hR => eK (eL hC [0, 5] [6] (on2 (ze.l82 (zba.E C) C Q)) hR (fun Y7 s h hR => eT hC (fun s h => B.pv (V.idxS 1 (s 0) (s 6)) fun v51 => B.ld h v51 fun v52 => zd (ze.l69 (zba.E C) C Q Y7 (s 0) (s 5) (s 6)) [v52, (.int .i64 0)] h) hR (fun s h hR => eS hC (fun s h => B.pv (V.bin .add (s 6) (.int .i64 1)) fun v48 => Y7 [v48] h) (eK (eT hC (fun s h => zd (ze.l69 (zba.E C) C Q Y7 (s 0) (s 5) (s 6)) [(s 7), (.int .i64 0)] h) hR (fun s h hR => eS hC (fun s h => B.pv (V.idxS 1 (s 5) (s 6)) fun v72 => B.st h v72 (s 7) fun h => B.pv (V.bin .add (s 6) (.int .i64 1)) fun v48 => Y7 [v48] h) (eT hC (fun s h => zd (ze.l69 (zba.E C) C Q Y7 (s 0) (s 5) (s 6)) [(s 7), (s 8)] h) hR (fun s h hR => eK (eL hC [0, 5, 6] [7, 8] (on3 (ze.l69 (zba.E C) C Q Y7)) hR (fun Y8 s h hR => e1 hR)))) (fun s h hR => e1 hR)))) (fun s h hR => e1 hR)))))) (fun s h hR => eS hC (fun s h => zd (ze.l40 (zba.E C) C Q (s 0) (s 5)) [(.int .i64 0)] h) (eT hC (fun s h => zd (ze.l59 (zba.E C) C Q (s 0) (s 5)) [(s 9)] h) hR (fun s h hR => eK (eL hC [0, 5] [9] (on2 (ze.l59 (zba.E C) C Q)) hR (fun Y5 s h hR => eT hC (fun s h => zd (ze.l49 (zba.E C) C Q Y5 (s 0) (s 5) (s 9)) [(.int .i64 0)] h) hR (fun s h hR => eS hC (fun s h => B.pv (V.bin .add (s 9) (.int .i64 1)) fun v78 => Y5 [v78] h) (eK (eT hC (fun s h => zd (ze.l49 (zba.E C) C Q Y5 (s 0) (s 5) (s 9)) [(s 10)] h) hR (fun s h hR => eK (eL hC [0, 5, 9] [10] (on3 (ze.l49 (zba.E C) C Q Y5)) hR (fun Y6 s h hR => e1 hR))))) (fun s h hR => e1 hR)))))) (fun s h hR => eS hC (fun s h => zd (ze.l15 (zba.E C) C Q (s 0) (s 5)) [(.int .i64 0)] h) (eT hC (fun s h => zd (ze.l40 (zba.E C) C Q (s 0) (s 5)) [(s 11)] h) hR (fun s h hR => eK (eL hC [0, 5] [11] (on2 (ze.l40 (zba.E C) C Q)) hR (fun Y3 s h hR => eT hC (fun s h => 0 < 21 ∧ B.mks h 248 (some [.int .u8 0, .int .i64 0, .int .i64 0, .int .u8 0, .int .i64 0, .str [], .int .i64 0, .int .i64 0, .int .i64 0, .int .i64 0, .int .i64 0, .int .i64 0, .nils, .nils, .int .i64 0, .int .i64 0, .int .i64 0, .str [], .int .u8 0, .nils, .nils]) (.int .i64 64) (.int .i64 64) fun v129 h => zd (ze.l26 (zba.E C) C Q Y3 (s 0) (s 5) (s 11) v129) [(.int .i64 0)] h) hR (fun s h hR => eS hC (fun s h => B.pv (V.bin .add (s 11) (.int .i64 1)) fun v128 => Y3 [v128] h) (eK (eT hC (fun s h => zd (ze.l26 (zba.E C) C Q Y3 (s 0) (s 5) (s 11) (s 12)) [(.int .i64 0)] h) hR (fun s h hR => eS hC (fun s h => ze.k22 (zba.E C) C Q Y3 (s 0) (s 5) (s 11) (s 12) h) (eT hC (fun s h => zd (ze.l26 (zba.E C) C Q Y3 (s 0) (s 5) (s 11) (s 12)) [(s 13)] h) hR (fun s h hR => eK (eL hC [0, 5, 11, 12] [13] (on4 (ze.l26 (zba.E C) C Q Y3)) hR (fun Y4 s h hR => e1 hR)))) (fun s h hR => e1 hR)))) (fun s h hR => e1 hR)))))) (fun s h hR => eS hC (fun s h => Q (.bool true) h) (eT hC (fun s h => zd (ze.l15 (zba.E C) C Q (s 0) (s 5)) [(s 14)] h) hR (fun s h hR => eK (eL hC [0, 5] [14] (on2 (ze.l15 (zba.E C) C Q)) hR (fun Y1 s h hR => eT hC (fun s h => zd (ze.l5 (zba.E C) C Q Y1 (s 0) (s 5) (s 14)) [(.int .i64 0)] h) hR (fun s h hR => eS hC (fun s h => B.pv (V.bin .add (s 14) (.int .i64 1)) fun v157 => Y1 [v157] h) (eK (eT hC (fun s h => zd (ze.l5 (zba.E C) C Q Y1 (s 0) (s 5) (s 14)) [(s 15)] h) hR (fun s h hR => eK (eL hC [0, 5, 14] [15] (on3 (ze.l5 (zba.E C) C Q Y1)) hR (fun Y2 s h hR => e1 hR))))) (fun s h hR => e1 hR)))))) (fun s h hR => e1 hR)))))))
theorem zba.imp : zba.Imp (AC P) N := fun v0 h Q hR => eF mixed (fn := Tryz.f70) (fun hC => zba.L hC (dn Q) (zcl [v0]) h hR)
def zdo.I : Bx := ⟨[4], [], 9, []⟩
theorem zdo.L : LkT P zdo.I Tryz.f71 fun C Q s h => zdo.cps C N (s 0) (s 1) h Q := fun {C} hC Q s h hR => e1 hR
theorem zdo.imp : zdo.Imp (AC P) N := fun v0 v1 h Q hR => eF mixed (fn := Tryz.f71) (fun hC => zdo.L hC (dn Q) (zcl [v0, v1]) h hR)
def zdj.I : Bx := ⟨[], [], 23, []⟩
theorem zdj.L : LkT P zdj.I Tryz.f72 fun C Q s h => zdj.cps C N (s 0) (s 1) h Q := fun {C} hC Q s h hR => e1 hR
theorem zdj.imp : zdj.Imp (AC P) N := fun v0 v1 h Q hR => eF mixed (fn := Tryz.f72) (fun hC => zdj.L hC (dn Q) (zcl [v0, v1]) h hR)
def zdb.I : Bx := ⟨[], [], 40, []⟩
theorem zdb.L : LkT P zdb.I Tryz.f73 fun C Q s h => zdb.cps C N (s 0) h Q := fun {C} hC Q s h hR => eT hC (fun s h => B.zgp h (s 0) fun v6 h => zd (zdb.l3 C N Q (s 0) v6) [] h) hR (fun s h hR => eS hC (fun s h => zdb.k1 C N Q (s 0) h) (eT hC (fun s h => zd (zdb.l3 C N Q (s 0) (s 6)) [] h) hR (fun s h hR => eK (eL hC [0, 6] [] (on2 (zdb.l3 C N Q)) hR (fun Y1 s h hR => e1 hR)))) (fun s h hR => e1 hR))
theorem zdb.imp : zdb.Imp (AC P) N := fun v0 h Q hR => eF mixed (fn := Tryz.f73) (fun hC => zdb.L hC (dn Q) (zcl [v0]) h hR)
def zdc.I : Bx := ⟨[1, 5], [6, 10, 14, 19, 27, 31, 35, 41, 47, 51], 56, []⟩
theorem zdc.L : LkT P zdc.I Tryz.f74 fun C Q s h => zdc.cps C N (s 0) h Q := fun {C} hC Q s h hR => eT hC (fun s h => zdc.k5 C N Q (s 57) h) hR (fun s h hR => eT hC (fun s h => zdc.k4 C N Q (s 57) h) hR (fun s h hR => eT hC (fun s h => B.al (s 57) (B.pv (V.zc7 2 (s 57)) fun v20 => B.pv (V.zw v20) fun v21 => zd (zdc.l3 C N Q (s 3) v20 v21 (s 57)) [(.int .i64 0)] h)) hR (fun s h hR => eS hC (fun s h => zdc.k1 C N Q (s 57) h) (eT hC (fun s h => zd (zdc.l3 C N Q (s 3) (s 20) (s 21) (s 57)) [(s 22)] h) hR (fun s h hR => eK (eL hC [3, 20, 21, 57] [22] (on4 (zdc.l3 C N Q)) hR (fun Y1 s h hR => e1 hR)))) (fun s h hR => e1 hR))))
theorem zdc.imp : zdc.Imp (AC P) N := fun v0 h Q hR => eF mixed (fn := Tryz.f74) (fun hC => zdc.L hC (dn Q) (zcl [v0]) h hR)
def zeh.I : Bx := ⟨[5], [14], 19, []⟩
theorem zeh.L : LkT P zeh.I Tryz.f75 fun C Q s h => zeh.cps C N (s 0) h Q := fun {C} hC Q s h hR => eT hC (fun s h => B.zjq h fun v6 h => B.pv (V.zw (s 0)) fun v8 => zd (zeh.l2 C N Q v6 (s 0) v8) [(.int .i64 0)] h) hR (fun s h hR => eT hC (fun s h => B.pv (V.zw (s 0)) fun v8 => zd (zeh.l2 C N Q (s 3) (s 0) v8) [(.int .i64 0)] h) hR (fun s h hR => eS hC (fun s h => Q (s 3) h) (eT hC (fun s h => zd (zeh.l2 C N Q (s 3) (s 7) (s 8)) [(s 9)] h) hR (fun s h hR => eK (eL hC [3, 7, 8] [9] (on3 (zeh.l2 C N Q)) hR (fun Y1 s h hR => e1 hR)))) (fun s h hR => e1 hR)))
theorem zeh.imp : zeh.Imp (AC P) N := fun v0 h Q hR => eF mixed (fn := Tryz.f75) (fun hC => zeh.L hC (dn Q) (zcl [v0]) h hR)
def zc5.I : Bx := ⟨[], [], 20, []⟩
theorem zc5.L : LkT P zc5.I Tryz.f76 fun C Q s h => zc5.cps C N (s 0) h Q := fun {C} hC Q s h hR => eT hC (fun s h => B.zjq h fun v7 h => B.newO h (some [.nilm]) fun i4 h => B.st h (.ptr i4 0 0) v7 fun h => zc5.k3 C N Q (s 1) (.ptr i4 0 0) h) hR (fun s h hR => eT hC (fun s h => zc5.k3 C N Q (s 1) (s 4) h) hR (fun s h hR => eT hC (fun s h => B.st h (s 5) (.fn (N 374) [] [(s 4), (s 1), (s 5)]) fun h => B.ld h (s 1) fun v9 => B.rangeMap h v9 fun v10 h => zd (zc5.l2 C N Q (s 4) (s 5) v10) [] h) hR (fun s h hR => eT hC (fun s h => B.ld h (s 1) fun v9 => B.rangeMap h v9 fun v10 h => zd (zc5.l2 C N Q (s 4) (s 5) v10) [] h) hR (fun s h hR => eS hC (fun s h => B.ld h (s 4) fun v19 => Q (.tup [v19, (.bool true)]) h) (eT hC (fun s h => zd (zc5.l2 C N Q (s 4) (s 5) (s 10)) [] h) hR (fun s h hR => eK (eL hC [4, 5, 10] [] (on3 (zc5.l2 C N Q)) hR (fun Y1 s h hR => e1 hR)))) (fun s h hR => e1 hR)))))
theorem zc5.imp : zc5.Imp (AC P) N := fun v0 h Q hR => eF mixed (fn := Tryz.f76) (fun hC => zc5.L hC (dn Q) (zcl [v0]) h hR)
def zbu.I : Bx := ⟨[], [], 27, []⟩
theorem zbu.L : LkT P zbu.I Tryz.f77 fun C Q s h => zbu.cps C N (s 0) (s 1) h Q := fun {C} hC Q s h hR => eT hC (fun s h => B.pv (V.bin .lss (s 1) (.int .i64 0)) fun v6 => B.cond v6 (False) (zf9.k1 C (opsS 16 (.str []) 0) Q (s 0) (s 1) h)) hR (fun s h hR => eT hC (fun s h => zf9.k1 C (opsS 16 (.str []) 0) Q (s 0) (s 1) h) hR (fun s h hR => e1 hR))
theorem zbu.imp : zbu.Imp (AC P) N := fun v0 v1 h Q hR => eF mixed (fn := Tryz.f77) (fun hC => zbu.L hC (dn Q) (zcl [v0, v1]) h hR)
def zb4.I : Bx := ⟨[], [], 49, [(4, pz [] 15), (6, pz [] 18)]⟩
theorem zb4.L : LkT P zb4.I Tryz.f78 fun C Q s h => zb4.cps C N (s 0) (s 1) (s 2) h Q := fun {C} hC Q s h hR => eT hC (fun s h => zd (zb3.l3 C (opsS 16 (.str []) 0) (N 377) Q (s 0) (s 1) (s 2)) [(s 6)] h) hR (fun s h hR => eK (eL hC [0, 1, 2] [6] (on3 (zb3.l3 C (opsS 16 (.str []) 0) (N 377) Q)) hR (fun Y1 s h hR => eT hC (fun s h => zd (zb3.l2 C (opsS 16 (.str []) 0) (N 377) Q Y1 (s 0) (s 1) (s 2) (s 6)) [(s 6)] h) hR (fun s h hR => eS hC (fun s h => B.pv (V.bin .add (s 6) (.int .i64 1)) fun v14 => Y1 [v14] h) (eK (eT hC (fun s h => zd (zb3.l2 C (opsS 16 (.str []) 0) (N 377) Q Y1 (s 0) (s 1) (s 2) (s 6)) [(s 7)] h) hR (fun s h hR => eK (eL hC [0, 1, 2, 6] [7] (on4 (zb3.l2 C (opsS 16 (.str []) 0) (N 377) Q Y1)) hR (fun Y2 s h hR => e1 hR))))) (fun s h hR => e1 hR)))))
theorem zb4.imp : zb4.Imp (AC P) N := fun v0 v1 v2 h Q hR => eF mixed (fn := Tryz.f78) (fun hC => zb4.L hC (dn Q) (zcl [v0, v1, v2]) h hR)
def zcj.I : Bx := ⟨[], [], 56, [(10, pz [] 20)]⟩
theorem zcj.L : LkT P zcj.I Tryz.f79 fun C Q s h => zcj.cps C N (s 0) (s 1) (s 2) h Q := fun {C} hC Q s h hR => eT hC (fun s h => B.pv (V.bin .sub (s 2) (s 1)) fun v14 => zbq.k5 C (opsS 16 (.str []) 0) (N 386) Q (s 0) (s 6) (.int .i64 0) v14 h) hR (fun s h hR => eT hC (fun s h => B.pv (V.bin .sub (s 2) (s 1)) fun v14 => zbq.k5 C (opsS 16 (.str []) 0) (N 386) Q (s 0) (s 6) (s 7) v14 h) hR (fun s h hR => eT hC (fun s h => zbq.k5 C (opsS 16 (.str []) 0) (N 386) Q (s 0) (s 6) (s 7) (s 8) h) hR (fun s h hR => eS hC (fun s h => B.pv (V.bin .sub (s 8) (.int .i64 1)) fun v28 => zd (zbq.l2 C (opsS 16 (.str []) 0) (N 386) Q (s 0) (s 6) (s 7)) [v28] h) (eT hC (fun s h => zd (zbq.l4 C (opsS 16 (.str []) 0) (N 386) Q (s 0) (s 6) (s 7) (s 8)) [(s 9)] h) hR (fun s h hR => eK (eL hC [0, 6, 7, 8] [9] (on4 (zbq.l4 C (opsS 16 (.str []) 0) (N 386) Q)) hR (fun Y2 s h hR => e1 hR)))) (fun s h hR => eT hC (fun s h => zd (zbq.l2 C (opsS 16 (.str []) 0) (N 386) Q (s 0) (s 6) (s 7)) [(s 10)] h) hR (fun s h hR => eK (eL hC [0, 6, 7] [10] (on3 (zbq.l2 C (opsS 16 (.str []) 0) (N 386) Q)) hR (fun Y1 s h hR => e1 hR)))))))
theorem zcj.imp : zcj.Imp (AC P) N := fun v0 v1 v2 h Q hR => eF mixed (fn := Tryz.f79) (fun hC => zcj.L hC (dn Q) (zcl [v0, v1, v2]) h hR)
def zb5.I : Bx := ⟨[], [], 65, [(10, pz [] 20)]⟩
theorem zb5.L : LkT P zb5.I Tryz.f80 fun C Q s h => zb5.cps C N (s 0) (s 1) (s 2) h Q := fun {C} hC Q s h hR => eT hC (fun s h => B.pv (V.bin .geq (s 6) (.int .i64 8)) fun v15 => B.cond v15 (zo.k7 C (opsS 16 (.str []) 0) (N 298) (N 299) Q (s 0) (s 1) (s 6) h) (Q (.tup []) h)) hR (fun s h hR => eT hC (fun s h => B.cond (s 15) (zo.k7 C (opsS 16 (.str []) 0) (N 298) (N 299) Q (s 0) (s 1) (s 6) h) (Q (.tup []) h)) hR (fun s h hR => eC 15 hR (fun hR => eT hC (fun s h => B.call C (N 299) [(s 6)] h fun v19 h => zo.k6 C (opsS 16 (.str []) 0) (N 298) (N 299) Q (s 0) (s 1) (s 6) (s 7) v19 h) hR (fun s h hR => eT hC (fun s h => zo.k6 C (opsS 16 (.str []) 0) (N 298) (N 299) Q (s 0) (s 1) (s 6) (s 7) (s 8) h) hR (fun s h hR => eT hC (fun s h => zd (zo.l5 C (opsS 16 (.str []) 0) (N 298) (N 299) Q (s 0) (s 1) (s 6) (s 7) (s 8)) [(s 9)] h) hR (fun s h hR => eK (eL hC [0, 1, 6, 7, 8] [9] (on5 (zo.l5 C (opsS 16 (.str []) 0) (N 298) (N 299) Q)) hR (fun Y1 s h hR => eT hC (fun s h => zo.k3 C (opsS 16 (.str []) 0) (N 298) (N 299) Q Y1 (s 0) (s 1) (s 6) (s 7) (s 8) (s 9) h) hR (fun s h hR => eS hC (fun s h => B.pv (V.bin .add (s 9) (.int .i64 1)) fun v35 => Y1 [v35] h) (eK (eT hC (fun s h => zo.k2 C (opsS 16 (.str []) 0) (N 298) (N 299) Q Y1 (s 0) (s 1) (s 6) (s 7) (s 8) (s 9) (s 10) h) hR (fun s h hR => eT hC (fun s h => zo.k1 C (opsS 16 (.str []) 0) (N 298) (N 299) Q Y1 (s 0) (s 1) (s 6) (s 7) (s 8) (s 9) (s 10) h) hR (fun s h hR => e1 hR)))) (fun s h hR => e1 hR)))))))) (fun hR => e1 hR)))
theorem zb5.imp : zb5.Imp (AC P) N := fun v0 v1 v2 h Q hR => eF mixed (fn := Tryz.f80) (fun hC => zb5.L hC (dn Q) (zcl [v0, v1, v2]) h hR)
def zcb.I : Bx := ⟨[], [], 57, []⟩
theorem zcb.L : LkT P zcb.I Tryz.f81 fun C Q s h => zcb.cps C N (s 0) (s 1) (s 2) h Q := fun {C} hC Q s h hR => eT hC (fun s h => B.pv (V.bin .sub (s 2) (s 1)) fun v15 => B.newO h (some [.int .i64 0]) fun i9 h => z6.k5 C (opsS 16 (.str []) 0) (N 387) (N 388) Q (s 0) (s 1) v15 (.ptr i9 0 0) h) hR (fun s h hR => eT hC (fun s h => B.newO h (some [.int .i64 0]) fun i9 h => z6.k5 C (opsS 16 (.str []) 0) (N 387) (N 388) Q (s 0) (s 1) (s 8) (.ptr i9 0 0) h) hR (fun s h hR => eT hC (fun s h => z6.k5 C (opsS 16 (.str []) 0) (N 387) (N 388) Q (s 0) (s 1) (s 8) (s 9) h) hR (fun s h hR => eT hC (fun s h => z6.k4 C (opsS 16 (.str []) 0) (N 387) (N 388) Q (s 0) (s 1) (s 8) (s 9) (s 10) h) hR (fun s h hR => eT hC (fun s h => z6.k3 C (opsS 16 (.str []) 0) (N 387) (N 388) Q (s 0) (s 1) (s 8) (s 9) (s 10) (s 11) h) hR (fun s h hR => eT hC (fun s h => z6.k2 C (opsS 16 (.str []) 0) (N 387) (N 388) Q (s 0) (s 8) (s 9) (s 10) (s 11) (s 12) h) hR (fun s h hR => eT hC (fun s h => z6.k1 C (opsS 16 (.str []) 0) (N 387) (N 388) Q (s 9) (s 11) h) hR (fun s h hR => e1 hR)))))))
theorem zcb.imp : zcb.Imp (AC P) N := fun v0 v1 v2 h Q hR => eF mixed (fn := Tryz.f81) (fun hC => zcb.L hC (dn Q) (zcl [v0, v1, v2]) h hR)
def zb8.I : Bx := ⟨[], [], 32, [(3, pz [] 16)]⟩
theorem zb8.L : LkT P zb8.I Tryz.f82 fun C Q s h => zb8.cps C N (s 0) (s 1) (s 2) h Q := fun {C} hC Q s h hR => eT hC (fun s h => B.pv (V.bin .sub (s 2) (.int .i64 1)) fun v10 => zd (zcw.l2 C (opsS 16 (.str []) 0) Q (s 0)) [(s 6), v10] h) hR (fun s h hR => eT hC (fun s h => zd (zcw.l2 C (opsS 16 (.str []) 0) Q (s 0)) [(s 6), (s 7)] h) hR (fun s h hR => eK (eL hC [0] [6, 7] (on1 (zcw.l2 C (opsS 16 (.str []) 0) Q)) hR (fun Y1 s h hR => e1 hR))))
theorem zb8.imp : zb8.Imp (AC P) N := fun v0 v1 v2 h Q hR => eF mixed (fn := Tryz.f82) (fun hC => zb8.L hC (dn Q) (zcl [v0, v1, v2]) h hR)
def zbl.I : Bx := ⟨[], [], 133, [(5, pz [] 16), (11, pz [] 18), (16, pz [] 11), (17, pz [] 18), (22, pz [] 11), (23, pz [] 18)]⟩
theorem zbl.L : LkT P zbl.I Tryz.f83 fun C Q s h => zbl.cps C N (s 0) (s 1) (s 2) h Q := fun {C} hC Q s h hR => eT hC (fun s h => B.pv (V.bin .add (s 1) (.int .i64 1)) fun v12 => zd (zf.l12 C (opsS 16 (.str []) 0) (N 377) Q (s 0) (s 1) (s 2)) [v12, (.int .i64 0)] h) hR (fun s h hR => eT hC (fun s h => zd (zf.l12 C (opsS 16 (.str []) 0) (N 377) Q (s 0) (s 1) (s 2)) [(s 7), (.int .i64 0)] h) hR (fun s h hR => eS hC (fun s h => Q (.bool false) h) (eT hC (fun s h => zd (zf.l12 C (opsS 16 (.str []) 0) (N 377) Q (s 0) (s 1) (s 2)) [(s 7), (s 8)] h) hR (fun s h hR => eK (eL hC [0, 1, 2] [7, 8] (on3 (zf.l12 C (opsS 16 (.str []) 0) (N 377) Q)) hR (fun Y1 s h hR => eT hC (fun s h => zd (zf.l10 C (opsS 16 (.str []) 0) (N 377) Q Y1 (s 0) (s 1) (s 2) (s 8)) [(s 7)] h) hR (fun s h hR => eS hC (fun s h => B.pv (V.bin .add (s 8) (.int .i64 1)) fun v16 => Y1 [(s 7), v16] h) (eK (eS hC (fun s h => B.pv (V.bin .eql (s 7) (s 2)) fun v37 => B.cond v37 (Q (.bool true) h) (zf.k8 C (opsS 16 (.str []) 0) (N 377) Q Y1 (s 0) (s 1) (s 2) (s 7) (s 8) h)) (eK (eL hC [0, 1, 2, 8] [7] (on4 (zf.l10 C (opsS 16 (.str []) 0) (N 377) Q Y1)) hR (fun Y4 s h hR => e1 hR))) (fun s h hR => eT hC (fun s h => zf.k8 C (opsS 16 (.str []) 0) (N 377) Q Y1 (s 0) (s 1) (s 2) (s 7) (s 8) h) hR (fun s h hR => eT hC (fun s h => zf.k7 C (opsS 16 (.str []) 0) (N 377) Q Y1 (s 0) (s 1) (s 2) (s 7) (s 8) h) hR (fun s h hR => eT hC (fun s h => zf.k6 C (opsS 16 (.str []) 0) (N 377) Q Y1 (s 0) (s 1) (s 2) (s 7) (s 8) h) hR (fun s h hR => eS hC (fun s h => zf.k3 C (opsS 16 (.str []) 0) (N 377) Q Y1 (s 0) (s 1) (s 2) (s 7) (s 8) h) (eT hC (fun s h => B.cond (s 61) (B.pv (V.bin .sub (s 7) (.int .i64 1)) fun v63 => zd (zf.l5 C (opsS 16 (.str []) 0) (N 377) Q Y1 (s 0) (s 1) (s 2) (s 7) (s 8)) [v63] h) (zf.k3 C (opsS 16 (.str []) 0) (N 377) Q Y1 (s 0) (s 1) (s 2) (s 7) (s 8) h)) hR (fun s h hR => eC 61 hR (fun hR => eT hC (fun s h => zd (zf.l5 C (opsS 16 (.str []) 0) (N 377) Q Y1 (s 0) (s 1) (s 2) (s 7) (s 8)) [(s 9)] h) hR (fun s h hR => eK (eL hC [0, 1, 2, 7, 8] [9] (on5 (zf.l5 C (opsS 16 (.str []) 0) (N 377) Q Y1)) hR (fun Y3 s h hR => e1 hR)))) (fun hR => e1 hR))) (fun s h hR => eT hC (fun s h => B.cond (s 98) (B.pv (V.bin .add (s 7) (.int .i64 1)) fun v100 => zd (zf.l2 C (opsS 16 (.str []) 0) (N 377) Q Y1 (s 0) (s 1) (s 2) (s 7) (s 8)) [v100] h) (B.pv (V.bin .add (s 8) (.int .i64 1)) fun v16 => Y1 [(s 7), v16] h)) hR (fun s h hR => eC 98 hR (fun hR => eT hC (fun s h => zd (zf.l2 C (opsS 16 (.str []) 0) (N 377) Q Y1 (s 0) (s 1) (s 2) (s 7) (s 8)) [(s 10)] h) hR (fun s h hR => eK (eL hC [0, 1, 2, 7, 8] [10] (on5 (zf.l2 C (opsS 16 (.str []) 0) (N 377) Q Y1)) hR (fun Y2 s h hR => e1 hR)))) (fun hR => e1 hR))))))))) (fun s h hR => e1 hR)))))) (fun s h hR => e1 hR)))
theorem zbl.imp : zbl.Imp (AC P) N := fun v0 v1 v2 h Q hR => eF mixed (fn := Tryz.f83) (fun hC => zbl.L hC (dn Q) (zcl [v0, v1, v2]) h hR)
def zc4.I : Bx := ⟨[], [], 17, []⟩
theorem zc4.L : LkT P zc4.I Tryz.f84 fun C Q s h => zc4.cps C N (s 0) (s 1) h Q := fun {C} hC Q s h hR => e1 hR
theorem zc4.imp : zc4.Imp (AC P) N := fun v0 v1 h Q hR => eF mixed (fn := Tryz.f84) (fun hC => zc4.L hC (dn Q) (zcl [v0, v1]) h hR)
def zb1.I : Bx := ⟨[], [], 84, [(1, pz [] 16), (3, pz [] 15), (5, pz [] 14), (8, pz [] 16)]⟩
theorem zb1.L : LkT P zb1.I Tryz.f85 fun C Q s h => zb1.cps C N (s 0) (s 1) (s 2) (s 3) h Q := fun {C} hC Q s h hR => eT hC (fun s h => zp.k8 C (opsS 16 (.str []) 0) (N 377) Q (s 0) (s 1) (s 2) (s 3) h) hR (fun s h hR => eT hC (fun s h => zp.k7 C (opsS 16 (.str []) 0) (N 377) Q (s 0) (s 1) (s 2) h) hR (fun s h hR => eT hC (fun s h => zd (zp.l6 C (opsS 16 (.str []) 0) (N 377) Q (s 0) (s 1)) [(s 9), (s 10)] h) hR (fun s h hR => eS hC (fun s h => Q (s 9) h) (eK (eL hC [0, 1] [9, 10] (on2 (zp.l6 C (opsS 16 (.str []) 0) (N 377) Q)) hR (fun Y1 s h hR => eK (eS hC (fun s h => zd (zp.l3 C (opsS 16 (.str []) 0) (N 377) Q Y1 (s 0) (s 1) (s 9)) [(s 10)] h) (eK (eL hC [0, 1, 10] [9] (on3 (zp.l5 C (opsS 16 (.str []) 0) (N 377) Q Y1)) hR (fun Y3 s h hR => e1 hR))) (fun s h hR => eS hC (fun s h => zp.k1 C (opsS 16 (.str []) 0) (N 377) Q Y1 (s 0) (s 1) (s 9) (s 10) h) (eK (eL hC [0, 1, 9] [10] (on3 (zp.l3 C (opsS 16 (.str []) 0) (N 377) Q Y1)) hR (fun Y2 s h hR => e1 hR))) (fun s h hR => e1 hR)))))) (fun s h hR => e1 hR))))
theorem zb1.imp : zb1.Imp (AC P) N := fun v0 v1 v2 v3 h Q hR => eF mixed (fn := Tryz.f85) (fun hC => zb1.L hC (dn Q) (zcl [v0, v1, v2, v3]) h hR)
def zcf.I : Bx := ⟨[], [], 168, [(1, pz [] 16), (3, pz [] 14), (5, pz [] 15), (8, pz [] 16), (10, pz [] 16), (13, pz [] 14), (15, pz [] 15), (18, pz [] 16), (21, pz [] 16)]⟩
theorem zcf.L : LkT P zcf.I Tryz.f86 fun C Q s h => zcf.cps C N (s 0) (s 1) (s 2) (s 3) h Q := fun {C} hC Q s h hR => eT hC (fun s h => zi.k16 C (opsS 16 (.str []) 0) (N 377) Q (s 0) (s 1) (s 2) (s 3) h) hR (fun s h hR => eT hC (fun s h => zi.k15 C (opsS 16 (.str []) 0) (N 377) Q (s 0) (s 1) (s 2) h) hR (fun s h hR => eT hC (fun s h => zd (zi.l14 C (opsS 16 (.str []) 0) (N 377) Q (s 0) (s 1) (s 11)) [(s 10)] h) hR (fun s h hR => eS hC (fun s h => zd (zi.l12 C (opsS 16 (.str []) 0) (N 377) Q (s 0) (s 1) (s 10)) [(s 11)] h) (eK (eL hC [0, 1, 11] [10] (on3 (zi.l14 C (opsS 16 (.str []) 0) (N 377) Q)) hR (fun Y5 s h hR => e1 hR))) (fun s h hR => eS hC (fun s h => zi.k10 C (opsS 16 (.str []) 0) (N 377) Q (s 0) (s 1) (s 10) (s 11) h) (eK (eL hC [0, 1, 10] [11] (on3 (zi.l12 C (opsS 16 (.str []) 0) (N 377) Q)) hR (fun Y4 s h hR => e1 hR))) (fun s h hR => eT hC (fun s h => zi.k9 C (opsS 16 (.str []) 0) (N 377) Q (s 0) (s 1) (s 10) (s 11) h) hR (fun s h hR => eT hC (fun s h => zi.k8 C (opsS 16 (.str []) 0) (N 377) Q (s 0) (s 1) (s 10) (s 11) h) hR (fun s h hR => eT hC (fun s h => B.pv (V.bin .sub (s 11) (.int .i64 1)) fun v98 => zd (zi.l7 C (opsS 16 (.str []) 0) (N 377) Q (s 0) (s 1)) [(s 10), v98] h) hR (fun s h hR => eT hC (fun s h => zd (zi.l7 C (opsS 16 (.str []) 0) (N 377) Q (s 0) (s 1)) [(s 10), (s 11)] h) hR (fun s h hR => eS hC (fun s h => zi.k1 C (opsS 16 (.str []) 0) (N 377) Q (s 0) (s 1) (s 11) h) (eK (eL hC [0, 1] [10, 11] (on2 (zi.l7 C (opsS 16 (.str []) 0) (N 377) Q)) hR (fun Y1 s h hR => eK (eS hC (fun s h => zd (zi.l4 C (opsS 16 (.str []) 0) (N 377) Q Y1 (s 0) (s 1) (s 10)) [(s 11)] h) (eK (eL hC [0, 1, 11] [10] (on3 (zi.l6 C (opsS 16 (.str []) 0) (N 377) Q Y1)) hR (fun Y3 s h hR => e1 hR))) (fun s h hR => eS hC (fun s h => zi.k2 C (opsS 16 (.str []) 0) (N 377) Q Y1 (s 0) (s 1) (s 10) (s 11) h) (eK (eL hC [0, 1, 10] [11] (on3 (zi.l4 C (opsS 16 (.str []) 0) (N 377) Q Y1)) hR (fun Y2 s h hR => e1 hR))) (fun s h hR => e1 hR)))))) (fun s h hR => e1 hR))))))))))
theorem zcf.imp : zcf.Imp (AC P) N := fun v0 v1 v2 v3 h Q hR => eF mixed (fn := Tryz.f86) (fun hC => zcf.L hC (dn Q) (zcl [v0, v1, v2, v3]) h hR)
def zbr.I : Bx := ⟨[], [], 25, []⟩
theorem zbr.L : LkT P zbr.I Tryz.f88 fun C Q s h => zbr.cps C N (s 0) h Q := fun {C} hC Q s h hR => eT hC (fun s h => zbr.k4 C N Q (s 0) (s 2) h) hR (fun s h hR => eT hC (fun s h => zbr.k3 C N Q (s 0) (s 2) h) hR (fun s h hR => eT hC (fun s h => zbr.k2 C N Q (s 0) (s 2) h) hR (fun s h hR => eT hC (fun s h => zbr.k1 C N Q (s 0) (s 2) h) hR (fun s h hR => e1 hR))))
theorem zbr.imp : zbr.Imp (AC P) N := fun v0 h Q hR => eF mixed (fn := Tryz.f88) (fun hC => zbr.L hC (dn Q) (zcl [v0]) h hR)
def zct.I : Bx := ⟨[9], [29, 35], 44, []⟩
theorem zct.L : LkT P zct.I Tryz.f114 fun C Q s h => zct.cps C N (s 0) (s 1) (s 2) (s 3) h Q := fun {C} hC Q s h hR => eT hC (fun s h => zct.k4 C N Q (s 0) (s 1) (s 2) (s 3) h) hR (fun s h hR => eT hC (fun s h => B.ld h (s 1) fun v17 => B.mset h .s v17 (s 0) (.int .i64 (-1)) fun h => zct.k3 C N Q (s 0) (s 1) (s 2) (s 3) (.int .i64 1) h) hR (fun s h hR => eT hC (fun s h => zct.k3 C N Q (s 0) (s 1) (s 2) (s 3) (.int .i64 1) h) hR (fun s h hR => eT hC (fun s h => zct.k3 C N Q (s 0) (s 1) (s 2) (s 3) (s 7) h) hR (fun s h hR => eS hC (fun s h => B.ld h (s 1) fun v41 => B.mset h .s v41 (s 0) (s 7) fun h => Q (.bool true) h) (eT hC (fun s h => zd (zct.l2 C N Q (s 0) (s 1) (s 3) (s 22) (s 23)) [(s 7), (s 24)] h) hR (fun s h hR => eK (eL hC [0, 1, 3, 22, 23] [7, 24] (on5 (zct.l2 C N Q)) hR (fun Y1 s h hR => e1 hR)))) (fun s h hR => e1 hR)))))
theorem zct.imp : zct.Imp (AC P) N := fun v0 v1 v2 v3 h Q hR => eF mixed (fn := Tryz.f114) (fun hC => zct.L hC (dn Q) (zcl [v0, v1, v2, v3]) h hR)
def zci.I : Bx := ⟨[], [], 76, [(3, pz [] 20), (5, pz [] 14), (6, pz [] 24)]⟩
theorem zci.L : LkT P zci.I Tryz.f115 fun C Q s h => zci.cps C N (s 0) (s 1) (s 2) (s 3) h Q := fun {C} hC Q s h hR => eT hC (fun s h => zd (zb7.l4 C (opsS 16 (.str []) 0) (N 377) Q (s 0) (s 2) (s 3)) [(s 8)] h) hR (fun s h hR => eK (eL hC [0, 2, 3] [8] (on3 (zb7.l4 C (opsS 16 (.str []) 0) (N 377) Q)) hR (fun Y1 s h hR => eK (eT hC (fun s h => B.pv (V.bin .geq (s 9) (s 2)) fun v16 => B.cond v16 (Q (.tup []) h) (zb7.k2 C (opsS 16 (.str []) 0) (N 377) Q Y1 (s 0) (s 2) (s 3) (s 8) (s 9) h)) hR (fun s h hR => eT hC (fun s h => zb7.k2 C (opsS 16 (.str []) 0) (N 377) Q Y1 (s 0) (s 2) (s 3) (s 8) (s 9) h) hR (fun s h hR => eT hC (fun s h => zb7.k1 C (opsS 16 (.str []) 0) (N 377) Q Y1 (s 0) (s 2) (s 3) (s 8) (s 9) h) hR (fun s h hR => e1 hR)))))))
theorem zci.imp : zci.Imp (AC P) N := fun v0 v1 v2 v3 h Q hR => eF mixed (fn := Tryz.f115) (fun hC => zci.L hC (dn Q) (zcl [v0, v1, v2, v3]) h hR)
def zcv.I : Bx := ⟨[], [], 7, []⟩
theorem zcv.L : LkT P zcv.I Tryz.f116 fun C Q s h => zcv.cps C N (s 0) h Q := fun {C} hC Q s h hR => e1 hR
theorem zcv.imp : zcv.Imp (AC P) N := fun v0 h Q hR => eF mixed (fn := Tryz.f116) (fun hC => zcv.L hC (dn Q) (zcl [v0]) h hR)
def zcm.I : Bx := ⟨[], [], 33, [(1, pz [] 10), (2, pz [] 10), (3, pz [] 10)]⟩
theorem zcm.L : LkT P zcm.I Tryz.f117 fun C Q s h => zcm.cps C N (s 0) h Q := fun {C} hC Q s h hR => e1 hR
theorem zcm.imp : zcm.Imp (AC P) N := fun v0 h Q hR => eF mixed (fn := Tryz.f117) (fun hC => zcm.L hC (dn Q) (zcl [v0]) h hR)
def zb2.I : Bx := ⟨[], [], 15, []⟩
theorem zb2.L : LkT P zb2.I Tryz.f118 fun C Q s h => zb2.cps C N (s 0) (s 1) (s 2) h Q := fun {C} hC Q s h hR => e1 hR
theorem zb2.imp : zb2.Imp (AC P) N := fun v0 v1 v2 h Q hR => eF mixed (fn := Tryz.f118) (fun hC => zb2.L hC (dn Q) (zcl [v0, v1, v2]) h hR)
def zcr.I : Bx := ⟨[], [], 36, []⟩
theorem zcr.L : LkT P zcr.I Tryz.f119 fun C Q s h => zcr.cps C N (s 0) (s 1) (s 2) (s 3) (s 4) h Q := fun {C} hC Q s h hR => e1 hR
theorem zcr.imp : zcr.Imp (AC P) N := fun v0 v1 v2 v3 v4 h Q hR => eF mixed (fn := Tryz.f119) (fun hC => zcr.L hC (dn Q) (zcl [v0, v1, v2, v3, v4]) h hR)
def zc6.I : Bx := ⟨[], [], 6, []⟩
theorem zc6.L : LkT P zc6.I Tryz.f120 fun C Q s h => zc6.cps C N (s 0) h Q := fun {C} hC Q s h hR => e1 hR
theorem zc6.imp : zc6.Imp (AC P) N := fun v0 h Q hR => eF mixed (fn := Tryz.f120) (fun hC => zc6.L hC (dn Q) (zcl [v0]) h hR)
def zcq.I : Bx := ⟨[], [], 28, [(1, pz [] 9)]⟩
theorem zcq.L : LkT P zcq.I Tryz.f129 fun C Q s h => zcq.cps C N (s 0) (s 1) (s 2) (s 3) h Q := fun {C} hC Q s h hR => e1 hR
theorem zcq.imp : zcq.Imp (AC P) N := fun v0 v1 v2 v3 h Q hR => eF mixed (fn := Tryz.f129) (fun hC => zcq.L hC (dn Q) (zcl [v0, v1, v2, v3]) h hR)
end Go.Ab.S08z
