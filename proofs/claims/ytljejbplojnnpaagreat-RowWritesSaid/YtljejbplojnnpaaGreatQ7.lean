/- What is proved: a part of the way to the statement: Rrow. No conditions. -/
import Derived.Test.YtljejbplojnnpaaGreatQ3
import Derived.Test.YtljejbplojnnpaaGreatQ6
import Derived.Test.YtljejbplojnnpaaGreatRows
import Derived.Lib.Bytealg
set_option linter.unusedVariables false
set_option linter.unusedSimpArgs false
namespace Go.Ab
@[simp] def zq.k1 (C : CSem) (N : Nat → Nat) (Q : AVal → za → Prop) (Y1 : List AVal → za → Prop) (v3 v4 v146 v147 v148 : AVal) (h : za) : Prop :=
 B.pv (V.bin .lss v148 v147) fun v149 =>
  B.cond v149
  (B.pv (V.idxS 8 v146 v148) fun v150 =>
  B.ldn h v150 8 fun v151 =>
  B.pv (V.setN 0 8 v151 (.agg [.int .i64 0, .str [], .int .i64 0, .int .i64 0, .int .i64 0, .int .u8 0, .int .i64 0, .str []])) fun c16 =>
  B.al c16 (B.pv (V.zd 0 c16) fun v156 =>
  B.al c16 (B.pv (V.zd 1 c16) fun v161 =>
  B.al c16 (B.pv (V.zd 2 c16) fun v164 =>
  B.al c16 (B.pv (V.zd 3 c16) fun v167 =>
  B.al c16 (B.pv (V.zd 4 c16) fun v170 =>
  B.pv (V.toInt .u8 v170) fun v171 =>
  B.al c16 (B.pv (V.zd 5 c16) fun v173 =>
  B.al c16 (B.pv (V.zd 6 c16) fun v176 =>
  B.pv (V.bin .add v176 (.int .i64 1)) fun v177 =>
  B.al c16 (B.pv (V.zd 7 c16) fun v180 =>
  B.call C (N 423) [v156, (.int .i64 8)] h fun v157 h =>
  B.newO h (zc7 [(0, none, (.int .u8 111))] (repL 1 [.int .u8 0])) fun i153 h =>
  B.conv h (.sl i153 0 0 1 1 1) fun v154 =>
  B.newO h (zc7 [(0, none, v154), (1, none, v157)] (repL 2 [.nils])) fun i158 h =>
  B.call C (N 424) [(.sl i158 0 0 2 1 2)] h fun v159 h =>
  B.call C (N 51) [v161] h fun v162 h =>
  B.call C (N 423) [v164, (.int .i64 4)] h fun v165 h =>
  B.call C (N 423) [v167, (.int .i64 2)] h fun v168 h =>
  B.call C (N 423) [v177, (.int .i64 2)] h fun v178 h =>
  B.call C (N 51) [v180] h fun v181 h =>
  B.newO h (zc7 [(0, none, v171), (1, none, v173)] (repL 2 [.int .u8 0])) fun i174 h =>
  B.newO h (zc7 [(0, none, v162), (1, none, v165), (2, none, v168), (3, none, (.sl i174 0 0 2 1 2)), (4, none, v178), (5, none, v181)] (repL 6 [.nils])) fun i182 h =>
  B.zj3 h C v4 [v159, (.sl i182 0 0 6 1 6)] fun v183 h =>
  B.pv (V.bin .add v148 (.int .i64 1)) fun v184 =>
  Y1 [v184] h)))))))))
  (B.ld h v3 fun v185 =>
  Q v185 h)
@[simp] def zq.l2 (C : CSem) (N : Nat → Nat) (Q : AVal → za → Prop) (v3 v4 v146 v147 : AVal) : List AVal → za → (List AVal → za → Prop) → Prop
 | [v148], h, Y1 => zq.k1 C N Q Y1 v3 v4 v146 v147 v148 h
 | _, _, _ => False
@[simp] def zq.k3 (C : CSem) (N : Nat → Nat) (Q : AVal → za → Prop) (Y2 : List AVal → za → Prop) (v3 v4 v14 v108 v109 v110 c1 c13 : AVal) (h : za) : Prop :=
 B.al c13 (B.pv (V.zd 0 c13) fun v123 =>
  B.al c13 (B.pv (V.zd 1 c13) fun v128 =>
  B.al c13 (B.al c13 (B.pv (V.zd 2 c13) fun v132 =>
  B.al c13 (B.al c13 (B.pv (V.zd 3 c13) fun v136 =>
  B.al c13 (B.pv (V.zd 4 c13) fun v139 =>
  B.call C (N 423) [v123, (.int .i64 8)] h fun v124 h =>
  B.newO h (zc7 [(0, none, (.int .u8 108))] (repL 1 [.int .u8 0])) fun i120 h =>
  B.conv h (.sl i120 0 0 1 1 1) fun v121 =>
  B.newO h (zc7 [(0, none, v121), (1, none, v124)] (repL 2 [.nils])) fun i125 h =>
  B.call C (N 424) [(.sl i125 0 0 2 1 2)] h fun v126 h =>
  B.call C (N 51) [v128] h fun v129 h =>
  B.call C (N 423) [v132, (.int .i64 2)] h fun v133 h =>
  B.call C (N 423) [v136, (.int .i64 2)] h fun v137 h =>
  B.call C (N 423) [v139, (.int .i64 4)] h fun v140 h =>
  B.newO h (zc7 [(0, none, v129), (1, none, v133), (2, none, v137), (3, none, v140), (4, none, v14)] (repL 5 [.nils])) fun i142 h =>
  B.zj3 h C v4 [v126, (.sl i142 0 0 5 1 5)] fun v143 h =>
  B.pv (V.bin .add v110 (.int .i64 1)) fun v144 =>
  Y2 [v144] h)))))))
@[simp] def zq.k4 (C : CSem) (N : Nat → Nat) (Q : AVal → za → Prop) (Y2 : List AVal → za → Prop) (v3 v4 v14 v108 v109 v110 c1 c13 : AVal) (h : za) : Prop :=
 B.al c13 (B.pv (V.zd 5 c13) fun v116 =>
  B.cond v116
  (B.pv (V.idxS 1 v14 (.int .i64 0)) fun v118 =>
  B.st h v118 (.int .u8 1) fun h =>
  zq.k3 C N Q Y2 v3 v4 v14 v108 v109 v110 c1 c13 h)
  (zq.k3 C N Q Y2 v3 v4 v14 v108 v109 v110 c1 c13 h))
@[simp] def zq.k5 (C : CSem) (N : Nat → Nat) (Q : AVal → za → Prop) (Y2 : List AVal → za → Prop) (v3 v4 v108 v109 v110 c1 : AVal) (h : za) : Prop :=
 B.pv (V.idxS 6 v108 v110) fun v112 =>
  B.ldn h v112 6 fun v113 =>
  B.pv (V.setN 0 6 v113 (.agg [.int .i64 0, .str [], .int .i64 0, .int .i64 0, .int .i64 0, .bool false])) fun c13 =>
  B.newO h (zc7 [(0, none, (.int .u8 0))] (repL 1 [.int .u8 0])) fun i114 h =>
  zq.k4 C N Q Y2 v3 v4 (.sl i114 0 0 1 1 1) v108 v109 v110 c1 c13 h
@[simp] def zq.k6 (C : CSem) (N : Nat → Nat) (Q : AVal → za → Prop) (Y2 : List AVal → za → Prop) (v3 v4 v108 v109 v110 v111 c1 : AVal) (h : za) : Prop :=
 B.cond v111
  (zq.k5 C N Q Y2 v3 v4 v108 v109 v110 c1 h)
  (B.al c1 (B.pv (V.zd 5 c1) fun v146 =>
  B.pv (V.zi v146) fun v147 =>
  zg (zq.l2 C N Q v3 v4 v146 v147) [(.int .i64 0)] h))
@[simp] def zq.l7 (C : CSem) (N : Nat → Nat) (Q : AVal → za → Prop) (v3 v4 v108 v109 c1 : AVal) : List AVal → za → (List AVal → za → Prop) → Prop
 | [v110], h, Y2 => B.pv (V.bin .lss v110 v109) fun v111 =>
  zq.k6 C N Q Y2 v3 v4 v108 v109 v110 v111 c1 h
 | _, _, _ => False
@[simp] def zq.k8 (C : CSem) (N : Nat → Nat) (Q : AVal → za → Prop) (Y3 : List AVal → za → Prop) (v3 v4 v7 v46 v47 v48 c1 c6 : AVal) (h : za) : Prop :=
 B.al c6 (B.pv (V.zd 0 c6) fun v101 =>
  B.pv (V.bin .add (.str [105]) v101) fun v102 =>
  B.zgk h v102 fun v103 h =>
  B.zj3 h C v4 [v103, v7] fun v105 h =>
  B.pv (V.bin .add v48 (.int .i64 1)) fun v106 =>
  Y3 [v106] h)
@[simp] def zq.k9 (C : CSem) (N : Nat → Nat) (Q : AVal → za → Prop) (Y3 : List AVal → za → Prop) (Y4 : List AVal → za → Prop) (v3 v4 v7 v46 v47 v48 v87 v88 v89 c1 c6 : AVal) (h : za) : Prop :=
 B.pv (V.bin .lss v89 v88) fun v90 =>
  B.cond v90
  (B.pv (V.idxS 1 v87 v89) fun v91 =>
  B.ld h v91 fun v92 =>
  B.call C (N 51) [v92] h fun v95 h =>
  B.newO h (zc7 [(0, none, v95)] (repL 1 [.nils])) fun i96 h =>
  B.appW h 1 24 v7 (.sl i96 0 0 1 1 1) fun v97 h =>
  B.pv (V.bin .add v89 (.int .i64 1)) fun v98 =>
  Y4 [v97, v98] h)
  (zq.k8 C N Q Y3 v3 v4 v7 v46 v47 v48 c1 c6 h)
@[simp] def zq.l10 (C : CSem) (N : Nat → Nat) (Q : AVal → za → Prop) (Y3 : List AVal → za → Prop) (v3 v4 v46 v47 v48 v87 v88 c1 c6 : AVal) : List AVal → za → (List AVal → za → Prop) → Prop
 | [v7, v89], h, Y4 => zq.k9 C N Q Y3 Y4 v3 v4 v7 v46 v47 v48 v87 v88 v89 c1 c6 h
 | _, _, _ => False
@[simp] def zq.k11 (C : CSem) (N : Nat → Nat) (Q : AVal → za → Prop) (Y3 : List AVal → za → Prop) (v3 v4 v7 v46 v47 v48 c1 c6 : AVal) (h : za) : Prop :=
 B.al c6 (B.pv (V.zd 3 c6) fun v87 =>
  B.pv (V.zi v87) fun v88 =>
  zg (zq.l10 C N Q Y3 v3 v4 v46 v47 v48 v87 v88 c1 c6) [v7, (.int .i64 0)] h)
@[simp] def zq.k12 (C : CSem) (N : Nat → Nat) (Q : AVal → za → Prop) (Y3 : List AVal → za → Prop) (v3 v4 v7 v46 v47 v48 c1 c6 : AVal) (h : za) : Prop :=
 B.al c6 (B.pv (V.zd 3 c6) fun v80 =>
  B.pv (V.zi v80) fun v81 =>
  B.pv (V.toInt .u8 v81) fun v82 =>
  B.newO h (zc7 [(0, none, v82)] (repL 1 [.int .u8 0])) fun i83 h =>
  B.newO h (zc7 [(0, none, (.sl i83 0 0 1 1 1))] (repL 1 [.nils])) fun i84 h =>
  B.appW h 1 24 v7 (.sl i84 0 0 1 1 1) fun v85 h =>
  zq.k11 C N Q Y3 v3 v4 v85 v46 v47 v48 c1 c6 h)
@[simp] def zq.k13 (C : CSem) (N : Nat → Nat) (Q : AVal → za → Prop) (Y3 : List AVal → za → Prop) (Y5 : List AVal → za → Prop) (v3 v4 v7 v46 v47 v48 v62 v63 v64 c1 c6 : AVal) (h : za) : Prop :=
 B.pv (V.bin .lss v64 v63) fun v65 =>
  B.cond v65
  (B.pv (V.idxS 2 v62 v64) fun v66 =>
  B.ldn h v66 2 fun v67 =>
  B.pv (V.setN 0 2 v67 (.agg [.str [], .int .i64 0])) fun c9 =>
  B.al c9 (B.pv (V.zd 0 c9) fun v70 =>
  B.al c9 (B.pv (V.zd 1 c9) fun v73 =>
  B.call C (N 51) [v70] h fun v71 h =>
  B.call C (N 423) [v73, (.int .i64 4)] h fun v74 h =>
  B.newO h (zc7 [(0, none, v71), (1, none, v74)] (repL 2 [.nils])) fun i75 h =>
  B.appW h 1 24 v7 (.sl i75 0 0 2 1 2) fun v76 h =>
  B.pv (V.bin .add v64 (.int .i64 1)) fun v77 =>
  Y5 [v76, v77] h)))
  (zq.k12 C N Q Y3 v3 v4 v7 v46 v47 v48 c1 c6 h)
@[simp] def zq.l14 (C : CSem) (N : Nat → Nat) (Q : AVal → za → Prop) (Y3 : List AVal → za → Prop) (v3 v4 v46 v47 v48 v62 v63 c1 c6 : AVal) : List AVal → za → (List AVal → za → Prop) → Prop
 | [v7, v64], h, Y5 => zq.k13 C N Q Y3 Y5 v3 v4 v7 v46 v47 v48 v62 v63 v64 c1 c6 h
 | _, _, _ => False
@[simp] def zq.k15 (C : CSem) (N : Nat → Nat) (Q : AVal → za → Prop) (Y3 : List AVal → za → Prop) (v3 v4 v7 v46 v47 v48 c1 c6 : AVal) (h : za) : Prop :=
 B.al c6 (B.pv (V.zd 2 c6) fun v62 =>
  B.pv (V.zi v62) fun v63 =>
  zg (zq.l14 C N Q Y3 v3 v4 v46 v47 v48 v62 v63 c1 c6) [v7, (.int .i64 0)] h)
@[simp] def zq.k16 (C : CSem) (N : Nat → Nat) (Q : AVal → za → Prop) (Y3 : List AVal → za → Prop) (v3 v4 v46 v47 v48 c1 c6 : AVal) (h : za) : Prop :=
 B.al c6 (B.pv (V.zd 1 c6) fun v53 =>
  B.al c6 (B.pv (V.zd 2 c6) fun v56 =>
  B.pv (V.zi v56) fun v57 =>
  B.pv (V.toInt .u8 v57) fun v58 =>
  B.call C (N 423) [v53, (.int .i64 2)] h fun v54 h =>
  B.newO h (zc7 [(0, none, v58)] (repL 1 [.int .u8 0])) fun i59 h =>
  B.newO h (zc7 [(0, none, v54), (1, none, (.sl i59 0 0 1 1 1))] (repL 2 [.nils])) fun i60 h =>
  zq.k15 C N Q Y3 v3 v4 (.sl i60 0 0 2 1 2) v46 v47 v48 c1 c6 h))
@[simp] def zq.k17 (C : CSem) (N : Nat → Nat) (Q : AVal → za → Prop) (Y3 : List AVal → za → Prop) (v3 v4 v46 v47 v48 c1 : AVal) (h : za) : Prop :=
 B.pv (V.idxS 4 v46 v48) fun v50 =>
  B.ldn h v50 4 fun v51 =>
  B.pv (V.setN 0 4 v51 (.agg [.str [], .int .i64 0, .nils, .nils])) fun c6 =>
  zq.k16 C N Q Y3 v3 v4 v46 v47 v48 c1 c6 h
@[simp] def zq.k18 (C : CSem) (N : Nat → Nat) (Q : AVal → za → Prop) (Y3 : List AVal → za → Prop) (v3 v4 v46 v47 v48 v49 c1 : AVal) (h : za) : Prop :=
 B.cond v49
  (zq.k17 C N Q Y3 v3 v4 v46 v47 v48 c1 h)
  (B.al c1 (B.pv (V.zd 4 c1) fun v108 =>
  B.pv (V.zi v108) fun v109 =>
  zg (zq.l7 C N Q v3 v4 v108 v109 c1) [(.int .i64 0)] h))
@[simp] def zq.l19 (C : CSem) (N : Nat → Nat) (Q : AVal → za → Prop) (v3 v4 v46 v47 c1 : AVal) : List AVal → za → (List AVal → za → Prop) → Prop
 | [v48], h, Y3 => B.pv (V.bin .lss v48 v47) fun v49 =>
  zq.k18 C N Q Y3 v3 v4 v46 v47 v48 v49 c1 h
 | _, _, _ => False
@[simp] def zq.k20 (C : CSem) (N : Nat → Nat) (Q : AVal → za → Prop) (v3 v4 c1 : AVal) (h : za) : Prop :=
 B.newO h (zc7 [(0, none, (.int .u8 42)), (1, none, (.int .u8 108)), (2, none, (.int .u8 111)), (3, none, (.int .u8 116))] (repL 4 [.int .u8 0])) fun i38 h =>
  B.conv h (.sl i38 0 0 4 1 4) fun v39 =>
  B.al c1 (B.pv (V.zd 1 c1) fun v41 =>
  B.call C (N 423) [v41, (.int .i64 8)] h fun v42 h =>
  B.newO h (zc7 [(0, none, v42)] (repL 1 [.nils])) fun i43 h =>
  B.zj3 h C v4 [v39, (.sl i43 0 0 1 1 1)] fun v44 h =>
  B.al c1 (B.pv (V.zd 3 c1) fun v46 =>
  B.pv (V.zi v46) fun v47 =>
  zg (zq.l19 C N Q v3 v4 v46 v47 c1) [(.int .i64 0)] h))
@[simp] def zq.k21 (C : CSem) (N : Nat → Nat) (Q : AVal → za → Prop) (v3 v4 c1 : AVal) (h : za) : Prop :=
 B.newO h (zc7 [(0, none, (.int .u8 42)), (1, none, (.int .u8 108)), (2, none, (.int .u8 105)), (3, none, (.int .u8 110)), (4, none, (.int .u8 101))] (repL 5 [.int .u8 0])) fun i30 h =>
  B.conv h (.sl i30 0 0 5 1 5) fun v31 =>
  B.al c1 (B.pv (V.zd 2 c1) fun v33 =>
  B.call C (N 423) [v33, (.int .i64 8)] h fun v34 h =>
  B.newO h (zc7 [(0, none, v34)] (repL 1 [.nils])) fun i35 h =>
  B.zj3 h C v4 [v31, (.sl i35 0 0 1 1 1)] fun v36 h =>
  zq.k20 C N Q v3 v4 c1 h)
@[simp] def zq.k22 (C : CSem) (N : Nat → Nat) (Q : AVal → za → Prop) (v3 v4 c1 : AVal) (h : za) : Prop :=
 B.newO h (zc7 [(0, none, (.int .u8 42)), (1, none, (.int .u8 100)), (2, none, (.int .u8 97)), (3, none, (.int .u8 121))] (repL 4 [.int .u8 0])) fun i22 h =>
  B.conv h (.sl i22 0 0 4 1 4) fun v23 =>
  B.al c1 (B.pv (V.zd 0 c1) fun v25 =>
  B.call C (N 423) [v25, (.int .i64 2)] h fun v26 h =>
  B.newO h (zc7 [(0, none, v26)] (repL 1 [.nils])) fun i27 h =>
  B.zj3 h C v4 [v23, (.sl i27 0 0 1 1 1)] fun v28 h =>
  zq.k21 C N Q v3 v4 c1 h)
@[simp] def zq.k23 (C : CSem) (N : Nat → Nat) (Q : AVal → za → Prop) (c1 : AVal) (h : za) : Prop :=
 B.pv (V.zb4 0 6 c1) fun v17 =>
  B.call C (N 426) [v17] h fun v18 h =>
  B.pv (V.un .not v18) fun v19 =>
  B.cond v19
  (Q .nils h)
  (B.newO h (some [.nils]) fun i3 h =>
  zq.k22 C N Q (.ptr i3 0 0) (.fn (N 425) [] [(.ptr i3 0 0)]) c1 h)
@[simp] def zq.cps (C : CSem) (N : Nat → Nat) (v0 : AVal) (h : za) (Q : AVal → za → Prop) : Prop :=
 B.pv (A.boxN 6 v0) fun c1 =>
  zq.k23 C N Q c1 h
def zq.Imp (C : CSem) (N : Nat → Nat) : Prop := ∀ (v0 : AVal) (h : za) (Q : AVal → za → Prop), zq.cps C N v0 h (dn Q) → C (N 412) [v0] h Q
@[simp] def zx.k1 (C : CSem) (N : Nat → Nat) (Q : AVal → za → Prop) (v5 c2 c4 : AVal) (h : za) : Prop :=
 B.pv (V.zb4 0 6 c4) fun v133 =>
  B.call C (N 412) [v133] h fun v134 h =>
  B.call C (N 431) [v134, v5, (.fn (N 430) [] [])] h fun v137 h =>
  B.pv (V.un .not v137) fun v138 =>
  B.gd h v138 false (fun K => K v5 h) fun v140 h =>
  B.gd h v138 false (fun K => B.pv (V.zi v140) fun v => K v h) fun v141 h =>
  B.gd h v138 false (fun K => B.pv (V.bin .eql v141 (.int .i64 0)) fun v => K v h) fun v142 h =>
  B.pick v138 (.bool true) v142 fun v143 =>
  B.cond v143
  (B.pv (A.bld [] [.int .i64 0, .int .i64 0, .int .i64 0, .nils, .nils, .nils]) fun v144 =>
  B.pv (V.setN 0 6 v144 c2) fun c2 =>
  B.pv (oneOf (zfq (V.zb4 0 6 c2) (zfq (some (.int .i64 4)) (some [])))) fun v => Q v h)
  (B.pv (V.zb4 0 6 c4) fun v145 =>
  B.pv (V.setN 0 6 v145 c2) fun c2 =>
  B.pv (oneOf (zfq (V.zb4 0 6 c2) (zfq (some (.int .i64 0)) (some [])))) fun v => Q v h)
@[simp] def zx.k2 (C : CSem) (N : Nat → Nat) (Q : AVal → za → Prop) (Y1 : List AVal → za → Prop) (v0 v5 v8 v9 v12 v13 v14 c2 c4 : AVal) (h : za) : Prop :=
 B.nilCheck v8 fun v122 =>
  B.pv (V.fieldAddr 1 v122) fun v123 =>
  B.ld h v123 fun v124 =>
  B.gd h v124 false (fun K => K v9 h) fun v126 h =>
  B.gd h v124 false (fun K => B.nilCheck v126 fun v => K v h) fun v127 h =>
  B.gd h v124 false (fun K => B.pv (V.fieldAddr 1 v127) fun v => K v h) fun v128 h =>
  B.gd h v124 false (fun K => B.ld h v128 fun v => K v h) fun v129 h =>
  B.pick v124 (.bool true) v129 fun v130 =>
  B.cond v130
  (B.pv (A.bld [] [.int .i64 0, .int .i64 0, .int .i64 0, .nils, .nils, .nils]) fun v131 =>
  B.pv (V.setN 0 6 v131 c2) fun c2 =>
  B.pv (oneOf (zfq (V.zb4 0 6 c2) (zfq (some (.int .i64 4)) (some [])))) fun v => Q v h)
  (B.pv (V.bin .add v14 (.int .i64 1)) fun v132 =>
  Y1 [v5, v132, c2, c4] h)
@[simp] def zx.k3 (C : CSem) (N : Nat → Nat) (Q : AVal → za → Prop) (Y1 : List AVal → za → Prop) (v0 v5 v8 v9 v12 v13 v14 c2 c4 c7 : AVal) (h : za) : Prop :=
 B.al c7 (B.pv (V.zd 0 c7) fun v59 =>
  B.zek h v59 fun v60 =>
  B.pv (V.bin .eql v60 (.str [42, 100, 97, 121])) fun v66 =>
  B.cond v66
  (B.call C (N 432) [v8, (.int .i64 2)] h fun v68 h =>
  B.al c4 (B.pv (V.setF 0 v68 c4) fun c4 =>
  zx.k2 C N Q Y1 v0 v5 v8 v9 v12 v13 v14 c2 c4 h))
  (B.pv (V.bin .eql v60 (.str [42, 108, 111, 116])) fun v72 =>
  B.cond v72
  (B.call C (N 432) [v8, (.int .i64 8)] h fun v74 h =>
  B.al c4 (B.pv (V.setF 1 v74 c4) fun c4 =>
  zx.k2 C N Q Y1 v0 v5 v8 v9 v12 v13 v14 c2 c4 h))
  (B.pv (V.bin .eql v60 (.str [42, 108, 105, 110, 101])) fun v78 =>
  B.cond v78
  (B.call C (N 432) [v8, (.int .i64 8)] h fun v80 h =>
  B.al c4 (B.pv (V.setF 2 v80 c4) fun c4 =>
  zx.k2 C N Q Y1 v0 v5 v8 v9 v12 v13 v14 c2 c4 h))
  (B.pv (V.zja v60 (.int .i64 0)) fun v84 =>
  B.pv (V.bin .eql v84 (.int .u8 105)) fun v85 =>
  B.cond v85
  (B.al c4 (B.pv (V.zd 3 c4) fun v87 =>
  B.pv (V.zup v60 (some (.int .i64 1)) none) fun v90 =>
  B.call C (N 433) [v8, v90] h fun v91 h =>
  B.newO h (zc7 [(0, some 4, v91)] (repL 1 [.str [], .int .i64 0, .nils, .nils])) fun i92 h =>
  B.appW h 4 72 v87 (.sl i92 0 0 1 4 1) fun v93 h =>
  B.al c4 (B.pv (V.setF 3 v93 c4) fun c4 =>
  zx.k2 C N Q Y1 v0 v5 v8 v9 v12 v13 v14 c2 c4 h)))
  (B.pv (V.zja v60 (.int .i64 0)) fun v97 =>
  B.pv (V.bin .eql v97 (.int .u8 108)) fun v98 =>
  B.cond v98
  (B.al c4 (B.pv (V.zd 4 c4) fun v100 =>
  B.call C (N 432) [v9, (.int .i64 8)] h fun v103 h =>
  B.call C (N 434) [v8, v103] h fun v104 h =>
  B.newO h (zc7 [(0, some 6, v104)] (repL 1 [.int .i64 0, .str [], .int .i64 0, .int .i64 0, .int .i64 0, .bool false])) fun i105 h =>
  B.appW h 6 56 v100 (.sl i105 0 0 1 6 1) fun v106 h =>
  B.al c4 (B.pv (V.setF 4 v106 c4) fun c4 =>
  zx.k2 C N Q Y1 v0 v5 v8 v9 v12 v13 v14 c2 c4 h)))
  (B.pv (V.zja v60 (.int .i64 0)) fun v110 =>
  B.pv (V.bin .eql v110 (.int .u8 111)) fun v111 =>
  B.cond v111
  (B.al c4 (B.pv (V.zd 5 c4) fun v113 =>
  B.call C (N 432) [v9, (.int .i64 8)] h fun v116 h =>
  B.call C (N 435) [v8, v116] h fun v117 h =>
  B.newO h (zc7 [(0, some 8, v117)] (repL 1 [.int .i64 0, .str [], .int .i64 0, .int .i64 0, .int .i64 0, .int .u8 0, .int .i64 0, .str []])) fun i118 h =>
  B.appW h 8 80 v113 (.sl i118 0 0 1 8 1) fun v119 h =>
  B.al c4 (B.pv (V.setF 5 v119 c4) fun c4 =>
  zx.k2 C N Q Y1 v0 v5 v8 v9 v12 v13 v14 c2 c4 h)))
  (B.nilCheck v8 fun v62 =>
  B.pv (V.fieldAddr 1 v62) fun v63 =>
  B.st h v63 (.bool true) fun h =>
  zx.k2 C N Q Y1 v0 v5 v8 v9 v12 v13 v14 c2 c4 h)))))))
@[simp] def zx.k4 (C : CSem) (N : Nat → Nat) (Q : AVal → za → Prop) (Y1 : List AVal → za → Prop) (v0 v5 v12 v13 v14 c2 c4 c7 : AVal) (h : za) : Prop :=
 B.al c7 (B.pv (V.zd 1 c7) fun v50 =>
  B.pv (A.bld [(0, none, v50)] [.nils, .bool false]) fun v51 =>
  B.al c7 (B.pv (V.zd 0 c7) fun v54 =>
  B.pv (V.zfs 1 v54 (some (.int .i64 1)) none) fun v55 =>
  B.pv (A.bld [(0, none, v55)] [.nils, .bool false]) fun v56 =>
  B.newO h (A.zk9 2 v51) fun i52 h =>
  B.newO h (A.zk9 2 v56) fun i57 h =>
  zx.k3 C N Q Y1 v0 v5 (.ptr i52 0 0) (.ptr i57 0 0) v12 v13 v14 c2 c4 c7 h))
@[simp] def zx.k5 (C : CSem) (N : Nat → Nat) (Q : AVal → za → Prop) (Y1 : List AVal → za → Prop) (v0 v5 v12 v13 v14 c2 c4 c7 : AVal) (h : za) : Prop :=
 B.pv (V.zb4 0 2 c7) fun v46 =>
  B.newO h (zc7 [(0, some 2, v46)] (repL 1 [.nils, .nils])) fun i47 h =>
  B.appW h 2 48 v5 (.sl i47 0 0 1 2 1) fun v48 h =>
  zx.k4 C N Q Y1 v0 v48 v12 v13 v14 c2 c4 c7 h
@[simp] def zx.k6 (C : CSem) (N : Nat → Nat) (Q : AVal → za → Prop) (Y1 : List AVal → za → Prop) (v0 v5 v12 v13 v14 c2 c4 c7 : AVal) (h : za) : Prop :=
 B.al c7 (B.pv (V.zd 0 c7) fun v41 =>
  B.pv (V.idxS 1 v41 (.int .i64 0)) fun v42 =>
  B.ld h v42 fun v43 =>
  B.pv (V.bin .eql v43 (.int .u8 97)) fun v44 =>
  B.cond v44
  (B.pv (V.bin .add v14 (.int .i64 1)) fun v132 =>
  Y1 [v5, v132, c2, c4] h)
  (zx.k5 C N Q Y1 v0 v5 v12 v13 v14 c2 c4 c7 h))
@[simp] def zx.k7 (C : CSem) (N : Nat → Nat) (Q : AVal → za → Prop) (Y1 : List AVal → za → Prop) (v0 v5 v6 v12 v13 v14 c2 c4 c7 : AVal) (h : za) : Prop :=
 B.pv (V.bin .gtr v6 (.int .i64 0)) fun v20 =>
  B.gd h v20 true (fun K => K v0 h) fun v22 h =>
  B.gd h v20 true (fun K => K v6 h) fun v23 h =>
  B.gd h v20 true (fun K => B.pv (V.bin .sub v23 (.int .i64 1)) fun v => K v h) fun v24 h =>
  B.gd h v20 true (fun K => B.pv (V.idxS 2 v22 v24) fun v => K v h) fun v25 h =>
  B.gd h v20 true (fun K => B.pv (V.fieldAddr 0 v25) fun v => K v h) fun v26 h =>
  B.gd h v20 true (fun K => B.ld h v26 fun v => K v h) fun v27 h =>
  B.al c7 (B.gd h v20 true (fun K => K .undef h) fun _ h =>
  B.gd h v20 true (fun K => B.pv (V.zd 0 c7) fun v => K v h) fun v29 h =>
  B.gd h v20 true (fun K => B.call C (N 274) [v27, v29] h K) fun v30 h =>
  B.gd h v20 true (fun K => B.pv (V.bin .geq v30 (.int .i64 0)) fun v => K v h) fun v31 h =>
  B.pick v20 v31 (.bool false) fun v32 =>
  B.al c7 (B.gd h v32 false (fun K => K .undef h) fun _ h =>
  B.gd h v32 false (fun K => B.pv (V.zd 0 c7) fun v => K v h) fun v35 h =>
  B.gd h v32 false (fun K => B.pv (V.zi v35) fun v => K v h) fun v36 h =>
  B.gd h v32 false (fun K => B.pv (V.bin .eql v36 (.int .i64 0)) fun v => K v h) fun v37 h =>
  B.pick v32 (.bool true) v37 fun v38 =>
  B.cond v38
  (B.pv (A.bld [] [.int .i64 0, .int .i64 0, .int .i64 0, .nils, .nils, .nils]) fun v39 =>
  B.pv (V.setN 0 6 v39 c2) fun c2 =>
  B.pv (oneOf (zfq (V.zb4 0 6 c2) (zfq (some (.int .i64 4)) (some [])))) fun v => Q v h)
  (zx.k6 C N Q Y1 v0 v5 v12 v13 v14 c2 c4 c7 h)))
@[simp] def zx.k8 (C : CSem) (N : Nat → Nat) (Q : AVal → za → Prop) (Y1 : List AVal → za → Prop) (v0 v5 v12 v13 v14 c2 c4 : AVal) (h : za) : Prop :=
 B.pv (V.idxS 2 v12 v14) fun v17 =>
  B.ldn h v17 2 fun v18 =>
  B.pv (V.setN 0 2 v18 (.agg [.nils, .nils])) fun c7 =>
  zx.k7 C N Q Y1 v0 v5 v14 v12 v13 v14 c2 c4 c7 h
@[simp] def zx.l9 (C : CSem) (N : Nat → Nat) (Q : AVal → za → Prop) (v0 v12 v13 : AVal) : List AVal → za → (List AVal → za → Prop) → Prop
 | [v5, v14, c2, c4], h, Y1 => B.pv (V.bin .lss v14 v13) fun v15 =>
  B.cond v15
  (zx.k8 C N Q Y1 v0 v5 v12 v13 v14 c2 c4 h)
  (zx.k1 C N Q v5 c2 c4 h)
 | _, _, _ => False
@[simp] def zx.k10 (C : CSem) (N : Nat → Nat) (Q : AVal → za → Prop) (v0 c2 : AVal) (h : za) : Prop :=
 B.pv (V.zi v0) fun v13 =>
  zg (zx.l9 C N Q v0 v0 v13) [.nils, (.int .i64 0), c2, (.agg [.int .i64 0, .int .i64 0, .int .i64 0, .nils, .nils, .nils])] h
@[simp] def zx.cps (C : CSem) (N : Nat → Nat) (v0 : AVal) (h : za) (Q : AVal → za → Prop) : Prop :=
 zx.k10 C N Q v0 (.agg [.int .i64 0, .int .i64 0, .int .i64 0, .nils, .nils, .nils]) h
def zx.Imp (C : CSem) (N : Nat → Nat) : Prop := ∀ (v0 : AVal) (h : za) (Q : AVal → za → Prop), zx.cps C N v0 h (dn Q) → C (N 413) [v0] h Q
@[simp] def zba.k1 (C : CSem) (N : Nat → Nat) (Q : AVal → za → Prop) (v9 v11 c6 : AVal) (h : za) : Prop :=
 B.call C (N 38) [v9] h fun v81 h =>
  B.pv (V.ext 0 v81) fun v82 =>
  B.pv (V.ext 1 v81) fun v83 =>
  B.pv (V.ext 2 v81) fun v84 =>
  B.pv (V.setN 0 7 v82 (.agg [.int .i64 0, .int .i64 0, .int .i64 0, .str [], .int .u8 0, .nils, .nils])) fun c14 =>
  B.pv (V.un .not v11) fun v86 =>
  B.gd h v86 false (fun K => K v84 h) fun v88 h =>
  B.gd h v86 false (fun K => B.pv (V.bin .neq v88 (.int .i64 0)) fun v => K v h) fun v89 h =>
  B.pick v86 (.bool true) v89 fun v90 =>
  B.gd h v90 false (fun K => K v83 h) fun v92 h =>
  B.gd h v90 false (fun K => K v9 h) fun v93 h =>
  B.gd h v90 false (fun K => B.pv (V.zi v93) fun v => K v h) fun v94 h =>
  B.gd h v90 false (fun K => B.pv (V.bin .neq v92 v94) fun v => K v h) fun v95 h =>
  B.pick v90 (.bool true) v95 fun v96 =>
  B.cond v96
  (B.pv (A.bld [] [.int .i64 0, .int .i64 0, .int .i64 0, .str [], .int .u8 0, .nils, .nils]) fun v97 =>
  B.pv (V.setN 0 7 v97 c6) fun c6 =>
  B.pv (oneOf (zfq (V.zb4 0 7 c6) (zfq (some (.bool false)) (some [])))) fun v => Q v h)
  (B.pv (V.zb4 0 7 c14) fun v98 =>
  B.pv (V.setN 0 7 v98 c6) fun c6 =>
  B.pv (oneOf (zfq (V.zb4 0 7 c6) (zfq (some (.bool true)) (some [])))) fun v => Q v h)
@[simp] def zba.k2 (C : CSem) (N : Nat → Nat) (Q : AVal → za → Prop) (Y1 : List AVal → za → Prop) (v0 v1 v8 v9 v10 v11 v23 v24 v25 c6 : AVal) (h : za) : Prop :=
 B.pv (V.bin .lss v25 v24) fun v26 =>
  B.cond v26
  (B.pv (V.idxS 2 v23 v25) fun v27 =>
  B.ldn h v27 2 fun v28 =>
  B.pv (V.setN 0 2 v28 (.agg [.nils, .nils])) fun c13 =>
  B.al c13 (B.pv (V.zd 0 c13) fun v30 =>
  B.pv (V.zi v30) fun v31 =>
  B.pv (V.zi v8) fun v33 =>
  B.pv (V.bin .neq v31 v33) fun v34 =>
  B.al c13 (B.gd h v34 false (fun K => K .undef h) fun _ h =>
  B.gd h v34 false (fun K => B.pv (V.zd 0 c13) fun v => K v h) fun v37 h =>
  B.gd h v34 false (fun K => K v8 h) fun v38 h =>
  B.gd h v34 false (fun K => B.pv (V.zfs 1 v38 none (some (.int .i64 10))) fun v => K v h) fun v39 h =>
  B.gd h v34 false (fun K => B.call C (N 436) [v37, v39] h K) fun v40 h =>
  B.gd h v34 false (fun K => B.pv (V.un .not v40) fun v => K v h) fun v41 h =>
  B.pick v34 (.bool true) v41 fun v42 =>
  B.cond v42
  (B.pv (V.bin .add v25 (.int .i64 1)) fun v78 =>
  Y1 [v9, v10, v11, v78] h)
  (B.al c13 (B.gd h v11 true (fun K => K .undef h) fun _ h =>
  B.gd h v11 true (fun K => B.pv (V.zd 0 c13) fun v => K v h) fun v46 h =>
  B.gd h v11 true (fun K => K v0 h) fun v47 h =>
  B.gd h v11 true (fun K => K v1 h) fun v48 h =>
  B.gd h v11 true (fun K => K v10 h) fun v49 h =>
  B.gd h v11 true (fun K => B.call C (N 427) [v47, v48, v49] h K) fun v50 h =>
  B.gd h v11 true (fun K => B.call C (N 273) [v46, v50] h K) fun v51 h =>
  B.pick v11 v51 (.bool false) fun v52 =>
  B.gd h v52 true (fun K => K v9 h) fun v54 h =>
  B.gd h v52 true (fun K => B.pv (V.zi v54) fun v => K v h) fun v55 h =>
  B.gd h v52 true (fun K => K v10 h) fun v56 h =>
  B.gd h v52 true (fun K => B.pv (V.bin .mul v56 (.int .i64 180)) fun v => K v h) fun v57 h =>
  B.gd h v52 true (fun K => B.pv (V.bin .eql v55 v57) fun v => K v h) fun v58 h =>
  B.pick v52 v58 (.bool false) fun v59 =>
  B.al c13 (B.gd h v59 true (fun K => K .undef h) fun _ h =>
  B.gd h v59 true (fun K => B.pv (V.zd 1 c13) fun v => K v h) fun v62 h =>
  B.gd h v59 true (fun K => B.pv (V.zi v62) fun v => K v h) fun v63 h =>
  B.gd h v59 true (fun K => B.pv (V.bin .gtr v63 (.int .i64 0)) fun v => K v h) fun v64 h =>
  B.pick v59 v64 (.bool false) fun v65 =>
  B.al c13 (B.gd h v65 true (fun K => K .undef h) fun _ h =>
  B.gd h v65 true (fun K => B.pv (V.zd 1 c13) fun v => K v h) fun v68 h =>
  B.gd h v65 true (fun K => B.pv (V.zi v68) fun v => K v h) fun v69 h =>
  B.gd h v65 true (fun K => B.pv (V.bin .leq v69 (.int .i64 180)) fun v => K v h) fun v70 h =>
  B.pick v65 v70 (.bool false) fun v71 =>
  B.al c13 (B.pv (V.zd 1 c13) fun v74 =>
  B.appW h 1 1 v9 v74 fun v75 h =>
  B.pv (V.bin .add v10 (.int .i64 1)) fun v77 =>
  B.pv (V.bin .add v25 (.int .i64 1)) fun v78 =>
  Y1 [v75, v77, v71, v78] h))))))))
  (zba.k1 C N Q v9 v11 c6 h)
@[simp] def zba.l3 (C : CSem) (N : Nat → Nat) (Q : AVal → za → Prop) (v0 v1 v8 v23 v24 c6 : AVal) : List AVal → za → (List AVal → za → Prop) → Prop
 | [v9, v10, v11, v25], h, Y1 => zba.k2 C N Q Y1 v0 v1 v8 v9 v10 v11 v23 v24 v25 c6 h
 | _, _, _ => False
@[simp] def zba.k4 (C : CSem) (N : Nat → Nat) (Q : AVal → za → Prop) (v0 v1 v2 v8 c6 : AVal) (h : za) : Prop :=
 B.pv (V.eqSl .eql v8 .nils) fun v21 =>
  B.cond v21
  (B.pv (A.bld [] [.int .i64 0, .int .i64 0, .int .i64 0, .str [], .int .u8 0, .nils, .nils]) fun v22 =>
  B.pv (V.setN 0 7 v22 c6) fun c6 =>
  B.pv (oneOf (zfq (V.zb4 0 7 c6) (zfq (some (.bool false)) (some [])))) fun v => Q v h)
  (B.pv (V.zi v2) fun v24 =>
  zg (zba.l3 C N Q v0 v1 v8 v2 v24 c6) [.nils, (.int .i64 0), (.bool true), (.int .i64 0)] h)
@[simp] def zba.k5 (C : CSem) (N : Nat → Nat) (Q : AVal → za → Prop) (v0 v1 v2 : AVal) (h : za) : Prop :=
 B.call C (N 427) [v0, v1, (.int .i64 0)] h fun v19 h =>
  zba.k4 C N Q v0 v1 v2 v19 (.agg [.int .i64 0, .int .i64 0, .int .i64 0, .str [], .int .u8 0, .nils, .nils]) h
@[simp] def zba.cps (C : CSem) (N : Nat → Nat) (v0 v1 v2 : AVal) (h : za) (Q : AVal → za → Prop) : Prop :=
 zba.k5 C N Q v0 v1 v2 h
def zba.Imp (C : CSem) (N : Nat → Nat) : Prop := ∀ (v0 v1 v2 : AVal) (h : za) (Q : AVal → za → Prop), zba.cps C N v0 v1 v2 h (dn Q) → C (N 414) [v0, v1, v2] h Q
@[simp] def zbw.k1 (C : CSem) (N : Nat → Nat) (Q : AVal → za → Prop) (Z1 : Nat → za → Prop) (v3 v4 v10 v27 : AVal) (h : za) : Prop :=
 B.ld h v10 fun v28 =>
  B.ld h v3 fun v29 =>
  B.ld h v4 fun v30 =>
  B.ld h v10 fun v31 =>
  B.pv (V.zi v31) fun v32 =>
  B.call C (N 427) [v29, v30, v32] h (B.zlj h [(v10, none)] (fun v33 h => B.call C (N 428) [v27] h (B.zlj h [(v10, none)] (fun v35 h => B.pv (A.bld [(0, none, v33), (1, none, v35)] [.nils, .nils]) fun v36 =>
  B.newO h (zc7 [(0, some 2, v36)] (repL 1 [.nils, .nils])) fun i37 h =>
  B.appW h 2 48 v28 (.sl i37 0 0 1 2 1) fun v38 h =>
  B.st h v10 v38 fun h =>
  Z1 0 h))))
@[simp] def zbw.r2 (C : CSem) (N : Nat → Nat) (Q : AVal → za → Prop) (v3 v4 v10 : AVal) (v27 : AVal) (h : za) (Z1 : Nat → za → Prop) : Prop :=
 zbw.k1 C N Q Z1 v3 v4 v10 v27 h
@[simp] def zbw.k3 (C : CSem) (N : Nat → Nat) (Q : AVal → za → Prop) (v3 v4 v8 v10 : AVal) (h : za) : Prop :=
 B.call C (N 429) [v8, (.int .i64 180)] h fun v26 h =>
  zvt C v26 (W1 fun v27 h Z1 => zbw.r2 C N Q v3 v4 v10 v27 h Z1) h (RK [(0, fun h => B.ld h v10 fun v39 =>
  Q (.tup [v39, (.int .i64 0)]) h)])
@[simp] def zbw.k4 (C : CSem) (N : Nat → Nat) (Q : AVal → za → Prop) (v3 v4 v8 v9 : AVal) (h : za) : Prop :=
 B.pv (V.bin .neq v9 (.int .i64 0)) fun v18 =>
  B.gd h v18 false (fun K => B.ld h v3 fun v => K v h) fun v20 h =>
  B.gd h v18 false (fun K => B.ld h v4 fun v => K v h) fun v21 h =>
  B.gd h v18 false (fun K => B.call C (N 427) [v20, v21, (.int .i64 0)] h K) fun v22 h =>
  B.gd h v18 false (fun K => B.pv (V.eqSl .eql v22 .nils) fun v => K v h) fun v23 h =>
  B.pick v18 (.bool true) v23 fun v24 =>
  B.cond v24
  (Q (.tup [.nils, (.int .i64 2)]) h)
  (B.newO h (some [.nils]) fun i10 h =>
  zbw.k3 C N Q v3 v4 v8 (.ptr i10 0 0) h)
@[simp] def zbw.k5 (C : CSem) (N : Nat → Nat) (Q : AVal → za → Prop) (v3 v4 c5 : AVal) (h : za) : Prop :=
 B.pv (V.zb4 0 7 c5) fun v13 =>
  B.call C (N 28) [v13] h fun v14 h =>
  B.pv (V.ext 0 v14) fun v15 =>
  B.pv (V.ext 1 v14) fun v16 =>
  zbw.k4 C N Q v3 v4 v15 v16 h
@[simp] def zbw.k6 (C : CSem) (N : Nat → Nat) (Q : AVal → za → Prop) (v0 v1 v2 : AVal) (h : za) : Prop :=
 B.newO h (A.zmr v0) fun i3 h =>
  B.newO h (A.zmr v1) fun i4 h =>
  B.pv (A.boxN 7 v2) fun c5 =>
  zbw.k5 C N Q (.ptr i3 0 0) (.ptr i4 0 0) c5 h
@[simp] def zbw.cps (C : CSem) (N : Nat → Nat) (v0 v1 v2 : AVal) (h : za) (Q : AVal → za → Prop) : Prop :=
 zbw.k6 C N Q v0 v1 v2 h
def zbw.Imp (C : CSem) (N : Nat → Nat) : Prop := ∀ (v0 v1 v2 : AVal) (h : za) (Q : AVal → za → Prop), zbw.cps C N v0 v1 v2 h (dn Q) → C (N 415) [v0, v1, v2] h Q
@[simp] def zce.k1 (C : CSem) (N : Nat → Nat) (Q : AVal → za → Prop) (Y1 : List AVal → za → Prop) (v0 v1 v5 v10 v11 : AVal) (h : za) : Prop :=
 B.pv (V.bin .lss v11 v10) fun v12 =>
  B.cond v12
  (B.pv (V.bin .sub v1 (.int .i64 1)) fun v18 =>
  B.pv (V.bin .sub v18 v11) fun v20 =>
  B.pv (V.bin .mul (.int .i64 8) v20) fun v21 =>
  B.pv (V.bin .shr v0 v21) fun v22 =>
  B.pv (V.toInt .u8 v22) fun v23 =>
  B.pv (V.idxS 1 v5 v11) fun v24 =>
  B.st h v24 v23 fun h =>
  B.pv (V.bin .add v11 (.int .i64 1)) fun v25 =>
  Y1 [v25] h)
  (Q v5 h)
@[simp] def zce.l2 (C : CSem) (N : Nat → Nat) (Q : AVal → za → Prop) (v0 v1 v5 v10 : AVal) : List AVal → za → (List AVal → za → Prop) → Prop
 | [v11], h, Y1 => zce.k1 C N Q Y1 v0 v1 v5 v10 v11 h
 | _, _, _ => False
@[simp] def zce.cps (C : CSem) (N : Nat → Nat) (v0 v1 : AVal) (h : za) (Q : AVal → za → Prop) : Prop :=
 0 < 1 ∧ B.mks h 1 (some [.int .u8 0]) v1 v1 fun v8 h =>
  B.pv (V.zi v8) fun v10 =>
  zg (zce.l2 C N Q v0 v1 v8 v10) [(.int .i64 0)] h
def zce.Imp (C : CSem) (N : Nat → Nat) : Prop := ∀ (v0 v1 : AVal) (h : za) (Q : AVal → za → Prop), zce.cps C N v0 v1 h (dn Q) → C (N 423) [v0, v1] h Q
@[simp] def ze1.cps (C : CSem) (N : Nat → Nat) (v0 : AVal) (h : za) (Q : AVal → za → Prop) : Prop :=
 B.call C (N 439) [v0] h fun v4 h =>
  Q v4 h
def ze1.Imp (C : CSem) (N : Nat → Nat) : Prop := ∀ (v0 : AVal) (h : za) (Q : AVal → za → Prop), ze1.cps C N v0 h (dn Q) → C (N 424) [v0] h Q
@[simp] def zed.k1 (C : CSem) (N : Nat → Nat) (Q : AVal → za → Prop) (v0 v1 v2 : AVal) (h : za) : Prop :=
 B.ld h v2 fun v5 =>
  B.call C (N 424) [v1] h (B.zlj h [(v2, none)] (fun v8 h => B.pv (A.bld [(0, none, v0), (1, none, v8)] [.nils, .nils]) fun v9 =>
  B.newO h (zc7 [(0, some 2, v9)] (repL 1 [.nils, .nils])) fun i10 h =>
  B.appW h 2 48 v5 (.sl i10 0 0 1 2 1) fun v11 h =>
  B.st h v2 v11 fun h =>
  Q (.tup []) h))
@[simp] def zed.cps (C : CSem) (N : Nat → Nat) (v0 v1 v2 : AVal) (h : za) (Q : AVal → za → Prop) : Prop :=
 zed.k1 C N Q v0 v1 v2 h
def zed.Imp (C : CSem) (N : Nat → Nat) : Prop := ∀ (v0 v1 v2 : AVal) (h : za) (Q : AVal → za → Prop), zed.cps C N v0 v1 v2 h (dn Q) → C (N 425) [v0, v1, v2] h Q
@[simp] def zbo.k1 (C : CSem) (N : Nat → Nat) (Q : AVal → za → Prop) (Y1 : List AVal → za → Prop) (v3 v99 v100 v101 c1 : AVal) (h : za) : Prop :=
 B.pv (V.bin .lss v101 v100) fun v102 =>
  B.cond v102
  (B.pv (V.idxS 8 v99 v101) fun v104 =>
  B.ldn h v104 8 fun v105 =>
  B.pv (V.setN 0 8 v105 (.agg [.int .i64 0, .str [], .int .i64 0, .int .i64 0, .int .i64 0, .int .u8 0, .int .i64 0, .str []])) fun c9 =>
  B.gd h v3 true (fun K => B.pv (V.zb4 0 8 c9) fun v => K v h) fun v108 h =>
  B.gd h v3 true (fun K => B.call C (N 179) [v108] h K) fun v109 h =>
  B.pick v3 v109 (.bool false) fun v110 =>
  B.gd h v110 true (fun K => K v101 h) fun v112 h =>
  B.gd h v110 true (fun K => B.pv (V.bin .eql v112 (.int .i64 0)) fun v => K v h) fun v113 h =>
  B.gd h v110 true (fun K => K v113 h) fun v114 h =>
  B.al c1 (B.gd h v114 false (fun K => K .undef h) fun _ h =>
  B.gd h v114 false (fun K => B.pv (V.zd 5 c1) fun v => K v h) fun v116 h =>
  B.gd h v114 false (fun K => K v101 h) fun v117 h =>
  B.gd h v114 false (fun K => B.pv (V.bin .sub v117 (.int .i64 1)) fun v => K v h) fun v118 h =>
  B.gd h v114 false (fun K => B.pv (V.idxS 8 v116 v118) fun v => K v h) fun v119 h =>
  B.gd h v114 false (fun K => B.pv (V.fieldAddr 0 v119) fun v => K v h) fun v120 h =>
  B.gd h v114 false (fun K => B.ld h v120 fun v => K v h) fun v121 h =>
  B.al c9 (B.gd h v114 false (fun K => K .undef h) fun _ h =>
  B.gd h v114 false (fun K => B.pv (V.zd 0 c9) fun v => K v h) fun v123 h =>
  B.gd h v114 false (fun K => B.pv (V.bin .lss v121 v123) fun v => K v h) fun v124 h =>
  B.gd h v110 true (fun K => B.pick v114 (.bool true) v124 fun v => K v h) fun v125 h =>
  B.pick v110 v125 (.bool false) fun v126 =>
  B.pv (V.bin .add v101 (.int .i64 1)) fun v127 =>
  Y1 [v126, v127] h)))
  (Q v3 h)
@[simp] def zbo.l2 (C : CSem) (N : Nat → Nat) (Q : AVal → za → Prop) (v99 v100 c1 : AVal) : List AVal → za → (List AVal → za → Prop) → Prop
 | [v3, v101], h, Y1 => zbo.k1 C N Q Y1 v3 v99 v100 v101 c1 h
 | _, _, _ => False
@[simp] def zbo.k3 (C : CSem) (N : Nat → Nat) (Q : AVal → za → Prop) (Y2 : List AVal → za → Prop) (v3 v69 v70 v71 c1 : AVal) (h : za) : Prop :=
 B.pv (V.bin .lss v71 v70) fun v72 =>
  B.cond v72
  (B.pv (V.idxS 6 v69 v71) fun v74 =>
  B.ldn h v74 6 fun v75 =>
  B.pv (V.setN 0 6 v75 (.agg [.int .i64 0, .str [], .int .i64 0, .int .i64 0, .int .i64 0, .bool false])) fun c7 =>
  B.gd h v3 true (fun K => B.pv (V.zb4 0 6 c7) fun v => K v h) fun v78 h =>
  B.gd h v3 true (fun K => B.call C (N 52) [v78] h K) fun v79 h =>
  B.pick v3 v79 (.bool false) fun v80 =>
  B.gd h v80 true (fun K => K v71 h) fun v82 h =>
  B.gd h v80 true (fun K => B.pv (V.bin .eql v82 (.int .i64 0)) fun v => K v h) fun v83 h =>
  B.gd h v80 true (fun K => K v83 h) fun v84 h =>
  B.al c1 (B.gd h v84 false (fun K => K .undef h) fun _ h =>
  B.gd h v84 false (fun K => B.pv (V.zd 4 c1) fun v => K v h) fun v86 h =>
  B.gd h v84 false (fun K => K v71 h) fun v87 h =>
  B.gd h v84 false (fun K => B.pv (V.bin .sub v87 (.int .i64 1)) fun v => K v h) fun v88 h =>
  B.gd h v84 false (fun K => B.pv (V.idxS 6 v86 v88) fun v => K v h) fun v89 h =>
  B.gd h v84 false (fun K => B.pv (V.fieldAddr 0 v89) fun v => K v h) fun v90 h =>
  B.gd h v84 false (fun K => B.ld h v90 fun v => K v h) fun v91 h =>
  B.al c7 (B.gd h v84 false (fun K => K .undef h) fun _ h =>
  B.gd h v84 false (fun K => B.pv (V.zd 0 c7) fun v => K v h) fun v93 h =>
  B.gd h v84 false (fun K => B.pv (V.bin .lss v91 v93) fun v => K v h) fun v94 h =>
  B.gd h v80 true (fun K => B.pick v84 (.bool true) v94 fun v => K v h) fun v95 h =>
  B.pick v80 v95 (.bool false) fun v96 =>
  B.pv (V.bin .add v71 (.int .i64 1)) fun v97 =>
  Y2 [v96, v97] h)))
  (B.al c1 (B.pv (V.zd 5 c1) fun v99 =>
  B.pv (V.zi v99) fun v100 =>
  zg (zbo.l2 C N Q v99 v100 c1) [v3, (.int .i64 0)] h))
@[simp] def zbo.l4 (C : CSem) (N : Nat → Nat) (Q : AVal → za → Prop) (v69 v70 c1 : AVal) : List AVal → za → (List AVal → za → Prop) → Prop
 | [v3, v71], h, Y2 => zbo.k3 C N Q Y2 v3 v69 v70 v71 c1 h
 | _, _, _ => False
@[simp] def zbo.k5 (C : CSem) (N : Nat → Nat) (Q : AVal → za → Prop) (Y3 : List AVal → za → Prop) (v3 v39 v40 v41 c1 : AVal) (h : za) : Prop :=
 B.pv (V.bin .lss v41 v40) fun v42 =>
  B.cond v42
  (B.pv (V.idxS 4 v39 v41) fun v44 =>
  B.ldn h v44 4 fun v45 =>
  B.pv (V.setN 0 4 v45 (.agg [.str [], .int .i64 0, .nils, .nils])) fun c5 =>
  B.gd h v3 true (fun K => B.pv (V.zb4 0 4 c5) fun v => K v h) fun v48 h =>
  B.gd h v3 true (fun K => B.call C (N 438) [v48] h K) fun v49 h =>
  B.pick v3 v49 (.bool false) fun v50 =>
  B.gd h v50 true (fun K => K v41 h) fun v52 h =>
  B.gd h v50 true (fun K => B.pv (V.bin .eql v52 (.int .i64 0)) fun v => K v h) fun v53 h =>
  B.gd h v50 true (fun K => K v53 h) fun v54 h =>
  B.al c1 (B.gd h v54 false (fun K => K .undef h) fun _ h =>
  B.gd h v54 false (fun K => B.pv (V.zd 3 c1) fun v => K v h) fun v56 h =>
  B.gd h v54 false (fun K => K v41 h) fun v57 h =>
  B.gd h v54 false (fun K => B.pv (V.bin .sub v57 (.int .i64 1)) fun v => K v h) fun v58 h =>
  B.gd h v54 false (fun K => B.pv (V.idxS 4 v56 v58) fun v => K v h) fun v59 h =>
  B.gd h v54 false (fun K => B.pv (V.fieldAddr 0 v59) fun v => K v h) fun v60 h =>
  B.gd h v54 false (fun K => B.ld h v60 fun v => K v h) fun v61 h =>
  B.al c5 (B.gd h v54 false (fun K => K .undef h) fun _ h =>
  B.gd h v54 false (fun K => B.pv (V.zd 0 c5) fun v => K v h) fun v63 h =>
  B.gd h v54 false (fun K => B.pv (V.bin .lss v61 v63) fun v => K v h) fun v64 h =>
  B.gd h v50 true (fun K => B.pick v54 (.bool true) v64 fun v => K v h) fun v65 h =>
  B.pick v50 v65 (.bool false) fun v66 =>
  B.pv (V.bin .add v41 (.int .i64 1)) fun v67 =>
  Y3 [v66, v67] h)))
  (B.al c1 (B.pv (V.zd 4 c1) fun v69 =>
  B.pv (V.zi v69) fun v70 =>
  zg (zbo.l4 C N Q v69 v70 c1) [v3, (.int .i64 0)] h))
@[simp] def zbo.l6 (C : CSem) (N : Nat → Nat) (Q : AVal → za → Prop) (v39 v40 c1 : AVal) : List AVal → za → (List AVal → za → Prop) → Prop
 | [v3, v41], h, Y3 => zbo.k5 C N Q Y3 v3 v39 v40 v41 c1 h
 | _, _, _ => False
@[simp] def zbo.k7 (C : CSem) (N : Nat → Nat) (Q : AVal → za → Prop) (c1 : AVal) (h : za) : Prop :=
 B.al c1 (B.pv (V.zd 0 c1) fun v11 =>
  B.pv (V.bin .geq v11 (.int .i64 0)) fun v12 =>
  B.al c1 (B.gd h v12 true (fun K => K .undef h) fun _ h =>
  B.gd h v12 true (fun K => B.pv (V.zd 0 c1) fun v => K v h) fun v15 h =>
  B.gd h v12 true (fun K => B.pv (V.bin .leq v15 (.int .i64 4000)) fun v => K v h) fun v16 h =>
  B.pick v12 v16 (.bool false) fun v17 =>
  B.al c1 (B.gd h v17 true (fun K => K .undef h) fun _ h =>
  B.gd h v17 true (fun K => B.pv (V.zd 1 c1) fun v => K v h) fun v20 h =>
  B.gd h v17 true (fun K => B.pv (V.bin .gtr v20 (.int .i64 0)) fun v => K v h) fun v21 h =>
  B.pick v17 v21 (.bool false) fun v22 =>
  B.al c1 (B.gd h v22 true (fun K => K .undef h) fun _ h =>
  B.gd h v22 true (fun K => B.pv (V.zd 1 c1) fun v => K v h) fun v25 h =>
  B.gd h v22 true (fun K => B.pv (V.bin .leq v25 (.int .i64 4611686018427387904)) fun v => K v h) fun v26 h =>
  B.pick v22 v26 (.bool false) fun v27 =>
  B.al c1 (B.gd h v27 true (fun K => K .undef h) fun _ h =>
  B.gd h v27 true (fun K => B.pv (V.zd 2 c1) fun v => K v h) fun v30 h =>
  B.gd h v27 true (fun K => B.pv (V.bin .gtr v30 (.int .i64 0)) fun v => K v h) fun v31 h =>
  B.pick v27 v31 (.bool false) fun v32 =>
  B.al c1 (B.gd h v32 true (fun K => K .undef h) fun _ h =>
  B.gd h v32 true (fun K => B.pv (V.zd 2 c1) fun v => K v h) fun v35 h =>
  B.gd h v32 true (fun K => B.pv (V.bin .leq v35 (.int .i64 4611686018427387904)) fun v => K v h) fun v36 h =>
  B.pick v32 v36 (.bool false) fun v37 =>
  B.al c1 (B.pv (V.zd 3 c1) fun v39 =>
  B.pv (V.zi v39) fun v40 =>
  zg (zbo.l6 C N Q v39 v40 c1) [v37, (.int .i64 0)] h)))))))
@[simp] def zbo.cps (C : CSem) (N : Nat → Nat) (v0 : AVal) (h : za) (Q : AVal → za → Prop) : Prop :=
 B.pv (A.boxN 6 v0) fun c1 =>
  zbo.k7 C N Q c1 h
def zbo.Imp (C : CSem) (N : Nat → Nat) : Prop := ∀ (v0 : AVal) (h : za) (Q : AVal → za → Prop), zbo.cps C N v0 h (dn Q) → C (N 426) [v0] h Q
@[simp] def zgd.k1 (C : CSem) (N : Nat → Nat) (Q : AVal → za → Prop) (v0 v1 v2 : AVal) (h : za) : Prop :=
 B.pv (V.bin .lss v0 (.int .i64 0)) fun v8 =>
  B.gd h v8 false (fun K => K v0 h) fun v10 h =>
  B.gd h v8 false (fun K => B.pv (V.bin .geq v10 (.int .i64 4)) fun v => K v h) fun v11 h =>
  B.pick v8 (.bool true) v11 fun v12 =>
  B.gd h v12 false (fun K => K v1 h) fun v14 h =>
  B.gd h v12 false (fun K => B.pv (V.bin .lss v14 (.int .i64 1)) fun v => K v h) fun v15 h =>
  B.pick v12 (.bool true) v15 fun v16 =>
  B.gd h v16 false (fun K => K v1 h) fun v18 h =>
  B.gd h v16 false (fun K => B.pv (V.bin .gtr v18 (.int .i64 4611686018427387904)) fun v => K v h) fun v19 h =>
  B.pick v16 (.bool true) v19 fun v20 =>
  B.gd h v20 false (fun K => K v2 h) fun v22 h =>
  B.gd h v20 false (fun K => B.pv (V.bin .lss v22 (.int .i64 0)) fun v => K v h) fun v23 h =>
  B.pick v20 (.bool true) v23 fun v24 =>
  B.gd h v24 false (fun K => K v2 h) fun v26 h =>
  B.gd h v24 false (fun K => B.pv (V.bin .geq v26 (.int .i64 1000)) fun v => K v h) fun v27 h =>
  B.pick v24 (.bool true) v27 fun v28 =>
  B.cond v28
  (Q .nils h)
  (B.pv (V.toInt .u8 v0) fun v30 =>
  B.newO h (zc7 [(0, none, (.int .u8 97)), (1, none, v30)] (repL 2 [.int .u8 0])) fun i31 h =>
  B.call C (N 423) [v1, (.int .i64 8)] h fun v33 h =>
  B.call C (N 423) [v2, (.int .i64 2)] h fun v35 h =>
  B.newO h (zc7 [(0, none, (.sl i31 0 0 2 1 2)), (1, none, v33), (2, none, v35)] (repL 3 [.nils])) fun i36 h =>
  B.call C (N 424) [(.sl i36 0 0 3 1 3)] h fun v37 h =>
  Q v37 h)
@[simp] def zgd.cps (C : CSem) (N : Nat → Nat) (v0 v1 v2 : AVal) (h : za) (Q : AVal → za → Prop) : Prop :=
 zgd.k1 C N Q v0 v1 v2 h
def zgd.Imp (C : CSem) (N : Nat → Nat) : Prop := ∀ (v0 v1 v2 : AVal) (h : za) (Q : AVal → za → Prop), zgd.cps C N v0 v1 v2 h (dn Q) → C (N 427) [v0, v1, v2] h Q
@[simp] def zd0.k1 (C : CSem) (N : Nat → Nat) (Q : AVal → za → Prop) (v0 v1 : AVal) (h : za) : Prop :=
 B.pv (A.boxN 2 v0) fun c2 =>
  B.pv (A.boxN 2 v1) fun c3 =>
  B.al c2 (B.pv (V.zd 0 c2) fun v6 =>
  B.al c3 (B.pv (V.zd 0 c3) fun v8 =>
  B.call C (N 273) [v6, v8] h fun v9 h =>
  B.al c2 (B.gd h v9 true (fun K => K .undef h) fun _ h =>
  B.gd h v9 true (fun K => B.pv (V.zd 1 c2) fun v => K v h) fun v12 h =>
  B.al c3 (B.gd h v9 true (fun K => K .undef h) fun _ h =>
  B.gd h v9 true (fun K => B.pv (V.zd 1 c3) fun v => K v h) fun v14 h =>
  B.gd h v9 true (fun K => B.call C (N 273) [v12, v14] h K) fun v15 h =>
  B.pick v9 v15 (.bool false) fun v16 =>
  Q v16 h))))
@[simp] def zd0.cps (C : CSem) (N : Nat → Nat) (v0 v1 : AVal) (h : za) (Q : AVal → za → Prop) : Prop :=
 zd0.k1 C N Q v0 v1 h
def zd0.Imp (C : CSem) (N : Nat → Nat) : Prop := ∀ (v0 v1 : AVal) (h : za) (Q : AVal → za → Prop), zd0.cps C N v0 v1 h (dn Q) → C (N 430) [v0, v1] h Q
@[simp] def zn.k1 (C : CSem) (N : Nat → Nat) (Q : AVal → za → Prop) (v0 v1 v5 : AVal) (h : za) : Prop :=
 B.nilCheck v0 fun v47 =>
  B.pv (V.fieldAddr 0 v47) fun v48 =>
  B.ld h v48 fun v49 =>
  B.pv (V.zfs 1 v49 (some v1) none) fun v51 =>
  B.nilCheck v0 fun v52 =>
  B.pv (V.fieldAddr 0 v52) fun v53 =>
  B.st h v53 v51 fun h =>
  Q v5 h
@[simp] def zn.k2 (C : CSem) (N : Nat → Nat) (Q : AVal → za → Prop) (Y1 : List AVal → za → Prop) (v0 v1 v5 v33 v34 v35 : AVal) (h : za) : Prop :=
 B.pv (V.bin .lss v35 v34) fun v36 =>
  B.cond v36
  (B.pv (V.idxS 1 v33 v35) fun v37 =>
  B.ld h v37 fun v38 =>
  B.pv (V.bin .shl v5 (.int .u64 8)) fun v40 =>
  B.pv (V.toInt .i64 v38) fun v42 =>
  B.pv (V.bin .or v40 v42) fun v43 =>
  B.pv (V.bin .add v35 (.int .i64 1)) fun v44 =>
  Y1 [v43, v44] h)
  (zn.k1 C N Q v0 v1 v5 h)
@[simp] def zn.l3 (C : CSem) (N : Nat → Nat) (Q : AVal → za → Prop) (v0 v1 v33 v34 : AVal) : List AVal → za → (List AVal → za → Prop) → Prop
 | [v5, v35], h, Y1 => zn.k2 C N Q Y1 v0 v1 v5 v33 v34 v35 h
 | _, _, _ => False
@[simp] def zn.k4 (C : CSem) (N : Nat → Nat) (Q : AVal → za → Prop) (v0 v1 v5 : AVal) (h : za) : Prop :=
 B.nilCheck v0 fun v29 =>
  B.pv (V.fieldAddr 0 v29) fun v30 =>
  B.ld h v30 fun v31 =>
  B.pv (V.zfs 1 v31 none (some v1)) fun v33 =>
  B.pv (V.zi v33) fun v34 =>
  zg (zn.l3 C N Q v0 v1 v33 v34) [v5, (.int .i64 0)] h
@[simp] def zn.k5 (C : CSem) (N : Nat → Nat) (Q : AVal → za → Prop) (v0 v1 : AVal) (h : za) : Prop :=
 B.nilCheck v0 fun v10 =>
  B.pv (V.fieldAddr 1 v10) fun v11 =>
  B.ld h v11 fun v12 =>
  B.gd h v12 false (fun K => K v1 h) fun v14 h =>
  B.gd h v12 false (fun K => K v0 h) fun v15 h =>
  B.gd h v12 false (fun K => B.nilCheck v15 fun v => K v h) fun v16 h =>
  B.gd h v12 false (fun K => B.pv (V.fieldAddr 0 v16) fun v => K v h) fun v17 h =>
  B.gd h v12 false (fun K => B.ld h v17 fun v => K v h) fun v18 h =>
  B.gd h v12 false (fun K => B.pv (V.zi v18) fun v => K v h) fun v19 h =>
  B.gd h v12 false (fun K => B.pv (V.bin .gtr v14 v19) fun v => K v h) fun v20 h =>
  B.pick v12 (.bool true) v20 fun v21 =>
  B.nilCheck v0 fun v22 =>
  B.pv (V.fieldAddr 1 v22) fun v23 =>
  B.st h v23 v21 fun h =>
  B.nilCheck v0 fun v25 =>
  B.pv (V.fieldAddr 1 v25) fun v26 =>
  B.ld h v26 fun v27 =>
  B.cond v27
  (Q (.int .i64 0) h)
  (zn.k4 C N Q v0 v1 (.int .i64 0) h)
@[simp] def zn.cps (C : CSem) (N : Nat → Nat) (v0 v1 : AVal) (h : za) (Q : AVal → za → Prop) : Prop :=
 zn.k5 C N Q v0 v1 h
def zn.Imp (C : CSem) (N : Nat → Nat) : Prop := ∀ (v0 v1 : AVal) (h : za) (Q : AVal → za → Prop), zn.cps C N v0 v1 h (dn Q) → C (N 432) [v0, v1] h Q
@[simp] def zr.k1 (C : CSem) (N : Nat → Nat) (Q : AVal → za → Prop) (Y1 : List AVal → za → Prop) (v0 v8 c4 c5 : AVal) (h : za) : Prop :=
 B.pv (V.bin .gtr v8 (.int .i64 0)) fun v41 =>
  B.gd h v41 true (fun K => K v0 h) fun v43 h =>
  B.gd h v41 true (fun K => B.nilCheck v43 fun v => K v h) fun v44 h =>
  B.gd h v41 true (fun K => B.pv (V.fieldAddr 1 v44) fun v => K v h) fun v45 h =>
  B.gd h v41 true (fun K => B.ld h v45 fun v => K v h) fun v46 h =>
  B.gd h v41 true (fun K => B.pv (V.un .not v46) fun v => K v h) fun v47 h =>
  B.pick v41 v47 (.bool false) fun v48 =>
  B.cond v48
  (B.al c5 (B.pv (V.zd 3 c5) fun v52 =>
  B.call C (N 440) [v0] h fun v54 h =>
  B.newO h (zc7 [(0, none, v54)] (repL 1 [.str []])) fun i55 h =>
  B.appW h 1 16 v52 (.sl i55 0 0 1 1 1) fun v56 h =>
  B.al c5 (B.pv (V.setF 3 v56 c5) fun c5 =>
  B.pv (V.bin .sub v8 (.int .i64 1)) fun v50 =>
  Y1 [v50, c5] h)))
  (B.pv (V.zb4 0 4 c5) fun v58 =>
  B.pv (V.setN 0 4 v58 c4) fun c4 =>
  B.pv (oneOf (zfq (V.zb4 0 4 c4) (some []))) fun v => Q v h)
@[simp] def zr.l2 (C : CSem) (N : Nat → Nat) (Q : AVal → za → Prop) (v0 c4 : AVal) : List AVal → za → (List AVal → za → Prop) → Prop
 | [v8, c5], h, Y1 => zr.k1 C N Q Y1 v0 v8 c4 c5 h
 | _, _, _ => False
@[simp] def zr.k3 (C : CSem) (N : Nat → Nat) (Q : AVal → za → Prop) (Y2 : List AVal → za → Prop) (v0 v6 c4 c5 : AVal) (h : za) : Prop :=
 B.pv (V.bin .gtr v6 (.int .i64 0)) fun v16 =>
  B.gd h v16 true (fun K => K v0 h) fun v18 h =>
  B.gd h v16 true (fun K => B.nilCheck v18 fun v => K v h) fun v19 h =>
  B.gd h v16 true (fun K => B.pv (V.fieldAddr 1 v19) fun v => K v h) fun v20 h =>
  B.gd h v16 true (fun K => B.ld h v20 fun v => K v h) fun v21 h =>
  B.gd h v16 true (fun K => B.pv (V.un .not v21) fun v => K v h) fun v22 h =>
  B.pick v16 v22 (.bool false) fun v23 =>
  B.cond v23
  (B.call C (N 440) [v0] h fun v27 h =>
  B.pv (A.bld [(0, none, v27)] [.str [], .int .i64 0]) fun v28 =>
  B.pv (V.setN 0 2 v28 (.agg [.str [], .int .i64 0])) fun c7 =>
  B.call C (N 432) [v0, (.int .i64 4)] h fun v30 h =>
  B.al c7 (B.pv (V.setF 1 v30 c7) fun c7 =>
  B.al c5 (B.pv (V.zd 2 c5) fun v33 =>
  B.pv (V.zb4 0 2 c7) fun v34 =>
  B.newO h (zc7 [(0, some 2, v34)] (repL 1 [.str [], .int .i64 0])) fun i35 h =>
  B.appW h 2 24 v33 (.sl i35 0 0 1 2 1) fun v36 h =>
  B.al c5 (B.pv (V.setF 2 v36 c5) fun c5 =>
  B.pv (V.bin .sub v6 (.int .i64 1)) fun v25 =>
  Y2 [v25, c5] h))))
  (B.call C (N 432) [v0, (.int .i64 1)] h fun v39 h =>
  zg (zr.l2 C N Q v0 c4) [v39, c5] h)
@[simp] def zr.l4 (C : CSem) (N : Nat → Nat) (Q : AVal → za → Prop) (v0 c4 : AVal) : List AVal → za → (List AVal → za → Prop) → Prop
 | [v6, c5], h, Y2 => zr.k3 C N Q Y2 v0 v6 c4 c5 h
 | _, _, _ => False
@[simp] def zr.k5 (C : CSem) (N : Nat → Nat) (Q : AVal → za → Prop) (v0 v1 c4 : AVal) (h : za) : Prop :=
 B.call C (N 432) [v0, (.int .i64 2)] h fun v11 h =>
  B.pv (A.bld [(0, none, v1), (1, none, v11)] [.str [], .int .i64 0, .nils, .nils]) fun v12 =>
  B.pv (V.setN 0 4 v12 (.agg [.str [], .int .i64 0, .nils, .nils])) fun c5 =>
  B.call C (N 432) [v0, (.int .i64 1)] h fun v14 h =>
  zg (zr.l4 C N Q v0 c4) [v14, c5] h
@[simp] def zr.cps (C : CSem) (N : Nat → Nat) (v0 v1 : AVal) (h : za) (Q : AVal → za → Prop) : Prop :=
 zr.k5 C N Q v0 v1 (.agg [.str [], .int .i64 0, .nils, .nils]) h
def zr.Imp (C : CSem) (N : Nat → Nat) : Prop := ∀ (v0 v1 : AVal) (h : za) (Q : AVal → za → Prop), zr.cps C N v0 v1 h (dn Q) → C (N 433) [v0, v1] h Q
@[simp] def zch.k1 (C : CSem) (N : Nat → Nat) (Q : AVal → za → Prop) (v0 v1 : AVal) (h : za) : Prop :=
 B.call C (N 440) [v0] h fun v8 h =>
  B.pv (A.bld [(0, none, v1), (1, none, v8)] [.int .i64 0, .str [], .int .i64 0, .int .i64 0, .int .i64 0, .bool false]) fun v9 =>
  B.pv (V.setN 0 6 v9 (.agg [.int .i64 0, .str [], .int .i64 0, .int .i64 0, .int .i64 0, .bool false])) fun c5 =>
  B.call C (N 432) [v0, (.int .i64 2)] h fun v11 h =>
  B.call C (N 432) [v0, (.int .i64 2)] h fun v13 h =>
  B.al c5 (B.al c5 (B.pv (V.setF 2 v11 c5) fun c5 =>
  B.al c5 (B.al c5 (B.pv (V.setF 3 v13 c5) fun c5 =>
  B.call C (N 432) [v0, (.int .i64 4)] h fun v19 h =>
  B.al c5 (B.pv (V.setF 4 v19 c5) fun c5 =>
  B.call C (N 432) [v0, (.int .i64 1)] h fun v22 h =>
  B.pv (V.bin .eql v22 (.int .i64 1)) fun v23 =>
  B.al c5 (B.pv (V.setF 5 v23 c5) fun c5 =>
  B.pv (V.zb4 0 6 c5) fun v25 =>
  B.pv (V.setN 0 6 v25 (.agg [.int .i64 0, .str [], .int .i64 0, .int .i64 0, .int .i64 0, .bool false])) fun c4 =>
  B.pv (oneOf (zfq (V.zb4 0 6 c4) (some []))) fun v => Q v h))))))
@[simp] def zch.cps (C : CSem) (N : Nat → Nat) (v0 v1 : AVal) (h : za) (Q : AVal → za → Prop) : Prop :=
 zch.k1 C N Q v0 v1 h
def zch.Imp (C : CSem) (N : Nat → Nat) : Prop := ∀ (v0 v1 : AVal) (h : za) (Q : AVal → za → Prop), zch.cps C N v0 v1 h (dn Q) → C (N 434) [v0, v1] h Q
@[simp] def zb7.k1 (C : CSem) (N : Nat → Nat) (Q : AVal → za → Prop) (v0 v1 : AVal) (h : za) : Prop :=
 B.call C (N 440) [v0] h fun v8 h =>
  B.pv (A.bld [(0, none, v1), (1, none, v8)] [.int .i64 0, .str [], .int .i64 0, .int .i64 0, .int .i64 0, .int .u8 0, .int .i64 0, .str []]) fun v9 =>
  B.pv (V.setN 0 8 v9 (.agg [.int .i64 0, .str [], .int .i64 0, .int .i64 0, .int .i64 0, .int .u8 0, .int .i64 0, .str []])) fun c5 =>
  B.call C (N 432) [v0, (.int .i64 4)] h fun v11 h =>
  B.al c5 (B.pv (V.setF 2 v11 c5) fun c5 =>
  B.call C (N 432) [v0, (.int .i64 2)] h fun v14 h =>
  B.call C (N 432) [v0, (.int .i64 1)] h fun v16 h =>
  B.al c5 (B.pv (V.setF 3 v14 c5) fun c5 =>
  B.al c5 (B.pv (V.setF 4 v16 c5) fun c5 =>
  B.call C (N 432) [v0, (.int .i64 1)] h fun v20 h =>
  B.pv (V.toInt .u8 v20) fun v21 =>
  B.al c5 (B.pv (V.setF 5 v21 c5) fun c5 =>
  B.call C (N 432) [v0, (.int .i64 2)] h fun v24 h =>
  B.pv (V.bin .sub v24 (.int .i64 1)) fun v25 =>
  B.al c5 (B.pv (V.setF 6 v25 c5) fun c5 =>
  B.call C (N 440) [v0] h fun v28 h =>
  B.al c5 (B.pv (V.setF 7 v28 c5) fun c5 =>
  B.pv (V.zb4 0 8 c5) fun v30 =>
  B.pv (V.setN 0 8 v30 (.agg [.int .i64 0, .str [], .int .i64 0, .int .i64 0, .int .i64 0, .int .u8 0, .int .i64 0, .str []])) fun c4 =>
  B.pv (oneOf (zfq (V.zb4 0 8 c4) (some []))) fun v => Q v h))))))
@[simp] def zb7.cps (C : CSem) (N : Nat → Nat) (v0 v1 : AVal) (h : za) (Q : AVal → za → Prop) : Prop :=
 zb7.k1 C N Q v0 v1 h
def zb7.Imp (C : CSem) (N : Nat → Nat) : Prop := ∀ (v0 v1 : AVal) (h : za) (Q : AVal → za → Prop), zb7.cps C N v0 v1 h (dn Q) → C (N 435) [v0, v1] h Q
@[simp] def zde.k1 (C : CSem) (N : Nat → Nat) (Q : AVal → za → Prop) (v3 c1 : AVal) (h : za) : Prop :=
 B.al c1 (B.pv (V.zd 1 c1) fun v48 =>
  B.pv (V.bin .eql v48 (.int .i64 0)) fun v49 =>
  B.gd h v49 true (fun K => K v3 h) fun v51 h =>
  B.gd h v49 true (fun K => B.call C (N 441) [(.int .i64 8), v51] h K) fun v52 h =>
  B.pick v49 v52 (.bool false) fun v53 =>
  Q v53 h)
@[simp] def zde.k2 (C : CSem) (N : Nat → Nat) (Q : AVal → za → Prop) (Y1 : List AVal → za → Prop) (v3 v27 v28 v29 c1 : AVal) (h : za) : Prop :=
 B.pv (V.bin .lss v29 v28) fun v30 =>
  B.cond v30
  (B.pv (V.idxS 2 v27 v29) fun v31 =>
  B.ldn h v31 2 fun v32 =>
  B.pv (V.setN 0 2 v32 (.agg [.str [], .int .i64 0])) fun c5 =>
  B.al c5 (B.pv (V.zd 1 c5) fun v34 =>
  B.pv (V.bin .lss v34 (.int .i64 1)) fun v35 =>
  B.al c5 (B.gd h v35 false (fun K => K .undef h) fun _ h =>
  B.gd h v35 false (fun K => B.pv (V.zd 1 c5) fun v => K v h) fun v38 h =>
  B.gd h v35 false (fun K => B.pv (V.bin .gtr v38 (.int .i64 1073741824)) fun v => K v h) fun v39 h =>
  B.pick v35 (.bool true) v39 fun v40 =>
  B.cond v40
  (Q (.bool false) h)
  (B.al c5 (B.pv (V.zd 0 c5) fun v43 =>
  B.newO h (zc7 [(0, none, v43)] (repL 1 [.str []])) fun i44 h =>
  B.appW h 1 16 v3 (.sl i44 0 0 1 1 1) fun v45 h =>
  B.pv (V.bin .add v29 (.int .i64 1)) fun v46 =>
  Y1 [v45, v46] h)))))
  (zde.k1 C N Q v3 c1 h)
@[simp] def zde.l3 (C : CSem) (N : Nat → Nat) (Q : AVal → za → Prop) (v27 v28 c1 : AVal) : List AVal → za → (List AVal → za → Prop) → Prop
 | [v3, v29], h, Y1 => zde.k2 C N Q Y1 v3 v27 v28 v29 c1 h
 | _, _, _ => False
@[simp] def zde.k4 (C : CSem) (N : Nat → Nat) (Q : AVal → za → Prop) (c1 : AVal) (h : za) : Prop :=
 B.al c1 (B.pv (V.zd 2 c1) fun v15 =>
  B.pv (V.zi v15) fun v16 =>
  B.pv (V.bin .eql v16 (.int .i64 0)) fun v17 =>
  B.cond v17
  (B.al c1 (B.pv (V.zd 1 c1) fun v19 =>
  B.pv (V.bin .gtr v19 (.int .i64 0)) fun v20 =>
  B.al c1 (B.gd h v20 true (fun K => K .undef h) fun _ h =>
  B.gd h v20 true (fun K => B.pv (V.zd 1 c1) fun v => K v h) fun v23 h =>
  B.gd h v20 true (fun K => B.pv (V.bin .leq v23 (.int .i64 2000)) fun v => K v h) fun v24 h =>
  B.pick v20 v24 (.bool false) fun v25 =>
  Q v25 h)))
  (B.al c1 (B.pv (V.zd 2 c1) fun v27 =>
  B.pv (V.zi v27) fun v28 =>
  zg (zde.l3 C N Q v27 v28 c1) [.nils, (.int .i64 0)] h)))
@[simp] def zde.k5 (C : CSem) (N : Nat → Nat) (Q : AVal → za → Prop) (c1 : AVal) (h : za) : Prop :=
 B.al c1 (B.pv (V.zd 0 c1) fun v7 =>
  B.newO h (zc7 [(0, none, v7)] (repL 1 [.str []])) fun i8 h =>
  B.al c1 (B.pv (V.zd 3 c1) fun v10 =>
  B.appW h 1 16 (.sl i8 0 0 1 1 1) v10 fun v11 h =>
  B.call C (N 441) [(.int .i64 5), v11] h fun v12 h =>
  B.pv (V.un .not v12) fun v13 =>
  B.cond v13
  (Q (.bool false) h)
  (zde.k4 C N Q c1 h)))
@[simp] def zde.cps (C : CSem) (N : Nat → Nat) (v0 : AVal) (h : za) (Q : AVal → za → Prop) : Prop :=
 B.pv (A.boxN 4 v0) fun c1 =>
  zde.k5 C N Q c1 h
def zde.Imp (C : CSem) (N : Nat → Nat) : Prop := ∀ (v0 : AVal) (h : za) (Q : AVal → za → Prop), zde.cps C N v0 h (dn Q) → C (N 438) [v0] h Q
@[simp] def zby.k1 (C : CSem) (N : Nat → Nat) (Q : AVal → za → Prop) (v0 : AVal) (h : za) : Prop :=
 B.nilCheck v0 fun v7 =>
  B.pv (V.fieldAddr 1 v7) fun v8 =>
  B.ld h v8 fun v9 =>
  B.cond v9
  (Q (.str []) h)
  (B.nilCheck v0 fun v12 =>
  B.pv (V.fieldAddr 0 v12) fun v13 =>
  B.ld h v13 fun v14 =>
  B.call C (N 103) [v14] h fun v15 h =>
  B.pv (V.ext 0 v15) fun v16 =>
  B.pv (V.ext 1 v15) fun v17 =>
  B.pv (V.ext 2 v15) fun v18 =>
  B.pv (V.un .not v18) fun v21 =>
  B.nilCheck v0 fun v22 =>
  B.pv (V.fieldAddr 1 v22) fun v23 =>
  B.st h v23 v21 fun h =>
  B.nilCheck v0 fun v26 =>
  B.pv (V.fieldAddr 0 v26) fun v27 =>
  B.ld h v27 fun v28 =>
  B.pv (V.zfs 1 v28 (some v17) none) fun v30 =>
  B.nilCheck v0 fun v31 =>
  B.pv (V.fieldAddr 0 v31) fun v32 =>
  B.st h v32 v30 fun h =>
  Q v16 h)
@[simp] def zby.cps (C : CSem) (N : Nat → Nat) (v0 : AVal) (h : za) (Q : AVal → za → Prop) : Prop :=
 zby.k1 C N Q v0 h
def zby.Imp (C : CSem) (N : Nat → Nat) : Prop := ∀ (v0 : AVal) (h : za) (Q : AVal → za → Prop), zby.cps C N v0 h (dn Q) → C (N 440) [v0] h Q
@[simp] def zdu.k1 (C : CSem) (N : Nat → Nat) (Q : AVal → za → Prop) (Y1 : List AVal → za → Prop) (v0 v1 v7 v8 v9 : AVal) (h : za) : Prop :=
 B.pv (V.bin .lss v9 v8) fun v10 =>
  B.cond v10
  (B.pv (V.idxS 1 v7 v9) fun v12 =>
  B.ld h v12 fun v13 =>
  B.call C (N 53) [v13] h fun v15 h =>
  B.pv (V.un .not v15) fun v16 =>
  B.gd h v16 false (fun K => K v1 h) fun v18 h =>
  B.gd h v16 false (fun K => K v9 h) fun v19 h =>
  B.gd h v16 false (fun K => B.pv (V.zfs 1 v18 none (some v19)) fun v => K v h) fun v20 h =>
  B.gd h v16 false (fun K => K v13 h) fun v21 h =>
  B.gd h v16 false (fun K => B.call C (N 442) [v20, v21] h K) fun v22 h =>
  B.pick v16 (.bool true) v22 fun v23 =>
  B.cond v23
  (Q (.bool false) h)
  (B.pv (V.bin .add v9 (.int .i64 1)) fun v24 =>
  Y1 [v24] h))
  (B.pv (V.zi v1) fun v26 =>
  B.pv (V.bin .leq v26 v0) fun v28 =>
  Q v28 h)
@[simp] def zdu.l2 (C : CSem) (N : Nat → Nat) (Q : AVal → za → Prop) (v0 v1 v7 v8 : AVal) : List AVal → za → (List AVal → za → Prop) → Prop
 | [v9], h, Y1 => zdu.k1 C N Q Y1 v0 v1 v7 v8 v9 h
 | _, _, _ => False
@[simp] def zdu.cps (C : CSem) (N : Nat → Nat) (v0 v1 : AVal) (h : za) (Q : AVal → za → Prop) : Prop :=
 B.pv (V.zi v1) fun v8 =>
  zg (zdu.l2 C N Q v0 v1 v1 v8) [(.int .i64 0)] h
def zdu.Imp (C : CSem) (N : Nat → Nat) : Prop := ∀ (v0 v1 : AVal) (h : za) (Q : AVal → za → Prop), zdu.cps C N v0 v1 h (dn Q) → C (N 441) [v0, v1] h Q
@[simp] def zg0.k1 (C : CSem) (E : zf0) (Q : AVal → za → Prop) (v0 v1 : AVal) (h : za) : Prop :=
 B.pv (V.capSl v0) fun v10 =>
  B.pv (V.zi v0) fun v12 =>
  B.pv (V.bin .sub v10 v12) fun v13 =>
  B.pv (V.bin .sub v1 v13) fun v14 =>
  B.pv (V.bin .gtr v14 (.int .i64 0)) fun v16 =>
  B.cond v16
  (B.pv (V.capSl v0) fun v19 =>
  B.pv (V.zfs E.es v0 none (some v19)) fun v20 =>
  B.appZ h E.es E.bytes E.z v20 v14 fun v22 h =>
  B.pv (V.zi v0) fun v24 =>
  B.pv (V.zfs E.es v22 none (some v24)) fun v25 =>
  Q v25 h)
  (Q v0 h)
@[simp] def zg0.cps (C : CSem) (E : zf0) (v0 v1 : AVal) (h : za) (Q : AVal → za → Prop) : Prop :=
 B.pv (V.bin .lss v1 (.int .i64 0)) fun v6 =>
  B.cond v6
  (False)
  (zg0.k1 C E Q v0 v1 h)
@[simp] def zld.k1 (C : CSem) (E : zf0) (f1 : Nat) (Q : AVal → za → Prop) (v0 v1 : AVal) (h : za) : Prop :=
 B.newO h (A.zmr v0) fun i2 h =>
  B.newO h (A.zmr v1) fun i3 h =>
  B.ld h (.ptr i3 0 0) fun v5 =>
  B.pv (V.bin .lss v5 (.int .i64 1)) fun v6 =>
  B.cond v6
  (False)
  (Q (.fn f1 [] [(.ptr i2 0 0), (.ptr i3 0 0)]) h)
@[simp] def zld.cps (C : CSem) (E : zf0) (f1 : Nat) (v0 v1 : AVal) (h : za) (Q : AVal → za → Prop) : Prop :=
 zld.k1 C E f1 Q v0 v1 h
@[simp] def zlq.cps (C : CSem) (E : zf0) (f1 : Nat) (v0 v1 : AVal) (h : za) (Q : AVal → za → Prop) : Prop :=
 B.call C f1 [v0, v1] h fun v7 h =>
  B.pv (V.bin .geq v7 (.int .i64 0)) fun v8 =>
  Q v8 h
@[simp] def ze0.k1 (C : CSem) (E : zf0) (Q : AVal → za → Prop) (Y1 : List AVal → za → Prop) (v0 v1 v7 v8 : AVal) (h : za) : Prop :=
 B.pv (V.bin .lss v8 v7) fun v9 =>
  B.cond v9
  (B.pv (V.idxS E.es v0 v8) fun v14 =>
  E.ld h v14 fun v15 =>
  B.pv (V.bin .eql v1 v15) fun v16 =>
  B.cond v16
  (Q v8 h)
  (B.pv (V.bin .add v8 (.int .i64 1)) fun v18 =>
  Y1 [v18] h))
  (Q (.int .i64 (-1)) h)
@[simp] def ze0.l2 (C : CSem) (E : zf0) (Q : AVal → za → Prop) (v0 v1 v7 : AVal) : List AVal → za → (List AVal → za → Prop) → Prop
 | [v8], h, Y1 => ze0.k1 C E Q Y1 v0 v1 v7 v8 h
 | _, _, _ => False
@[simp] def ze0.cps (C : CSem) (E : zf0) (v0 v1 : AVal) (h : za) (Q : AVal → za → Prop) : Prop :=
 B.pv (V.zi v0) fun v7 =>
  zg (ze0.l2 C E Q v0 v1 v7) [(.int .i64 0)] h
def zbe.cps (C : CSem) (N : Nat → Nat) (v0 v1 : AVal) (h : za) (Q : AVal → za → Prop) : Prop :=
 zld.cps C (opsS 1 (.int .u8 0) 0) (N 443) v0 v1 h Q
def zbe.Imp (C : CSem) (N : Nat → Nat) : Prop := ∀ (v0 v1 : AVal) (h : za) (Q : AVal → za → Prop), zbe.cps C N v0 v1 h (dn Q) → C (N 429) [v0, v1] h Q
@[simp] def zb.k1 (C : CSem) (N : Nat → Nat) (Q : AVal → za → Prop) (Y1 : List AVal → za → Prop) (v1 v2 v15 v16 v17 : AVal) (h : za) : Prop :=
 B.pv (V.bin .lss v17 v16) fun v18 =>
  B.cond v18
  (B.pv (V.idxS 2 v15 v17) fun v20 =>
  B.ldn h v20 2 fun v21 =>
  B.pv (V.setN 0 2 v21 (.agg [.nils, .nils])) fun c8 =>
  B.pv (V.idxS 2 v1 v17) fun v24 =>
  B.ldn h v24 2 fun v25 =>
  B.pv (V.setN 0 2 v25 (.agg [.nils, .nils])) fun c9 =>
  B.pv (V.zb4 0 2 c8) fun v27 =>
  B.pv (V.zb4 0 2 c9) fun v28 =>
  B.zj3 h C v2 [v27, v28] fun v29 h =>
  B.pv (V.un .not v29) fun v30 =>
  B.cond v30
  (Q (.bool false) h)
  (B.pv (V.bin .add v17 (.int .i64 1)) fun v31 =>
  Y1 [v31] h))
  (Q (.bool true) h)
@[simp] def zb.l2 (C : CSem) (N : Nat → Nat) (Q : AVal → za → Prop) (v1 v2 v15 v16 : AVal) : List AVal → za → (List AVal → za → Prop) → Prop
 | [v17], h, Y1 => zb.k1 C N Q Y1 v1 v2 v15 v16 v17 h
 | _, _, _ => False
@[simp] def zb.k3 (C : CSem) (N : Nat → Nat) (Q : AVal → za → Prop) (v0 v1 v2 : AVal) (h : za) : Prop :=
 B.pv (V.zi v0) fun v11 =>
  B.pv (V.zi v1) fun v13 =>
  B.pv (V.bin .neq v11 v13) fun v14 =>
  B.cond v14
  (Q (.bool false) h)
  (B.pv (V.zi v0) fun v16 =>
  zg (zb.l2 C N Q v1 v2 v0 v16) [(.int .i64 0)] h)
@[simp] def zb.cps (C : CSem) (N : Nat → Nat) (v0 v1 v2 : AVal) (h : za) (Q : AVal → za → Prop) : Prop :=
 zb.k3 C N Q v0 v1 v2 h
def zb.Imp (C : CSem) (N : Nat → Nat) : Prop := ∀ (v0 v1 v2 : AVal) (h : za) (Q : AVal → za → Prop), zb.cps C N v0 v1 v2 h (dn Q) → C (N 431) [v0, v1, v2] h Q
@[simp] def zh.k1 (C : CSem) (N : Nat → Nat) (Q : AVal → za → Prop) (Y1 : List AVal → za → Prop) (v6 v25 v26 v27 : AVal) (h : za) : Prop :=
 B.pv (V.bin .lss v27 v26) fun v28 =>
  B.cond v28
  (B.pv (V.idxS 1 v25 v27) fun v29 =>
  B.ld h v29 fun v30 =>
  B.appW h 1 1 v6 v30 fun v33 h =>
  B.pv (V.bin .add v27 (.int .i64 1)) fun v34 =>
  Y1 [v33, v34] h)
  (Q v6 h)
@[simp] def zh.l2 (C : CSem) (N : Nat → Nat) (Q : AVal → za → Prop) (v25 v26 : AVal) : List AVal → za → (List AVal → za → Prop) → Prop
 | [v6, v27], h, Y1 => zh.k1 C N Q Y1 v6 v25 v26 v27 h
 | _, _, _ => False
@[simp] def zh.k3 (C : CSem) (N : Nat → Nat) (Q : AVal → za → Prop) (Y2 : List AVal → za → Prop) (v0 v3 v9 v10 v11 : AVal) (h : za) : Prop :=
 B.pv (V.bin .lss v11 v10) fun v12 =>
  B.cond v12
  (B.pv (V.idxS 1 v9 v11) fun v13 =>
  B.ld h v13 fun v14 =>
  B.pv (V.zi v14) fun v17 =>
  B.pv (V.bin .add v3 v17) fun v18 =>
  B.pv (V.bin .lss v18 (.int .i64 0)) fun v20 =>
  B.cond v20
  (False)
  (B.pv (V.bin .add v11 (.int .i64 1)) fun v22 =>
  Y2 [v18, v22] h))
  (B.call C (N 444) [.nils, v3] h fun v24 h =>
  B.pv (V.zi v0) fun v26 =>
  zg (zh.l2 C N Q v0 v26) [v24, (.int .i64 0)] h)
@[simp] def zh.l4 (C : CSem) (N : Nat → Nat) (Q : AVal → za → Prop) (v0 v9 v10 : AVal) : List AVal → za → (List AVal → za → Prop) → Prop
 | [v3, v11], h, Y2 => zh.k3 C N Q Y2 v0 v3 v9 v10 v11 h
 | _, _, _ => False
@[simp] def zh.cps (C : CSem) (N : Nat → Nat) (v0 : AVal) (h : za) (Q : AVal → za → Prop) : Prop :=
 B.pv (V.zi v0) fun v10 =>
  zg (zh.l4 C N Q v0 v0 v10) [(.int .i64 0), (.int .i64 0)] h
def zh.Imp (C : CSem) (N : Nat → Nat) : Prop := ∀ (v0 : AVal) (h : za) (Q : AVal → za → Prop), zh.cps C N v0 h (dn Q) → C (N 439) [v0] h Q
def zp.cps (C : CSem) (N : Nat → Nat) (v0 v1 : AVal) (h : za) (Q : AVal → za → Prop) : Prop :=
 zlq.cps C (opsS 16 (.str []) 0) (N 445) v0 v1 h Q
def zp.Imp (C : CSem) (N : Nat → Nat) : Prop := ∀ (v0 v1 : AVal) (h : za) (Q : AVal → za → Prop), zp.cps C N v0 v1 h (dn Q) → C (N 442) [v0, v1] h Q
@[simp] def zo.k1 (C : CSem) (N : Nat → Nat) (Q : AVal → za → Prop) (Y1 : List AVal → za → Prop) (v0 v1 v2 v4 : AVal) (h : za) : Prop :=
 B.ld h v1 fun v7 =>
  B.pv (V.zi v7) fun v8 =>
  B.pv (V.bin .lss v4 v8) fun v9 =>
  B.cond v9
  (B.ld h v2 fun v13 =>
  B.ld h v1 fun v14 =>
  B.pv (V.zfs 1 v14 (some v4) none) fun v16 =>
  B.pv (V.zi v16) fun v17 =>
  B.pv (V.min2 v13 v17) fun v18 =>
  B.ld h v1 fun v20 =>
  B.pv (V.bin .add v4 v18) fun v24 =>
  B.pv (V.bin .add v4 v18) fun v27 =>
  B.pv (V.cut3 1 v20 v4 v24 v27) fun v28 =>
  B.zj3 h C v0 [v28] fun v29 h =>
  B.pv (V.un .not v29) fun v30 =>
  B.cond v30
  (Q (.tup []) h)
  (B.ld h v2 fun v11 =>
  B.pv (V.bin .add v4 v11) fun v12 =>
  Y1 [v12] h))
  (Q (.tup []) h)
@[simp] def zo.l2 (C : CSem) (N : Nat → Nat) (Q : AVal → za → Prop) (v0 v1 v2 : AVal) : List AVal → za → (List AVal → za → Prop) → Prop
 | [v4], h, Y1 => zo.k1 C N Q Y1 v0 v1 v2 v4 h
 | _, _, _ => False
@[simp] def zo.cps (C : CSem) (N : Nat → Nat) (v0 v1 v2 : AVal) (h : za) (Q : AVal → za → Prop) : Prop :=
 zg (zo.l2 C N Q v0 v1 v2) [(.int .i64 0)] h
def zo.Imp (C : CSem) (N : Nat → Nat) : Prop := ∀ (v0 v1 v2 : AVal) (h : za) (Q : AVal → za → Prop), zo.cps C N v0 v1 v2 h (dn Q) → C (N 443) [v0, v1, v2] h Q
def zbh.cps (C : CSem) (N : Nat → Nat) (v0 v1 : AVal) (h : za) (Q : AVal → za → Prop) : Prop :=
 zg0.cps C (opsS 1 (.int .u8 0) 0) v0 v1 h Q
def zbh.Imp (C : CSem) (N : Nat → Nat) : Prop := ∀ (v0 v1 : AVal) (h : za) (Q : AVal → za → Prop), zbh.cps C N v0 v1 h (dn Q) → C (N 444) [v0, v1] h Q
def zu.cps (C : CSem) (N : Nat → Nat) (v0 v1 : AVal) (h : za) (Q : AVal → za → Prop) : Prop :=
 ze0.cps C (opsS 16 (.str []) 0) v0 v1 h Q
def zu.Imp (C : CSem) (N : Nat → Nat) : Prop := ∀ (v0 v1 : AVal) (h : za) (Q : AVal → za → Prop), zu.cps C N v0 v1 h (dn Q) → C (N 445) [v0, v1] h Q
@[simp] def zbx.k1 (C : CSem) (N : Nat → Nat) (Q : AVal → za → Prop) (Y1 : List AVal → za → Prop) (v4 v86 v87 v88 : AVal) (h : za) : Prop :=
 B.pv (V.bin .lss v88 v87) fun v89 =>
  B.cond v89
  (B.pv (V.idxS 3 v86 v88) fun v90 =>
  B.ldn h v90 3 fun v91 =>
  B.pv (V.setN 0 3 v91 (.agg [.int .i64 0, .int .i64 0, .int .i64 0])) fun c9 =>
  B.al c9 (B.pv (V.zd 0 c9) fun v94 =>
  B.call C (N 50) [v4, v94, (.int .i64 8)] h fun v95 h =>
  B.al c9 (B.pv (V.zd 1 c9) fun v98 =>
  B.call C (N 50) [v95, v98, (.int .i64 8)] h fun v99 h =>
  B.al c9 (B.pv (V.zd 2 c9) fun v102 =>
  B.call C (N 50) [v99, v102, (.int .i64 8)] h fun v103 h =>
  B.pv (V.bin .add v88 (.int .i64 1)) fun v104 =>
  Y1 [v103, v104] h))))
  (Q (.tup [v4, (.int .i64 0)]) h)
@[simp] def zbx.l2 (C : CSem) (N : Nat → Nat) (Q : AVal → za → Prop) (v86 v87 : AVal) : List AVal → za → (List AVal → za → Prop) → Prop
 | [v4, v88], h, Y1 => zbx.k1 C N Q Y1 v4 v86 v87 v88 h
 | _, _, _ => False
@[simp] def zbx.k3 (C : CSem) (N : Nat → Nat) (Q : AVal → za → Prop) (v4 c1 : AVal) (h : za) : Prop :=
 B.al c1 (B.pv (V.zd 6 c1) fun v82 =>
  B.pv (V.zi v82) fun v83 =>
  B.call C (N 50) [v4, v83, (.int .i64 2)] h fun v84 h =>
  B.al c1 (B.pv (V.zd 6 c1) fun v86 =>
  B.pv (V.zi v86) fun v87 =>
  zg (zbx.l2 C N Q v86 v87) [v84, (.int .i64 0)] h))
@[simp] def zbx.k4 (C : CSem) (N : Nat → Nat) (Q : AVal → za → Prop) (Y2 : List AVal → za → Prop) (v4 v45 v46 v47 c1 : AVal) (h : za) : Prop :=
 B.pv (V.bin .lss v47 v46) fun v48 =>
  B.cond v48
  (B.pv (V.idxS 6 v45 v47) fun v49 =>
  B.ldn h v49 6 fun v50 =>
  B.pv (V.setN 0 6 v50 (.agg [.int .i64 0, .str [], .int .i64 0, .int .i64 0, .int .i64 0, .bool false])) fun c6 =>
  B.al c6 (B.pv (V.zd 0 c6) fun v53 =>
  B.call C (N 50) [v4, v53, (.int .i64 8)] h fun v54 h =>
  B.al c6 (B.pv (V.zd 1 c6) fun v57 =>
  B.call C (N 51) [v57] h fun v58 h =>
  B.appW h 1 1 v54 v58 fun v59 h =>
  B.al c6 (B.al c6 (B.pv (V.zd 2 c6) fun v63 =>
  B.call C (N 50) [v59, v63, (.int .i64 2)] h fun v64 h =>
  B.al c6 (B.al c6 (B.pv (V.zd 3 c6) fun v68 =>
  B.call C (N 50) [v64, v68, (.int .i64 2)] h fun v69 h =>
  B.al c6 (B.pv (V.zd 4 c6) fun v72 =>
  B.call C (N 50) [v69, v72, (.int .i64 8)] h fun v73 h =>
  B.al c6 (B.pv (V.zd 5 c6) fun v75 =>
  B.cond v75
  (B.call C (N 50) [v73, (.int .i64 1), (.int .i64 1)] h fun v78 h =>
  B.pv (V.bin .add v47 (.int .i64 1)) fun v79 =>
  Y2 [v78, v79] h)
  (B.call C (N 50) [v73, (.int .i64 0), (.int .i64 1)] h fun v78 h =>
  B.pv (V.bin .add v47 (.int .i64 1)) fun v79 =>
  Y2 [v78, v79] h))))))))))
  (zbx.k3 C N Q v4 c1 h)
@[simp] def zbx.l5 (C : CSem) (N : Nat → Nat) (Q : AVal → za → Prop) (v45 v46 c1 : AVal) : List AVal → za → (List AVal → za → Prop) → Prop
 | [v4, v47], h, Y2 => zbx.k4 C N Q Y2 v4 v45 v46 v47 c1 h
 | _, _, _ => False
@[simp] def zbx.k6 (C : CSem) (N : Nat → Nat) (Q : AVal → za → Prop) (v4 c1 : AVal) (h : za) : Prop :=
 B.al c1 (B.pv (V.zd 5 c1) fun v41 =>
  B.pv (V.zi v41) fun v42 =>
  B.call C (N 50) [v4, v42, (.int .i64 2)] h fun v43 h =>
  B.al c1 (B.pv (V.zd 5 c1) fun v45 =>
  B.pv (V.zi v45) fun v46 =>
  zg (zbx.l5 C N Q v45 v46 c1) [v43, (.int .i64 0)] h))
@[simp] def zbx.k7 (C : CSem) (N : Nat → Nat) (Q : AVal → za → Prop) (v4 c1 : AVal) (h : za) : Prop :=
 B.al c1 (B.pv (V.zd 4 c1) fun v36 =>
  B.newO h (zc7 [(0, none, v36)] (repL 1 [.int .u8 0])) fun i37 h =>
  B.appW h 1 1 v4 (.sl i37 0 0 1 1 1) fun v38 h =>
  zbx.k6 C N Q v38 c1 h)
@[simp] def zbx.k8 (C : CSem) (N : Nat → Nat) (Q : AVal → za → Prop) (v4 c1 : AVal) (h : za) : Prop :=
 B.al c1 (B.pv (V.zd 2 c1) fun v26 =>
  B.pv (V.bin .add v26 (.int .i64 1)) fun v27 =>
  B.call C (N 50) [v4, v27, (.int .i64 2)] h fun v28 h =>
  B.al c1 (B.pv (V.zd 3 c1) fun v31 =>
  B.call C (N 51) [v31] h fun v32 h =>
  B.appW h 1 1 v28 v32 fun v33 h =>
  zbx.k7 C N Q v33 c1 h))
@[simp] def zbx.k9 (C : CSem) (N : Nat → Nat) (Q : AVal → za → Prop) (v4 c1 : AVal) (h : za) : Prop :=
 B.al c1 (B.pv (V.zd 0 c1) fun v17 =>
  B.pv (V.bin .gtr v17 (.int .i64 0)) fun v18 =>
  B.cond v18
  (Q (.tup [v4, (.int .i64 0)]) h)
  (B.al c1 (B.pv (V.zd 1 c1) fun v22 =>
  B.call C (N 50) [v4, v22, (.int .i64 8)] h fun v23 h =>
  zbx.k8 C N Q v23 c1 h)))
@[simp] def zbx.k10 (C : CSem) (N : Nat → Nat) (Q : AVal → za → Prop) (c1 : AVal) (h : za) : Prop :=
 B.pv (V.zb4 0 7 c1) fun v10 =>
  B.call C (N 29) [v10] h fun v11 h =>
  B.pv (V.un .not v11) fun v12 =>
  B.cond v12
  (Q (.tup [.nils, (.int .i64 2)]) h)
  (B.al c1 (B.pv (V.zd 0 c1) fun v14 =>
  B.call C (N 50) [.nils, v14, (.int .i64 2)] h fun v15 h =>
  zbx.k9 C N Q v15 c1 h))
@[simp] def zbx.cps (C : CSem) (N : Nat → Nat) (v0 : AVal) (h : za) (Q : AVal → za → Prop) : Prop :=
 B.pv (A.boxN 7 v0) fun c1 =>
  zbx.k10 C N Q c1 h
def zbx.Imp (C : CSem) (N : Nat → Nat) : Prop := ∀ (v0 : AVal) (h : za) (Q : AVal → za → Prop), zbx.cps C N v0 h (dn Q) → C (N 28) [v0] h Q
@[simp] def zbp.k1 (C : CSem) (N : Nat → Nat) (Q : AVal → za → Prop) (Y1 : List AVal → za → Prop) (v104 v105 v106 : AVal) (h : za) : Prop :=
 B.pv (V.bin .lss v106 v105) fun v107 =>
  B.cond v107
  (B.pv (V.idxS 3 v104 v106) fun v108 =>
  B.ldn h v108 3 fun v109 =>
  B.pv (V.setN 0 3 v109 (.agg [.int .i64 0, .int .i64 0, .int .i64 0])) fun c7 =>
  B.al c7 (B.pv (V.zd 0 c7) fun v111 =>
  B.pv (V.bin .lss v111 (.int .i64 0)) fun v112 =>
  B.al c7 (B.gd h v112 false (fun K => K .undef h) fun _ h =>
  B.gd h v112 false (fun K => B.pv (V.zd 1 c7) fun v => K v h) fun v115 h =>
  B.gd h v112 false (fun K => B.pv (V.bin .lss v115 (.int .i64 1)) fun v => K v h) fun v116 h =>
  B.pick v112 (.bool true) v116 fun v117 =>
  B.al c7 (B.gd h v117 false (fun K => K .undef h) fun _ h =>
  B.gd h v117 false (fun K => B.pv (V.zd 2 c7) fun v => K v h) fun v120 h =>
  B.gd h v117 false (fun K => B.pv (V.bin .lss v120 (.int .i64 1)) fun v => K v h) fun v121 h =>
  B.pick v117 (.bool true) v121 fun v122 =>
  B.cond v122
  (Q (.bool false) h)
  (B.pv (V.bin .add v106 (.int .i64 1)) fun v123 =>
  Y1 [v123] h)))))
  (Q (.bool true) h)
@[simp] def zbp.l2 (C : CSem) (N : Nat → Nat) (Q : AVal → za → Prop) (v104 v105 : AVal) : List AVal → za → (List AVal → za → Prop) → Prop
 | [v106], h, Y1 => zbp.k1 C N Q Y1 v104 v105 v106 h
 | _, _, _ => False
@[simp] def zbp.k3 (C : CSem) (N : Nat → Nat) (Q : AVal → za → Prop) (Y2 : List AVal → za → Prop) (v93 v94 v95 c1 : AVal) (h : za) : Prop :=
 B.pv (V.bin .lss v95 v94) fun v96 =>
  B.cond v96
  (B.pv (V.idxS 6 v93 v95) fun v97 =>
  B.ldn h v97 6 fun v98 =>
  B.pv (V.setN 0 6 v98 (.agg [.int .i64 0, .str [], .int .i64 0, .int .i64 0, .int .i64 0, .bool false])) fun c5 =>
  B.pv (V.zb4 0 6 c5) fun v99 =>
  B.call C (N 52) [v99] h fun v100 h =>
  B.pv (V.un .not v100) fun v101 =>
  B.cond v101
  (Q (.bool false) h)
  (B.pv (V.bin .add v95 (.int .i64 1)) fun v102 =>
  Y2 [v102] h))
  (B.al c1 (B.pv (V.zd 6 c1) fun v104 =>
  B.pv (V.zi v104) fun v105 =>
  zg (zbp.l2 C N Q v104 v105) [(.int .i64 0)] h))
@[simp] def zbp.l4 (C : CSem) (N : Nat → Nat) (Q : AVal → za → Prop) (v93 v94 c1 : AVal) : List AVal → za → (List AVal → za → Prop) → Prop
 | [v95], h, Y2 => zbp.k3 C N Q Y2 v93 v94 v95 c1 h
 | _, _, _ => False
@[simp] def zbp.k5 (C : CSem) (N : Nat → Nat) (Q : AVal → za → Prop) (v3 c1 : AVal) (h : za) : Prop :=
 B.al c1 (B.pv (V.zd 0 c1) fun v38 =>
  B.pv (V.bin .lss v38 (.int .i64 0)) fun v39 =>
  B.al c1 (B.gd h v39 false (fun K => K .undef h) fun _ h =>
  B.gd h v39 false (fun K => B.pv (V.zd 0 c1) fun v => K v h) fun v42 h =>
  B.gd h v39 false (fun K => B.pv (V.bin .gtr v42 (.int .i64 999)) fun v => K v h) fun v43 h =>
  B.pick v39 (.bool true) v43 fun v44 =>
  B.cond v44
  (Q (.bool false) h)
  (B.al c1 (B.pv (V.zd 0 c1) fun v47 =>
  B.pv (V.bin .gtr v47 (.int .i64 0)) fun v48 =>
  B.cond v48
  (Q v3 h)
  (B.al c1 (B.pv (V.zd 1 c1) fun v52 =>
  B.pv (V.bin .lss v52 (.int .i64 0)) fun v53 =>
  B.al c1 (B.gd h v53 false (fun K => K .undef h) fun _ h =>
  B.gd h v53 false (fun K => B.pv (V.zd 2 c1) fun v => K v h) fun v56 h =>
  B.gd h v53 false (fun K => B.pv (V.bin .lss v56 (.int .i64 (-1))) fun v => K v h) fun v57 h =>
  B.pick v53 (.bool true) v57 fun v58 =>
  B.al c1 (B.gd h v58 false (fun K => K .undef h) fun _ h =>
  B.gd h v58 false (fun K => B.pv (V.zd 2 c1) fun v => K v h) fun v61 h =>
  B.gd h v58 false (fun K => B.pv (V.bin .gtr v61 (.int .i64 4000)) fun v => K v h) fun v62 h =>
  B.pick v58 (.bool true) v62 fun v63 =>
  B.al c1 (B.gd h v63 false (fun K => K .undef h) fun _ h =>
  B.gd h v63 false (fun K => B.pv (V.zd 3 c1) fun v => K v h) fun v66 h =>
  B.gd h v63 false (fun K => B.pv (V.bin .neq v66 (.str [])) fun v => K v h) fun v67 h =>
  B.gd h v63 false (fun K => K v67 h) fun v68 h =>
  B.al c1 (B.gd h v68 true (fun K => K .undef h) fun _ h =>
  B.gd h v68 true (fun K => B.pv (V.zd 3 c1) fun v => K v h) fun v70 h =>
  B.gd h v68 true (fun K => B.call C (N 53) [v70] h K) fun v71 h =>
  B.gd h v68 true (fun K => B.pv (V.un .not v71) fun v => K v h) fun v72 h =>
  B.gd h v63 false (fun K => B.pick v68 v72 (.bool false) fun v => K v h) fun v73 h =>
  B.pick v63 (.bool true) v73 fun v74 =>
  B.al c1 (B.gd h v74 false (fun K => K .undef h) fun _ h =>
  B.gd h v74 false (fun K => B.pv (V.zd 4 c1) fun v => K v h) fun v77 h =>
  B.gd h v74 false (fun K => B.pv (V.bin .gtr v77 (.int .u8 3)) fun v => K v h) fun v78 h =>
  B.pick v74 (.bool true) v78 fun v79 =>
  B.al c1 (B.gd h v79 false (fun K => K .undef h) fun _ h =>
  B.gd h v79 false (fun K => B.pv (V.zd 5 c1) fun v => K v h) fun v82 h =>
  B.gd h v79 false (fun K => B.pv (V.zi v82) fun v => K v h) fun v83 h =>
  B.gd h v79 false (fun K => B.pv (V.bin .gtr v83 (.int .i64 300)) fun v => K v h) fun v84 h =>
  B.pick v79 (.bool true) v84 fun v85 =>
  B.al c1 (B.gd h v85 false (fun K => K .undef h) fun _ h =>
  B.gd h v85 false (fun K => B.pv (V.zd 6 c1) fun v => K v h) fun v88 h =>
  B.gd h v85 false (fun K => B.pv (V.zi v88) fun v => K v h) fun v89 h =>
  B.gd h v85 false (fun K => B.pv (V.bin .gtr v89 (.int .i64 2000)) fun v => K v h) fun v90 h =>
  B.pick v85 (.bool true) v90 fun v91 =>
  B.cond v91
  (Q (.bool false) h)
  (B.al c1 (B.pv (V.zd 5 c1) fun v93 =>
  B.pv (V.zi v93) fun v94 =>
  zg (zbp.l4 C N Q v93 v94 c1) [(.int .i64 0)] h)))))))))))))))
@[simp] def zbp.k6 (C : CSem) (N : Nat → Nat) (Q : AVal → za → Prop) (c1 : AVal) (h : za) : Prop :=
 B.al c1 (B.pv (V.zd 1 c1) fun v9 =>
  B.pv (V.bin .eql v9 (.int .i64 0)) fun v10 =>
  B.al c1 (B.gd h v10 true (fun K => K .undef h) fun _ h =>
  B.gd h v10 true (fun K => B.pv (V.zd 2 c1) fun v => K v h) fun v13 h =>
  B.gd h v10 true (fun K => B.pv (V.bin .eql v13 (.int .i64 0)) fun v => K v h) fun v14 h =>
  B.pick v10 v14 (.bool false) fun v15 =>
  B.al c1 (B.gd h v15 true (fun K => K .undef h) fun _ h =>
  B.gd h v15 true (fun K => B.pv (V.zd 3 c1) fun v => K v h) fun v18 h =>
  B.gd h v15 true (fun K => B.pv (V.bin .eql v18 (.str [])) fun v => K v h) fun v19 h =>
  B.pick v15 v19 (.bool false) fun v20 =>
  B.al c1 (B.gd h v20 true (fun K => K .undef h) fun _ h =>
  B.gd h v20 true (fun K => B.pv (V.zd 4 c1) fun v => K v h) fun v23 h =>
  B.gd h v20 true (fun K => B.pv (V.bin .eql v23 (.int .u8 0)) fun v => K v h) fun v24 h =>
  B.pick v20 v24 (.bool false) fun v25 =>
  B.al c1 (B.gd h v25 true (fun K => K .undef h) fun _ h =>
  B.gd h v25 true (fun K => B.pv (V.zd 5 c1) fun v => K v h) fun v28 h =>
  B.gd h v25 true (fun K => B.pv (V.zi v28) fun v => K v h) fun v29 h =>
  B.al c1 (B.gd h v25 true (fun K => K .undef h) fun _ h =>
  B.gd h v25 true (fun K => B.pv (V.zd 6 c1) fun v => K v h) fun v31 h =>
  B.gd h v25 true (fun K => B.pv (V.zi v31) fun v => K v h) fun v32 h =>
  B.gd h v25 true (fun K => B.pv (V.bin .add v29 v32) fun v => K v h) fun v33 h =>
  B.gd h v25 true (fun K => B.pv (V.bin .eql v33 (.int .i64 0)) fun v => K v h) fun v34 h =>
  B.pick v25 v34 (.bool false) fun v35 =>
  zbp.k5 C N Q v35 c1 h))))))
@[simp] def zbp.cps (C : CSem) (N : Nat → Nat) (v0 : AVal) (h : za) (Q : AVal → za → Prop) : Prop :=
 B.pv (A.boxN 7 v0) fun c1 =>
  zbp.k6 C N Q c1 h
def zbp.Imp (C : CSem) (N : Nat → Nat) : Prop := ∀ (v0 : AVal) (h : za) (Q : AVal → za → Prop), zbp.cps C N v0 h (dn Q) → C (N 29) [v0] h Q
@[simp] def zdr.k1 (C : CSem) (N : Nat → Nat) (Q : AVal → za → Prop) (v2 v5 c6 : AVal) (h : za) : Prop :=
 B.nilCheck v5 fun v41 =>
  B.pv (V.fieldAddr 2 v41) fun v42 =>
  B.ld h v42 fun v43 =>
  B.gd h v43 false (fun K => B.pv (V.zb4 0 7 c6) fun v => K v h) fun v45 h =>
  B.gd h v43 false (fun K => B.call C (N 29) [v45] h K) fun v46 h =>
  B.gd h v43 false (fun K => B.pv (V.un .not v46) fun v => K v h) fun v47 h =>
  B.pick v43 (.bool true) v47 fun v48 =>
  B.cond v48
  (B.pv (A.bld [] [.int .i64 0, .int .i64 0, .int .i64 0, .str [], .int .u8 0, .nils, .nils]) fun v49 =>
  B.stn h v2 7 v49 fun h =>
  B.pv (oneOf (zfq (A.ldnv h v2 7) (zfq (some (.int .i64 0)) (zfq (some (.int .i64 4)) (some []))))) fun v => Q v h)
  (B.pv (V.zb4 0 7 c6) fun v50 =>
  B.nilCheck v5 fun v52 =>
  B.pv (V.fieldAddr 1 v52) fun v53 =>
  B.ld h v53 fun v54 =>
  (fun K => B.stn h v2 7 v50 fun h => K .undef h) (B.zlj h [(v53, none)] (fun _ h => B.pv (oneOf (zfq (A.ldnv h v2 7) (zfq (some v54) (zfq (some (.int .i64 0)) (some []))))) fun v => Q v h)))
@[simp] def zdr.k2 (C : CSem) (N : Nat → Nat) (Q : AVal → za → Prop) (v2 v5 c6 : AVal) (h : za) : Prop :=
 B.al c6 (B.pv (V.zd 0 c6) fun v14 =>
  B.pv (V.bin .eql v14 (.int .i64 0)) fun v15 =>
  B.cond v15
  (B.call C (N 65) [v5, (.int .i64 8)] h fun v17 h =>
  B.al c6 (B.pv (V.setF 1 v17 c6) fun c6 =>
  B.call C (N 65) [v5, (.int .i64 2)] h fun v20 h =>
  B.pv (V.bin .sub v20 (.int .i64 1)) fun v21 =>
  B.al c6 (B.pv (V.setF 2 v21 c6) fun c6 =>
  B.call C (N 66) [v5] h fun v24 h =>
  B.al c6 (B.pv (V.setF 3 v24 c6) fun c6 =>
  B.call C (N 65) [v5, (.int .i64 1)] h fun v27 h =>
  B.pv (V.toInt .u8 v27) fun v28 =>
  B.al c6 (B.pv (V.setF 4 v28 c6) fun c6 =>
  B.call C (N 68) [v5, (.fn (N 67) [v5] [])] h fun v33 h =>
  B.al c6 (B.pv (V.setF 5 v33 c6) fun c6 =>
  B.call C (N 70) [v5, (.fn (N 69) [v5] [])] h fun v38 h =>
  B.al c6 (B.pv (V.setF 6 v38 c6) fun c6 =>
  zdr.k1 C N Q v2 v5 c6 h)))))))
  (zdr.k1 C N Q v2 v5 c6 h))
@[simp] def zdr.k3 (C : CSem) (N : Nat → Nat) (Q : AVal → za → Prop) (v2 v5 : AVal) (h : za) : Prop :=
 B.call C (N 65) [v5, (.int .i64 2)] h fun v11 h =>
  B.pv (A.bld [(0, none, v11)] [.int .i64 0, .int .i64 0, .int .i64 0, .str [], .int .u8 0, .nils, .nils]) fun v12 =>
  B.pv (V.setN 0 7 v12 (.agg [.int .i64 0, .int .i64 0, .int .i64 0, .str [], .int .u8 0, .nils, .nils])) fun c6 =>
  zdr.k2 C N Q v2 v5 c6 h
@[simp] def zdr.k4 (C : CSem) (N : Nat → Nat) (Q : AVal → za → Prop) (v0 : AVal) (h : za) : Prop :=
 B.newO h (some [.int .i64 0, .int .i64 0, .int .i64 0, .str [], .int .u8 0, .nils, .nils]) fun i2 h =>
  B.pv (A.bld [(0, none, v0)] [.nils, .int .i64 0, .bool false]) fun v8 =>
  B.newO h (A.zk9 3 v8) fun i9 h =>
  zdr.k3 C N Q (.ptr i2 0 0) (.ptr i9 0 0) h
@[simp] def zdr.cps (C : CSem) (N : Nat → Nat) (v0 : AVal) (h : za) (Q : AVal → za → Prop) : Prop :=
 zdr.k4 C N Q v0 h
def zdr.Imp (C : CSem) (N : Nat → Nat) : Prop := ∀ (v0 : AVal) (h : za) (Q : AVal → za → Prop), zdr.cps C N v0 h (dn Q) → C (N 38) [v0] h Q
@[simp] def zey.k1 (C : CSem) (N : Nat → Nat) (Q : AVal → za → Prop) (Y1 : List AVal → za → Prop) (v0 v1 v7 : AVal) (h : za) : Prop :=
 B.pv (V.bin .geq v7 (.int .i64 0)) fun v11 =>
  B.cond v11
  (B.pv (V.bin .mul (.int .i64 8) v7) fun v17 =>
  B.pv (V.bin .shr v1 v17) fun v18 =>
  B.pv (V.toInt .u8 v18) fun v19 =>
  B.newO h (zc7 [(0, none, v19)] (repL 1 [.int .u8 0])) fun i20 h =>
  B.appW h 1 1 v0 (.sl i20 0 0 1 1 1) fun v21 h =>
  B.pv (V.bin .sub v7 (.int .i64 1)) fun v13 =>
  Y1 [v21, v13] h)
  (Q v0 h)
@[simp] def zey.l2 (C : CSem) (N : Nat → Nat) (Q : AVal → za → Prop) (v1 : AVal) : List AVal → za → (List AVal → za → Prop) → Prop
 | [v0, v7], h, Y1 => zey.k1 C N Q Y1 v0 v1 v7 h
 | _, _, _ => False
@[simp] def zey.cps (C : CSem) (N : Nat → Nat) (v0 v1 v2 : AVal) (h : za) (Q : AVal → za → Prop) : Prop :=
 B.pv (V.bin .sub v2 (.int .i64 1)) fun v9 =>
  zg (zey.l2 C N Q v1) [v0, v9] h
def zey.Imp (C : CSem) (N : Nat → Nat) : Prop := ∀ (v0 v1 v2 : AVal) (h : za) (Q : AVal → za → Prop), zey.cps C N v0 v1 v2 h (dn Q) → C (N 50) [v0, v1, v2] h Q
@[simp] def zm.k1 (C : CSem) (N : Nat → Nat) (Q : AVal → za → Prop) (v0 v1 v5 : AVal) (h : za) : Prop :=
 B.nilCheck v0 fun v60 =>
  B.pv (V.fieldAddr 1 v60) fun v61 =>
  B.ld h v61 fun v62 =>
  B.pv (V.bin .add v62 v1) fun v64 =>
  B.nilCheck v0 fun v65 =>
  B.pv (V.fieldAddr 1 v65) fun v66 =>
  B.st h v66 v64 fun h =>
  Q v5 h
@[simp] def zm.k2 (C : CSem) (N : Nat → Nat) (Q : AVal → za → Prop) (Y1 : List AVal → za → Prop) (v0 v1 v5 v47 v48 v49 : AVal) (h : za) : Prop :=
 B.pv (V.bin .lss v49 v48) fun v50 =>
  B.cond v50
  (B.pv (V.idxS 1 v47 v49) fun v51 =>
  B.ld h v51 fun v52 =>
  B.pv (V.bin .shl v5 (.int .u64 8)) fun v54 =>
  B.pv (V.toInt .i64 v52) fun v56 =>
  B.pv (V.bin .or v54 v56) fun v57 =>
  B.pv (V.bin .add v49 (.int .i64 1)) fun v58 =>
  Y1 [v57, v58] h)
  (zm.k1 C N Q v0 v1 v5 h)
@[simp] def zm.l3 (C : CSem) (N : Nat → Nat) (Q : AVal → za → Prop) (v0 v1 v47 v48 : AVal) : List AVal → za → (List AVal → za → Prop) → Prop
 | [v5, v49], h, Y1 => zm.k2 C N Q Y1 v0 v1 v5 v47 v48 v49 h
 | _, _, _ => False
@[simp] def zm.k4 (C : CSem) (N : Nat → Nat) (Q : AVal → za → Prop) (v0 v1 v5 : AVal) (h : za) : Prop :=
 B.nilCheck v0 fun v34 =>
  B.pv (V.fieldAddr 0 v34) fun v35 =>
  B.ld h v35 fun v36 =>
  B.nilCheck v0 fun v38 =>
  B.pv (V.fieldAddr 1 v38) fun v39 =>
  B.ld h v39 fun v40 =>
  B.nilCheck v0 fun v42 =>
  B.pv (V.fieldAddr 1 v42) fun v43 =>
  B.ld h v43 fun v44 =>
  B.pv (V.bin .add v44 v1) fun v46 =>
  B.pv (V.zfs 1 v36 (some v40) (some v46)) fun v47 =>
  B.pv (V.zi v47) fun v48 =>
  zg (zm.l3 C N Q v0 v1 v47 v48) [v5, (.int .i64 0)] h
@[simp] def zm.k5 (C : CSem) (N : Nat → Nat) (Q : AVal → za → Prop) (v0 v1 : AVal) (h : za) : Prop :=
 B.nilCheck v0 fun v10 =>
  B.pv (V.fieldAddr 2 v10) fun v11 =>
  B.ld h v11 fun v12 =>
  B.gd h v12 false (fun K => K v1 h) fun v14 h =>
  B.gd h v12 false (fun K => K v0 h) fun v15 h =>
  B.gd h v12 false (fun K => B.nilCheck v15 fun v => K v h) fun v16 h =>
  B.gd h v12 false (fun K => B.pv (V.fieldAddr 0 v16) fun v => K v h) fun v17 h =>
  B.gd h v12 false (fun K => B.ld h v17 fun v => K v h) fun v18 h =>
  B.gd h v12 false (fun K => B.pv (V.zi v18) fun v => K v h) fun v19 h =>
  B.gd h v12 false (fun K => K v0 h) fun v20 h =>
  B.gd h v12 false (fun K => B.nilCheck v20 fun v => K v h) fun v21 h =>
  B.gd h v12 false (fun K => B.pv (V.fieldAddr 1 v21) fun v => K v h) fun v22 h =>
  B.gd h v12 false (fun K => B.ld h v22 fun v => K v h) fun v23 h =>
  B.gd h v12 false (fun K => B.pv (V.bin .sub v19 v23) fun v => K v h) fun v24 h =>
  B.gd h v12 false (fun K => B.pv (V.bin .gtr v14 v24) fun v => K v h) fun v25 h =>
  B.pick v12 (.bool true) v25 fun v26 =>
  B.nilCheck v0 fun v27 =>
  B.pv (V.fieldAddr 2 v27) fun v28 =>
  B.st h v28 v26 fun h =>
  B.nilCheck v0 fun v30 =>
  B.pv (V.fieldAddr 2 v30) fun v31 =>
  B.ld h v31 fun v32 =>
  B.cond v32
  (Q (.int .i64 0) h)
  (zm.k4 C N Q v0 v1 (.int .i64 0) h)
@[simp] def zm.cps (C : CSem) (N : Nat → Nat) (v0 v1 : AVal) (h : za) (Q : AVal → za → Prop) : Prop :=
 zm.k5 C N Q v0 v1 h
def zm.Imp (C : CSem) (N : Nat → Nat) : Prop := ∀ (v0 v1 : AVal) (h : za) (Q : AVal → za → Prop), zm.cps C N v0 v1 h (dn Q) → C (N 65) [v0, v1] h Q
@[simp] def zbs.k1 (C : CSem) (N : Nat → Nat) (Q : AVal → za → Prop) (v0 : AVal) (h : za) : Prop :=
 B.nilCheck v0 fun v7 =>
  B.pv (V.fieldAddr 2 v7) fun v8 =>
  B.ld h v8 fun v9 =>
  B.cond v9
  (Q (.str []) h)
  (B.nilCheck v0 fun v12 =>
  B.pv (V.fieldAddr 0 v12) fun v13 =>
  B.ld h v13 fun v14 =>
  B.nilCheck v0 fun v16 =>
  B.pv (V.fieldAddr 1 v16) fun v17 =>
  B.ld h v17 fun v18 =>
  B.pv (V.zfs 1 v14 (some v18) none) fun v19 =>
  B.call C (N 103) [v19] h fun v20 h =>
  B.pv (V.ext 0 v20) fun v21 =>
  B.pv (V.ext 1 v20) fun v22 =>
  B.pv (V.ext 2 v20) fun v23 =>
  B.pv (V.un .not v23) fun v26 =>
  B.nilCheck v0 fun v27 =>
  B.pv (V.fieldAddr 2 v27) fun v28 =>
  B.st h v28 v26 fun h =>
  B.nilCheck v0 fun v30 =>
  B.pv (V.fieldAddr 1 v30) fun v31 =>
  B.ld h v31 fun v32 =>
  B.pv (V.bin .add v32 v22) fun v34 =>
  B.nilCheck v0 fun v35 =>
  B.pv (V.fieldAddr 1 v35) fun v36 =>
  B.st h v36 v34 fun h =>
  Q v21 h)
@[simp] def zbs.cps (C : CSem) (N : Nat → Nat) (v0 : AVal) (h : za) (Q : AVal → za → Prop) : Prop :=
 zbs.k1 C N Q v0 h
def zbs.Imp (C : CSem) (N : Nat → Nat) : Prop := ∀ (v0 : AVal) (h : za) (Q : AVal → za → Prop), zbs.cps C N v0 h (dn Q) → C (N 66) [v0] h Q
@[simp] def zb6.k1 (C : CSem) (N : Nat → Nat) (Q : AVal → za → Prop) (v0 : AVal) (h : za) : Prop :=
 B.call C (N 65) [v0, (.int .i64 8)] h fun v6 h =>
  B.call C (N 66) [v0] h fun v8 h =>
  B.pv (A.bld [(0, none, v6), (1, none, v8)] [.int .i64 0, .str [], .int .i64 0, .int .i64 0, .int .i64 0, .bool false]) fun v9 =>
  B.pv (V.setN 0 6 v9 (.agg [.int .i64 0, .str [], .int .i64 0, .int .i64 0, .int .i64 0, .bool false])) fun c3 =>
  B.call C (N 65) [v0, (.int .i64 2)] h fun v11 h =>
  B.call C (N 65) [v0, (.int .i64 2)] h fun v13 h =>
  B.al c3 (B.al c3 (B.pv (V.setF 2 v11 c3) fun c3 =>
  B.al c3 (B.al c3 (B.pv (V.setF 3 v13 c3) fun c3 =>
  B.call C (N 65) [v0, (.int .i64 8)] h fun v19 h =>
  B.al c3 (B.pv (V.setF 4 v19 c3) fun c3 =>
  B.call C (N 65) [v0, (.int .i64 1)] h fun v22 h =>
  B.pv (V.bin .eql v22 (.int .i64 1)) fun v24 =>
  B.al c3 (B.pv (V.setF 5 v24 c3) fun c3 =>
  B.nilCheck v0 fun v28 =>
  B.pv (V.fieldAddr 2 v28) fun v29 =>
  B.ld h v29 fun v30 =>
  B.gd h v30 false (fun K => K v22 h) fun v32 h =>
  B.gd h v30 false (fun K => B.pv (V.bin .gtr v32 (.int .i64 1)) fun v => K v h) fun v33 h =>
  B.pick v30 (.bool true) v33 fun v34 =>
  B.nilCheck v0 fun v35 =>
  B.pv (V.fieldAddr 2 v35) fun v36 =>
  B.st h v36 v34 fun h =>
  B.pv (V.zb4 0 6 c3) fun v37 =>
  B.pv (V.setN 0 6 v37 (.agg [.int .i64 0, .str [], .int .i64 0, .int .i64 0, .int .i64 0, .bool false])) fun c2 =>
  B.pv (oneOf (zfq (V.zb4 0 6 c2) (some []))) fun v => Q v h))))))
@[simp] def zb6.cps (C : CSem) (N : Nat → Nat) (v0 : AVal) (h : za) (Q : AVal → za → Prop) : Prop :=
 zb6.k1 C N Q v0 h
def zb6.Imp (C : CSem) (N : Nat → Nat) : Prop := ∀ (v0 : AVal) (h : za) (Q : AVal → za → Prop), zb6.cps C N v0 h (dn Q) → C (N 67) [v0] h Q
@[simp] def zbd.k1 (C : CSem) (N : Nat → Nat) (Q : AVal → za → Prop) (Y1 : List AVal → za → Prop) (v0 v1 v5 v6 : AVal) (h : za) : Prop :=
 B.pv (V.bin .gtr v6 (.int .i64 0)) fun v10 =>
  B.gd h v10 true (fun K => K v0 h) fun v12 h =>
  B.gd h v10 true (fun K => B.nilCheck v12 fun v => K v h) fun v13 h =>
  B.gd h v10 true (fun K => B.pv (V.fieldAddr 2 v13) fun v => K v h) fun v14 h =>
  B.gd h v10 true (fun K => B.ld h v14 fun v => K v h) fun v15 h =>
  B.gd h v10 true (fun K => B.pv (V.un .not v15) fun v => K v h) fun v16 h =>
  B.pick v10 v16 (.bool false) fun v17 =>
  B.cond v17
  (B.zj3 h C v1 [] fun v22 h =>
  B.newO h (zc7 [(0, some 6, v22)] (repL 1 [.int .i64 0, .str [], .int .i64 0, .int .i64 0, .int .i64 0, .bool false])) fun i23 h =>
  B.appW h 6 56 v5 (.sl i23 0 0 1 6 1) fun v24 h =>
  B.pv (V.bin .sub v6 (.int .i64 1)) fun v19 =>
  Y1 [v24, v19] h)
  (Q v5 h)
@[simp] def zbd.l2 (C : CSem) (N : Nat → Nat) (Q : AVal → za → Prop) (v0 v1 : AVal) : List AVal → za → (List AVal → za → Prop) → Prop
 | [v5, v6], h, Y1 => zbd.k1 C N Q Y1 v0 v1 v5 v6 h
 | _, _, _ => False
@[simp] def zbd.cps (C : CSem) (N : Nat → Nat) (v0 v1 : AVal) (h : za) (Q : AVal → za → Prop) : Prop :=
 B.call C (N 65) [v0, (.int .i64 2)] h fun v8 h =>
  zg (zbd.l2 C N Q v0 v1) [.nils, v8] h
def zbd.Imp (C : CSem) (N : Nat → Nat) : Prop := ∀ (v0 v1 : AVal) (h : za) (Q : AVal → za → Prop), zbd.cps C N v0 v1 h (dn Q) → C (N 68) [v0, v1] h Q
@[simp] def zb5.k1 (C : CSem) (N : Nat → Nat) (Q : AVal → za → Prop) (v0 : AVal) (h : za) : Prop :=
 B.call C (N 65) [v0, (.int .i64 8)] h fun v4 h =>
  B.call C (N 65) [v0, (.int .i64 8)] h fun v6 h =>
  B.call C (N 65) [v0, (.int .i64 8)] h fun v8 h =>
  B.pv (A.bld [(0, none, v4), (1, none, v6), (2, none, v8)] [.int .i64 0, .int .i64 0, .int .i64 0]) fun v9 =>
  B.pv (V.setN 0 3 v9 (.agg [.int .i64 0, .int .i64 0, .int .i64 0])) fun c2 =>
  B.pv (oneOf (zfq (V.zb4 0 3 c2) (some []))) fun v => Q v h
@[simp] def zb5.cps (C : CSem) (N : Nat → Nat) (v0 : AVal) (h : za) (Q : AVal → za → Prop) : Prop :=
 zb5.k1 C N Q v0 h
def zb5.Imp (C : CSem) (N : Nat → Nat) : Prop := ∀ (v0 : AVal) (h : za) (Q : AVal → za → Prop), zb5.cps C N v0 h (dn Q) → C (N 69) [v0] h Q
@[simp] def zbc.k1 (C : CSem) (N : Nat → Nat) (Q : AVal → za → Prop) (Y1 : List AVal → za → Prop) (v0 v1 v5 v6 : AVal) (h : za) : Prop :=
 B.pv (V.bin .gtr v6 (.int .i64 0)) fun v10 =>
  B.gd h v10 true (fun K => K v0 h) fun v12 h =>
  B.gd h v10 true (fun K => B.nilCheck v12 fun v => K v h) fun v13 h =>
  B.gd h v10 true (fun K => B.pv (V.fieldAddr 2 v13) fun v => K v h) fun v14 h =>
  B.gd h v10 true (fun K => B.ld h v14 fun v => K v h) fun v15 h =>
  B.gd h v10 true (fun K => B.pv (V.un .not v15) fun v => K v h) fun v16 h =>
  B.pick v10 v16 (.bool false) fun v17 =>
  B.cond v17
  (B.zj3 h C v1 [] fun v22 h =>
  B.newO h (zc7 [(0, some 3, v22)] (repL 1 [.int .i64 0, .int .i64 0, .int .i64 0])) fun i23 h =>
  B.appW h 3 24 v5 (.sl i23 0 0 1 3 1) fun v24 h =>
  B.pv (V.bin .sub v6 (.int .i64 1)) fun v19 =>
  Y1 [v24, v19] h)
  (Q v5 h)
@[simp] def zbc.l2 (C : CSem) (N : Nat → Nat) (Q : AVal → za → Prop) (v0 v1 : AVal) : List AVal → za → (List AVal → za → Prop) → Prop
 | [v5, v6], h, Y1 => zbc.k1 C N Q Y1 v0 v1 v5 v6 h
 | _, _, _ => False
@[simp] def zbc.cps (C : CSem) (N : Nat → Nat) (v0 v1 : AVal) (h : za) (Q : AVal → za → Prop) : Prop :=
 B.call C (N 65) [v0, (.int .i64 2)] h fun v8 h =>
  zg (zbc.l2 C N Q v0 v1) [.nils, v8] h
def zbc.Imp (C : CSem) (N : Nat → Nat) : Prop := ∀ (v0 v1 : AVal) (h : za) (Q : AVal → za → Prop), zbc.cps C N v0 v1 h (dn Q) → C (N 70) [v0, v1] h Q
@[simp] def zdf.k1 (C : CSem) (N : Nat → Nat) (Q : AVal → za → Prop) (v0 : AVal) (h : za) : Prop :=
 B.pv (A.boxN 2 v0) fun c1 =>
  B.al c1 (B.pv (V.zd 0 c1) fun v4 =>
  B.pv (V.bin .leq (.int .i64 0) v4) fun v5 =>
  B.al c1 (B.gd h v5 true (fun K => K .undef h) fun _ h =>
  B.gd h v5 true (fun K => B.pv (V.zd 0 c1) fun v => K v h) fun v8 h =>
  B.al c1 (B.gd h v5 true (fun K => K .undef h) fun _ h =>
  B.gd h v5 true (fun K => B.pv (V.zd 1 c1) fun v => K v h) fun v10 h =>
  B.gd h v5 true (fun K => B.pv (V.bin .leq v8 v10) fun v => K v h) fun v11 h =>
  B.pick v5 v11 (.bool false) fun v12 =>
  B.al c1 (B.gd h v12 true (fun K => K .undef h) fun _ h =>
  B.gd h v12 true (fun K => B.pv (V.zd 1 c1) fun v => K v h) fun v15 h =>
  B.gd h v12 true (fun K => B.pv (V.bin .leq v15 (.int .i64 4001)) fun v => K v h) fun v16 h =>
  B.pick v12 v16 (.bool false) fun v17 =>
  Q v17 h))))
@[simp] def zdf.cps (C : CSem) (N : Nat → Nat) (v0 : AVal) (h : za) (Q : AVal → za → Prop) : Prop :=
 zdf.k1 C N Q v0 h
def zdf.Imp (C : CSem) (N : Nat → Nat) : Prop := ∀ (v0 : AVal) (h : za) (Q : AVal → za → Prop), zdf.cps C N v0 h (dn Q) → C (N 5) [v0] h Q
end Go.Ab
set_option maxRecDepth 100000
namespace Go.Ab.S16z
open Go.Ab Go.Proofs
noncomputable abbrev P : Program := Tryz.prog
def lkz : List (Nat × List Nat) → Nat → List Nat
 | [], _ => []
 | (a, b) :: r, k => bif Nat.beq a k then b else lkz r k
def pz (e : List (Nat × List Nat)) : Nat → List (Nat × List Nat)
 | 0 => []
 | n + 1 => pz e n ++ [(n, lkz e n)]
@[reducible] def LkT (P : Program) (I : Bx) (f : Func) (F : CSem → (AVal → za → Prop) → z6 → za → Prop) : Prop := ∀ {C : CSem} (hC : zjk C) (Q : AVal → za → Prop) (s : z6) (h : za), F C Q s h → bwp P C I (f.body.getD .skip) (retB P I f.results.toList Q) s h
theorem eT {P : Program} {C : CSem} {I : Bx} (hC : zjk C) {c : Code} {Q : Ex → z6 → za → Prop} {s : z6} {h : za} (X : z6 → za → Prop) {p : Prop} (hR : p) (hb : ∀ s h, X s h → bwp P C I (cB c) Q s h) (e : bwp P C I (cA c) (Ex.then X Q) s h = p := by kernel_rfl) (hk : isS c = true := by kernel_rfl) : bwp P C I c Q s h := eS hC X (e1 hR e) hb hk
@[reducible] def on1 (F : AVal → List AVal → za → (List AVal → za → Prop) → Prop) : List AVal → List AVal → za → (List AVal → za → Prop) → Prop
 | [a], u, v, w => F a u v w
 | _, _, _, _ => False
@[reducible] def on2 (F : AVal → AVal → List AVal → za → (List AVal → za → Prop) → Prop) : List AVal → List AVal → za → (List AVal → za → Prop) → Prop
 | [a, b], u, v, w => F a b u v w
 | _, _, _, _ => False
@[reducible] def on3 (F : AVal → AVal → AVal → List AVal → za → (List AVal → za → Prop) → Prop) : List AVal → List AVal → za → (List AVal → za → Prop) → Prop
 | [a, b, c], u, v, w => F a b c u v w
 | _, _, _, _ => False
@[reducible] def on4 (F : AVal → AVal → AVal → AVal → List AVal → za → (List AVal → za → Prop) → Prop) : List AVal → List AVal → za → (List AVal → za → Prop) → Prop
 | [a, b, c, d], u, v, w => F a b c d u v w
 | _, _, _, _ => False
@[reducible] def on5 (F : AVal → AVal → AVal → AVal → AVal → List AVal → za → (List AVal → za → Prop) → Prop) : List AVal → List AVal → za → (List AVal → za → Prop) → Prop
 | [a, b, c, d, e], u, v, w => F a b c d e u v w
 | _, _, _, _ => False
@[reducible] def on6 (F : AVal → AVal → AVal → AVal → AVal → AVal → List AVal → za → (List AVal → za → Prop) → Prop) : List AVal → List AVal → za → (List AVal → za → Prop) → Prop
 | [a, b, c, d, e, f], u, v, w => F a b c d e f u v w
 | _, _, _, _ => False
@[reducible] def on9 (F : AVal → AVal → AVal → AVal → AVal → AVal → AVal → AVal → AVal → List AVal → za → (List AVal → za → Prop) → Prop) : List AVal → List AVal → za → (List AVal → za → Prop) → Prop
 | [a, b, c, d, e, f, g, i, j], u, v, w => F a b c d e f g i j u v w
 | _, _, _, _ => False
def N (k : Nat) : Nat := [0, 0, 0, 0, 0, 169, 0, 0, 0, 0, 0, 0, 0, 0, 0, 0, 0, 0, 180, 0, 167, 0, 0, 0, 0, 0, 0, 24, 83, 149, 28, 29, 90, 158, 33, 36, 0, 139, 87, 143, 144, 91, 32, 35, 0, 41, 0, 0, 44, 82, 150, 50, 103, 106, 52, 88, 55, 89, 159, 114, 112, 177, 64, 95, 140, 152, 153, 155, 154, 157, 156, 145, 160, 146, 79, 92, 94, 100, 148, 107, 116, 117, 118, 119, 120, 121, 122, 123, 124, 125, 126, 127, 128, 129, 130, 131, 132, 133, 134, 135, 136, 137, 138, 198, 199, 161, 179, 181, 182, 99, 109, 101, 183, 184, 185, 186, 22, 66, 62, 187, 188, 189, 190, 191, 192, 193, 194, 195, 196, 197, 201, 203, 173, 174, 78, 80, 210, 211, 212, 0, 0, 0, 0, 0, 0, 0, 0, 0, 0, 0, 0, 0, 0, 0, 0, 0, 0, 0, 0, 0, 0, 0, 0, 0, 0, 0, 0, 0, 0, 0, 0, 0, 0, 0, 0, 0, 0, 0, 0, 104, 113, 0, 0, 0, 0, 0, 45, 0, 0, 53, 56, 0, 0, 0, 0, 0, 0, 0, 0, 0, 0, 0, 0, 0, 0, 0, 0, 202, 0, 0, 0, 0, 0, 0, 0, 0, 0, 0, 0, 0, 0, 0, 0, 0, 0, 0, 0, 0, 0, 163, 0, 0, 0, 0, 0, 0, 0, 0, 0, 0, 0, 0, 0, 0, 0, 0, 0, 0, 0, 0, 0, 0, 0, 0, 17, 0, 0, 0, 19, 0, 0, 0, 0, 14, 0, 0, 0, 0, 0, 0, 0, 65, 0, 73, 67, 0, 0, 0, 0, 0, 75, 0, 0, 0, 0, 0, 0, 0, 0, 0, 0, 0, 0, 0, 0, 0, 0, 0, 0, 0, 0, 0, 0, 141, 0, 0, 40, 15, 0, 0, 0, 97, 63, 0, 0, 115, 0, 0, 0, 165, 0, 0, 0, 0, 171, 0, 0, 0, 0, 0, 0, 0, 0, 0, 0, 0, 0, 0, 0, 0, 0, 0, 0, 0, 0, 0, 0, 0, 0, 0, 0, 0, 0, 0, 162, 0, 0, 0, 0, 0, 0, 204, 0, 0, 0, 0, 0, 0, 214, 215, 0, 0, 0, 0, 0, 0, 0, 0, 0, 0, 0, 0, 0, 0, 0, 0, 0, 0, 0, 0, 0, 43, 51, 54, 0, 0, 0, 0, 0, 98, 108, 110, 0, 0, 0, 218, 166, 172, 175, 176, 0, 0, 10, 18, 26, 25, 7, 16, 8, 0, 96, 0, 39, 49, 48, 47, 46, 27, 85, 84, 72, 74, 68, 69, 70, 71, 86, 164, 102, 105, 142, 168, 205, 151, 170, 216, 9, 11, 12, 13, 3, 20, 21, 23, 4, 30, 31, 34, 5, 42, 38, 37, 6, 61, 60, 59, 58, 57, 76, 77, 81, 93, 111, 147, 178, 200, 206, 207, 208, 209, 213, 217].getD k 0
theorem mixed : P.follows .mixedOrders = true := by kernel_rfl
def zcg.I : Bx := ⟨[1, 3], [], 41, [(4, [(0, []), (2, []), (1, [2]), (3, []), (4, []), (5, [])])]⟩
theorem zcg.L : LkT P zcg.I Tryz.f3 fun C Q s h => zcg.cps C N (s 0) h Q := fun {C} hC Q s h hR => e1 hR
theorem zcg.imp : zcg.Imp (AC P) N := fun v0 h Q hR => eF mixed (fn := Tryz.f3) (fun hC => zcg.L hC (dn Q) (zw [v0]) h hR)
def zb8.I : Bx := ⟨[1], [5, 8, 13, 25, 33], 43, [(5, pz [] 19)]⟩
theorem zb8.L : LkT P zb8.I Tryz.f7 fun C Q s h => zb8.cps C N (s 0) h Q := fun {C} hC Q s h hR => eT hC (fun s h => zb8.k3 C N Q (s 44) h) hR (fun s h hR => eT hC (fun s h => zg (zb8.l2 C N Q (s 44)) [(s 3), (.int .i64 0)] h) hR (fun s h hR => eS hC (fun s h => B.pv (V.bin .gtr (s 3) (.int .i64 2000)) fun v42 => Q v42 h) (eT hC (fun s h => zg (zb8.l2 C N Q (s 44)) [(s 3), (s 4)] h) hR (fun s h hR => eK (eL hC [44] [3, 4] (on1 (zb8.l2 C N Q)) hR (fun Y1 s h hR => e1 hR)))) (fun s h hR => e1 hR)))
theorem zb8.imp : zb8.Imp (AC P) N := fun v0 h Q hR => eF mixed (fn := Tryz.f7) (fun hC => zb8.L hC (dn Q) (zw [v0]) h hR)
def zdm.I : Bx := ⟨[2, 6], [80], 90, [(7, pz [(28, [27])] 63)]⟩
theorem zdm.L : LkT P zdm.I Tryz.f8 fun C Q s h => zdm.cps C N h Q := fun {C} hC Q s h hR => e1 hR
theorem zdm.imp : zdm.Imp (AC P) N := fun h Q hR => eF mixed (fn := Tryz.f8) (fun hC => zdm.L hC (dn Q) (zw []) h hR)
def zcz.I : Bx := ⟨[1, 2], [3, 6, 7, 10, 11, 14], 16, []⟩
theorem zcz.L : LkT P zcz.I Tryz.f9 fun C Q s h => zcz.cps C N (s 0) h Q := fun {C} hC Q s h hR => e1 hR
theorem zcz.imp : zcz.Imp (AC P) N := fun v0 h Q hR => eF mixed (fn := Tryz.f9) (fun hC => zcz.L hC (dn Q) (zw [v0]) h hR)
def zq.I : Bx := ⟨[1, 6, 9, 13, 16], [24, 32, 40, 45, 52, 55, 61, 69, 72, 79, 86, 100, 107, 115, 122, 127, 130, 131, 134, 135, 138, 145, 155, 160, 163, 166, 169, 172, 175, 179], 186, [(11, [(0, []), (1, []), (3, []), (4, []), (5, []), (6, []), (2, [4]), (7, []), (8, []), (9, [])]), (15, [(0, []), (1, []), (2, []), (4, []), (5, []), (3, [5]), (6, []), (7, []), (8, []), (9, [])]), (31, [(0, []), (3, []), (4, []), (8, []), (9, []), (11, []), (12, []), (13, []), (15, []), (16, []), (17, []), (19, []), (20, []), (22, []), (5, [9, 13, 17, 20]), (1, []), (2, []), (6, []), (7, [9, 13, 17, 20]), (10, [13, 17, 20]), (14, [17, 20]), (18, [20]), (21, []), (23, []), (24, [])]), (36, [(0, []), (3, []), (4, []), (8, []), (9, []), (11, []), (12, []), (14, []), (15, []), (17, []), (18, []), (19, []), (20, []), (21, []), (23, []), (24, []), (25, []), (27, []), (28, []), (5, [9, 12, 15, 18, 21, 24, 28]), (1, []), (2, []), (6, []), (7, [9, 12, 15, 18, 21, 24, 28]), (10, [12, 15, 18, 21, 24, 28]), (13, [15, 18, 21, 24, 28]), (16, [18, 21, 24, 28]), (26, [18, 21, 28]), (29, [18, 21]), (22, []), (30, []), (31, [])])]⟩
theorem zq.L : LkT P zq.I Tryz.f10 fun C Q s h => zq.cps C N (s 0) h Q := fun {C} hC Q s h hR => eT hC (fun s h => zq.k23 C N Q (s 187) h) hR (fun s h hR => eT hC (fun s h => B.newO h (some [.nils]) fun i3 h => zq.k22 C N Q (.ptr i3 0 0) (.fn (N 425) [] [(.ptr i3 0 0)]) (s 187) h) hR (fun s h hR => eT hC (fun s h => zq.k22 C N Q (s 3) (.fn (N 425) [] [(s 3)]) (s 187) h) hR (fun s h hR => eT hC (fun s h => zq.k22 C N Q (s 3) (s 4) (s 187) h) hR (fun s h hR => eT hC (fun s h => zq.k21 C N Q (s 3) (s 4) (s 187) h) hR (fun s h hR => eT hC (fun s h => zq.k20 C N Q (s 3) (s 4) (s 187) h) hR (fun s h hR => eT hC (fun s h => B.al (s 187) (B.pv (V.zd 3 (s 187)) fun v46 => B.pv (V.zi v46) fun v47 => zg (zq.l19 C N Q (s 3) (s 4) v46 v47 (s 187)) [(.int .i64 0)] h)) hR (fun s h hR => eS hC (fun s h => B.al (s 187) (B.pv (V.zd 4 (s 187)) fun v108 => B.pv (V.zi v108) fun v109 => zg (zq.l7 C N Q (s 3) (s 4) v108 v109 (s 187)) [(.int .i64 0)] h)) (eT hC (fun s h => zg (zq.l19 C N Q (s 3) (s 4) (s 46) (s 47) (s 187)) [(s 48)] h) hR (fun s h hR => eK (eL hC [3, 4, 46, 47, 187] [48] (on5 (zq.l19 C N Q)) hR (fun Y3 s h hR => eT hC (fun s h => zq.k18 C N Q Y3 (s 3) (s 4) (s 46) (s 47) (s 48) (s 49) (s 187) h) hR (fun s h hR => eT hC (fun s h => zq.k17 C N Q Y3 (s 3) (s 4) (s 46) (s 47) (s 48) (s 187) h) hR (fun s h hR => eS hC (fun s h => B.pv (V.bin .add (s 48) (.int .i64 1)) fun v106 => Y3 [v106] h) (eK (eT hC (fun s h => zq.k16 C N Q Y3 (s 3) (s 4) (s 46) (s 47) (s 48) (s 187) (s 192) h) hR (fun s h hR => eT hC (fun s h => zq.k15 C N Q Y3 (s 3) (s 4) (s 7) (s 46) (s 47) (s 48) (s 187) (s 192) h) hR (fun s h hR => eS hC (fun s h => zq.k12 C N Q Y3 (s 3) (s 4) (s 7) (s 46) (s 47) (s 48) (s 187) (s 192) h) (eT hC (fun s h => zg (zq.l14 C N Q Y3 (s 3) (s 4) (s 46) (s 47) (s 48) (s 62) (s 63) (s 187) (s 192)) [(s 7), (s 64)] h) hR (fun s h hR => eK (eL hC [3, 4, 46, 47, 48, 62, 63, 187, 192] [7, 64] (on9 (zq.l14 C N Q Y3)) hR (fun Y5 s h hR => e1 hR)))) (fun s h hR => eT hC (fun s h => zq.k11 C N Q Y3 (s 3) (s 4) (s 7) (s 46) (s 47) (s 48) (s 187) (s 192) h) hR (fun s h hR => eS hC (fun s h => zq.k8 C N Q Y3 (s 3) (s 4) (s 7) (s 46) (s 47) (s 48) (s 187) (s 192) h) (eT hC (fun s h => zg (zq.l10 C N Q Y3 (s 3) (s 4) (s 46) (s 47) (s 48) (s 87) (s 88) (s 187) (s 192)) [(s 7), (s 89)] h) hR (fun s h hR => eK (eL hC [3, 4, 46, 47, 48, 87, 88, 187, 192] [7, 89] (on9 (zq.l10 C N Q Y3)) hR (fun Y4 s h hR => e1 hR)))) (fun s h hR => e1 hR))))))) (fun s h hR => e1 hR))))))) (fun s h hR => eS hC (fun s h => B.al (s 187) (B.pv (V.zd 5 (s 187)) fun v146 => B.pv (V.zi v146) fun v147 => zg (zq.l2 C N Q (s 3) (s 4) v146 v147) [(.int .i64 0)] h)) (eT hC (fun s h => zg (zq.l7 C N Q (s 3) (s 4) (s 108) (s 109) (s 187)) [(s 110)] h) hR (fun s h hR => eK (eL hC [3, 4, 108, 109, 187] [110] (on5 (zq.l7 C N Q)) hR (fun Y2 s h hR => eT hC (fun s h => zq.k6 C N Q Y2 (s 3) (s 4) (s 108) (s 109) (s 110) (s 111) (s 187) h) hR (fun s h hR => eT hC (fun s h => zq.k5 C N Q Y2 (s 3) (s 4) (s 108) (s 109) (s 110) (s 187) h) hR (fun s h hR => eS hC (fun s h => B.pv (V.bin .add (s 110) (.int .i64 1)) fun v144 => Y2 [v144] h) (eK (eT hC (fun s h => B.newO h (zc7 [(0, none, (.int .u8 0))] (repL 1 [.int .u8 0])) fun i114 h => zq.k4 C N Q Y2 (s 3) (s 4) (.sl i114 0 0 1 1 1) (s 108) (s 109) (s 110) (s 187) (s 199) h) hR (fun s h hR => eT hC (fun s h => zq.k4 C N Q Y2 (s 3) (s 4) (s 14) (s 108) (s 109) (s 110) (s 187) (s 199) h) hR (fun s h hR => eT hC (fun s h => zq.k3 C N Q Y2 (s 3) (s 4) (s 14) (s 108) (s 109) (s 110) (s 187) (s 199) h) hR (fun s h hR => e1 hR))))) (fun s h hR => e1 hR))))))) (fun s h hR => eS hC (fun s h => B.ld h (s 3) fun v185 => Q v185 h) (eT hC (fun s h => zg (zq.l2 C N Q (s 3) (s 4) (s 146) (s 147)) [(s 148)] h) hR (fun s h hR => eK (eL hC [3, 4, 146, 147] [148] (on4 (zq.l2 C N Q)) hR (fun Y1 s h hR => e1 hR)))) (fun s h hR => e1 hR))))))))))
theorem zq.imp : zq.Imp (AC P) N := fun v0 h Q hR => eF mixed (fn := Tryz.f10) (fun hC => zq.L hC (dn Q) (zw [v0]) h hR)
def zc0.I : Bx := ⟨[2, 3], [9, 11, 16, 18, 23, 25], 29, []⟩
theorem zc0.L : LkT P zc0.I Tryz.f11 fun C Q s h => zc0.cps C N (s 0) (s 1) h Q := fun {C} hC Q s h hR => e1 hR
theorem zc0.imp : zc0.Imp (AC P) N := fun v0 v1 h Q hR => eF mixed (fn := Tryz.f11) (fun hC => zc0.L hC (dn Q) (zw [v0, v1]) h hR)
def zcw.I : Bx := ⟨[1], [2, 5, 8], 11, []⟩
theorem zcw.L : LkT P zcw.I Tryz.f12 fun C Q s h => zcw.cps C N (s 0) h Q := fun {C} hC Q s h hR => e1 hR
theorem zcw.imp : zcw.Imp (AC P) N := fun v0 h Q hR => eF mixed (fn := Tryz.f12) (fun hC => zcw.L hC (dn Q) (zw [v0]) h hR)
def zbm.I : Bx := ⟨[1], [12, 18, 24, 30, 37, 46, 53, 62, 69], 78, [(3, [(2, []), (3, []), (8, []), (9, []), (14, []), (15, []), (4, [9, 15]), (10, [15]), (16, []), (0, []), (1, []), (5, []), (6, []), (7, []), (11, []), (12, []), (13, []), (17, []), (18, []), (19, [])])]⟩
theorem zbm.L : LkT P zbm.I Tryz.f13 fun C Q s h => zbm.cps C N (s 0) h Q := fun {C} hC Q s h hR => eT hC (fun s h => zbm.k8 C N Q (s 79) h) hR (fun s h hR => eT hC (fun s h => zbm.k7 C N Q (s 79) h) hR (fun s h hR => eT hC (fun s h => zg (zbm.l6 C N Q (s 79)) [(s 3), (.int .i64 0)] h) hR (fun s h hR => eS hC (fun s h => zg (zbm.l4 C N Q (s 79)) [(s 3), (.int .i64 0)] h) (eT hC (fun s h => zg (zbm.l6 C N Q (s 79)) [(s 3), (s 4)] h) hR (fun s h hR => eK (eL hC [79] [3, 4] (on1 (zbm.l6 C N Q)) hR (fun Y3 s h hR => e1 hR)))) (fun s h hR => eS hC (fun s h => zg (zbm.l2 C N Q (s 79)) [(s 3), (.int .i64 0)] h) (eT hC (fun s h => zg (zbm.l4 C N Q (s 79)) [(s 3), (s 5)] h) hR (fun s h hR => eK (eL hC [79] [3, 5] (on1 (zbm.l4 C N Q)) hR (fun Y2 s h hR => e1 hR)))) (fun s h hR => eS hC (fun s h => Q (s 3) h) (eT hC (fun s h => zg (zbm.l2 C N Q (s 79)) [(s 3), (s 6)] h) hR (fun s h hR => eK (eL hC [79] [3, 6] (on1 (zbm.l2 C N Q)) hR (fun Y1 s h hR => e1 hR)))) (fun s h hR => e1 hR))))))
theorem zbm.imp : zbm.Imp (AC P) N := fun v0 h Q hR => eF mixed (fn := Tryz.f13) (fun hC => zbm.L hC (dn Q) (zw [v0]) h hR)
def zb2.I : Bx := ⟨[], [], 27, [(6, pz [] 10)]⟩
theorem zb2.L : LkT P zb2.I Tryz.f14 fun C Q s h => zb2.cps C N (s 0) (s 1) h Q := fun {C} hC Q s h hR => eT hC (fun s h => zb2.k3 C N Q (s 0) (s 1) h) hR (fun s h hR => eT hC (fun s h => zg (zb2.l2 C N Q (s 0) (s 1)) [(.int .i64 0)] h) hR (fun s h hR => eS hC (fun s h => Q (.bool true) h) (eT hC (fun s h => zg (zb2.l2 C N Q (s 0) (s 1)) [(s 5)] h) hR (fun s h hR => eK (eL hC [0, 1] [5] (on2 (zb2.l2 C N Q)) hR (fun Y1 s h hR => e1 hR)))) (fun s h hR => e1 hR)))
theorem zb2.imp : zb2.Imp (AC P) N := fun v0 v1 h Q hR => eF mixed (fn := Tryz.f14) (fun hC => zb2.L hC (dn Q) (zw [v0, v1]) h hR)
def zcc.I : Bx := ⟨[], [], 21, []⟩
theorem zcc.L : LkT P zcc.I Tryz.f15 fun C Q s h => zcc.cps C N (s 0) h Q := fun {C} hC Q s h hR => eT hC (fun s h => zcc.k3 C N Q (s 0) h) hR (fun s h hR => eT hC (fun s h => zg (zcc.l2 C N Q (s 0) (s 3)) [(.int .i64 0)] h) hR (fun s h hR => eS hC (fun s h => B.call C (N 62) [(s 3)] h fun v20 h => Q v20 h) (eT hC (fun s h => zg (zcc.l2 C N Q (s 0) (s 3)) [(s 4)] h) hR (fun s h hR => eK (eL hC [0, 3] [4] (on2 (zcc.l2 C N Q)) hR (fun Y1 s h hR => e1 hR)))) (fun s h hR => e1 hR)))
theorem zcc.imp : zcc.Imp (AC P) N := fun v0 h Q hR => eF mixed (fn := Tryz.f15) (fun hC => zcc.L hC (dn Q) (zw [v0]) h hR)
def zx.I : Bx := ⟨[2, 4, 7], [28, 34, 40, 49, 53, 58, 69, 75, 81, 86, 94, 99, 107, 112, 120], 146, [(6, pz [] 20), (10, [(0, []), (1, []), (2, []), (4, []), (5, []), (6, []), (7, []), (3, []), (8, []), (9, []), (10, [])]), (20, pz [(5, [1])] 10), (22, pz [(4, [1]), (5, [1])] 10), (24, pz [(4, [1]), (5, [1])] 10)]⟩
theorem zx.L : LkT P zx.I Tryz.f18 fun C Q s h => zx.cps C N (s 0) h Q := fun {C} hC Q s h hR => eT hC (fun s h => zx.k10 C N Q (s 0) (s 148) h) hR (fun s h hR => eT hC (fun s h => B.pv (V.zi (s 0)) fun v13 => zg (zx.l9 C N Q (s 0) (s 0) v13) [.nils, (.int .i64 0), (s 148), (s 150)] h) hR (fun s h hR => eT hC (fun s h => B.pv (V.zi (s 0)) fun v13 => zg (zx.l9 C N Q (s 0) (s 0) v13) [(s 5), (.int .i64 0), (s 148), (s 150)] h) hR (fun s h hR => eS hC (fun s h => zx.k1 C N Q (s 5) (s 148) (s 150) h) (eT hC (fun s h => zg (zx.l9 C N Q (s 0) (s 12) (s 13)) [(s 5), (s 14), (s 148), (s 150)] h) hR (fun s h hR => eK (eL hC [0, 12, 13] [5, 14, 148, 150] (on3 (zx.l9 C N Q)) hR (fun Y1 s h hR => eT hC (fun s h => B.cond (s 15) (zx.k8 C N Q Y1 (s 0) (s 5) (s 12) (s 13) (s 14) (s 148) (s 150) h) (zx.k1 C N Q (s 5) (s 148) (s 150) h)) hR (fun s h hR => eT hC (fun s h => zx.k8 C N Q Y1 (s 0) (s 5) (s 12) (s 13) (s 14) (s 148) (s 150) h) hR (fun s h hR => eS hC (fun s h => B.pv (V.bin .add (s 14) (.int .i64 1)) fun v132 => Y1 [(s 5), v132, (s 148), (s 150)] h) (eK (eT hC (fun s h => zx.k7 C N Q Y1 (s 0) (s 5) (s 6) (s 12) (s 13) (s 14) (s 148) (s 150) (s 153) h) hR (fun s h hR => eT hC (fun s h => zx.k6 C N Q Y1 (s 0) (s 5) (s 12) (s 13) (s 14) (s 148) (s 150) (s 153) h) hR (fun s h hR => eT hC (fun s h => zx.k5 C N Q Y1 (s 0) (s 5) (s 12) (s 13) (s 14) (s 148) (s 150) (s 153) h) hR (fun s h hR => eT hC (fun s h => zx.k4 C N Q Y1 (s 0) (s 5) (s 12) (s 13) (s 14) (s 148) (s 150) (s 153) h) hR (fun s h hR => eT hC (fun s h => zx.k3 C N Q Y1 (s 0) (s 5) (s 8) (s 9) (s 12) (s 13) (s 14) (s 148) (s 150) (s 153) h) hR (fun s h hR => eT hC (fun s h => zx.k2 C N Q Y1 (s 0) (s 5) (s 8) (s 9) (s 12) (s 13) (s 14) (s 148) (s 150) h) hR (fun s h hR => e1 hR)))))))) (fun s h hR => e1 hR))))))) (fun s h hR => e1 hR))))
theorem zx.imp : zx.Imp (AC P) N := fun v0 h Q hR => eF mixed (fn := Tryz.f18) (fun hC => zx.L hC (dn Q) (zw [v0]) h hR)
def zcm.I : Bx := ⟨[2, 3], [5, 7, 11, 13, 18, 20, 25, 27, 32, 34, 39, 41], 45, []⟩
theorem zcm.L : LkT P zcm.I Tryz.f22 fun C Q s h => zcm.cps C N (s 0) (s 1) h Q := fun {C} hC Q s h hR => e1 hR
theorem zcm.imp : zcm.Imp (AC P) N := fun v0 v1 h Q hR => eF mixed (fn := Tryz.f22) (fun hC => zcm.L hC (dn Q) (zw [v0, v1]) h hR)
def zbw.I : Bx := ⟨[5], [], 40, [(7, [(0, []), (1, []), (2, []), (3, []), (4, []), (6, []), (5, [0]), (7, [0]), (8, []), (9, []), (10, []), (11, [])])]⟩
theorem zbw.L : LkT P zbw.I Tryz.f25 fun C Q s h => zbw.cps C N (s 0) (s 1) (s 2) h Q := fun {C} hC Q s h hR => eT hC (fun s h => zbw.k5 C N Q (s 3) (s 4) (s 45) h) hR (fun s h hR => eT hC (fun s h => zbw.k4 C N Q (s 3) (s 4) (s 8) (s 9) h) hR (fun s h hR => eT hC (fun s h => B.newO h (some [.nils]) fun i10 h => zbw.k3 C N Q (s 3) (s 4) (s 8) (.ptr i10 0 0) h) hR (fun s h hR => eT hC (fun s h => zbw.k3 C N Q (s 3) (s 4) (s 8) (s 10) h) hR (fun s h hR => eS hC (fun s h => B.ld h (s 10) fun v39 => Q (.tup [v39, (.int .i64 0)]) h) (eT hC (fun s h => zvt C (s 26) (W1 fun v27 h Z1 => zbw.r2 C N Q (s 3) (s 4) (s 10) v27 h Z1) h (RK [(0, fun h => B.ld h (s 10) fun v39 => Q (.tup [v39, (.int .i64 0)]) h)])) hR (fun s h hR => eK (eR1 hC 26 27 [3, 4, 10] (fun kv v27 h Z1 => match kv with | [v3, v4, v10] => zbw.r2 C N Q v3 v4 v10 v27 h Z1 | _ => False) hR (rk_cons (fun h hR => e0 hR) rk_nil) (fun Z1 s h hR => e1 hR)))) (fun s h hR => e1 hR)))))
theorem zbw.imp : zbw.Imp (AC P) N := fun v0 v1 v2 h Q hR => eF mixed (fn := Tryz.f25) (fun hC => zbw.L hC (dn Q) (zw [v0, v1, v2]) h hR)
def zba.I : Bx := ⟨[6, 13, 14], [29, 36, 45, 61, 67, 73], 99, [(9, pz [] 14), (10, pz [(7, [3])] 30)]⟩
theorem zba.L : LkT P zba.I Tryz.f26 fun C Q s h => zba.cps C N (s 0) (s 1) (s 2) h Q := fun {C} hC Q s h hR => eT hC (fun s h => B.call C (N 427) [(s 0), (s 1), (.int .i64 0)] h fun v19 h => zba.k4 C N Q (s 0) (s 1) (s 2) v19 (s 105) h) hR (fun s h hR => eT hC (fun s h => zba.k4 C N Q (s 0) (s 1) (s 2) (s 8) (s 105) h) hR (fun s h hR => eT hC (fun s h => B.pv (V.zi (s 2)) fun v24 => zg (zba.l3 C N Q (s 0) (s 1) (s 8) (s 2) v24 (s 105)) [.nils, (.int .i64 0), (.bool true), (.int .i64 0)] h) hR (fun s h hR => eT hC (fun s h => B.pv (V.zi (s 2)) fun v24 => zg (zba.l3 C N Q (s 0) (s 1) (s 8) (s 2) v24 (s 105)) [(s 9), (.int .i64 0), (.bool true), (.int .i64 0)] h) hR (fun s h hR => eT hC (fun s h => B.pv (V.zi (s 2)) fun v24 => zg (zba.l3 C N Q (s 0) (s 1) (s 8) (s 2) v24 (s 105)) [(s 9), (s 10), (s 11), (.int .i64 0)] h) hR (fun s h hR => eS hC (fun s h => zba.k1 C N Q (s 9) (s 11) (s 105) h) (eT hC (fun s h => zg (zba.l3 C N Q (s 0) (s 1) (s 8) (s 23) (s 24) (s 105)) [(s 9), (s 10), (s 11), (s 25)] h) hR (fun s h hR => eK (eL hC [0, 1, 8, 23, 24, 105] [9, 10, 11, 25] (on6 (zba.l3 C N Q)) hR (fun Y1 s h hR => e1 hR)))) (fun s h hR => e1 hR))))))
theorem zba.imp : zba.Imp (AC P) N := fun v0 v1 v2 h Q hR => eF mixed (fn := Tryz.f26) (fun hC => zba.L hC (dn Q) (zw [v0, v1, v2]) h hR)
def zgd.I : Bx := ⟨[], [], 38, []⟩
theorem zgd.L : LkT P zgd.I Tryz.f27 fun C Q s h => zgd.cps C N (s 0) (s 1) (s 2) h Q := fun {C} hC Q s h hR => e1 hR
theorem zgd.imp : zgd.Imp (AC P) N := fun v0 v1 v2 h Q hR => eF mixed (fn := Tryz.f27) (fun hC => zgd.L hC (dn Q) (zw [v0, v1, v2]) h hR)
def zci.I : Bx := ⟨[], [], 26, [(6, pz [] 9)]⟩
theorem zci.L : LkT P zci.I Tryz.f33 fun C Q s h => zci.cps C N (s 0) (s 1) h Q := fun {C} hC Q s h hR => eT hC (fun s h => zci.k3 C N Q (s 0) (s 1) h) hR (fun s h hR => eT hC (fun s h => zg (zp3.l4  Q (s 0) (s 1)) [(.int .i64 0)] h) hR (fun s h hR => eS hC (fun s h => Q (.bool true) h) (eT hC (fun s h => zg (zp3.l4  Q (s 0) (s 1)) [(s 5)] h) hR (fun s h hR => eK (eL hC [0, 1] [5] (on2 (zp3.l4  Q)) hR (fun Y1 s h hR => e1 hR)))) (fun s h hR => e1 hR)))
theorem zci.imp : zci.Imp (AC P) N := fun v0 v1 h Q hR => eF mixed (fn := Tryz.f33) (fun hC => zci.L hC (dn Q) (zw [v0, v1]) h hR)
def zd4.I : Bx := ⟨[0], [], 7, []⟩
theorem zd4.L : LkT P zd4.I Tryz.f39 fun C Q s h => zd4.cps C N h Q := fun {C} hC Q s h hR => e1 hR
theorem zd4.imp : zd4.Imp (AC P) N := fun h Q hR => eF mixed (fn := Tryz.f39) (fun hC => zd4.L hC (dn Q) (zw []) h hR)
def zbg.I : Bx := ⟨[5], [], 39, []⟩
theorem zbg.L : LkT P zbg.I Tryz.f43 fun C Q s h => zbg.cps C N (s 0) h Q := fun {C} hC Q s h hR => eT hC (fun s h => zbg.k5 C N Q (s 0) h) hR (fun s h hR => eT hC (fun s h => zg (zbg.l4 C N Q (s 0)) [(s 3), (.int .i64 0)] h) hR (fun s h hR => eS hC (fun s h => zg (zbg.l2 C N Q (s 0)) [(s 3), (.int .i64 0)] h) (eT hC (fun s h => zg (zbg.l4 C N Q (s 0)) [(s 3), (s 4)] h) hR (fun s h hR => eK (eL hC [0] [3, 4] (on1 (zbg.l4 C N Q)) hR (fun Y2 s h hR => e1 hR)))) (fun s h hR => eS hC (fun s h => B.pv (V.zi (s 0)) fun v37 => B.pv (V.zfs 4 (s 3) none (some v37)) fun v38 => Q v38 h) (eT hC (fun s h => zg (zbg.l2 C N Q (s 0)) [(s 3), (s 6)] h) hR (fun s h hR => eK (eL hC [0] [3, 6] (on1 (zbg.l2 C N Q)) hR (fun Y1 s h hR => e1 hR)))) (fun s h hR => e1 hR))))
theorem zbg.imp : zbg.Imp (AC P) N := fun v0 h Q hR => eF mixed (fn := Tryz.f43) (fun hC => zbg.L hC (dn Q) (zw [v0]) h hR)
def zdb.I : Bx := ⟨[], [], 25, []⟩
theorem zdb.L : LkT P zdb.I Tryz.f44 fun C Q s h => zdb.cps C N (s 0) h Q := fun {C} hC Q s h hR => eT hC (fun s h => zdb.k3 C N Q (s 0) h) hR (fun s h hR => eT hC (fun s h => B.appW h 6 56 (s 3) (s 0) fun v11 h => zg (zkq.l4 C 6 56 (N 77) [.int .i64 0, .str [], .int .i64 0, .int .i64 0, .int .i64 0, .bool false] 1 Q (s 0)) [v11, (.int .i64 0)] h) hR (fun s h hR => eT hC (fun s h => zg (zkq.l4 C 6 56 (N 77) [.int .i64 0, .str [], .int .i64 0, .int .i64 0, .int .i64 0, .bool false] 1 Q (s 0)) [(s 3), (.int .i64 0)] h) hR (fun s h hR => eS hC (fun s h => B.pv (V.zi (s 0)) fun v23 => B.pv (V.zfs 6 (s 3) none (some v23)) fun v24 => Q v24 h) (eT hC (fun s h => zg (zkq.l4 C 6 56 (N 77) [.int .i64 0, .str [], .int .i64 0, .int .i64 0, .int .i64 0, .bool false] 1 Q (s 0)) [(s 3), (s 4)] h) hR (fun s h hR => eK (eL hC [0] [3, 4] (on1 (zkq.l4 C 6 56 (N 77) [.int .i64 0, .str [], .int .i64 0, .int .i64 0, .int .i64 0, .bool false] 1 Q)) hR (fun Y1 s h hR => e1 hR)))) (fun s h hR => e1 hR))))
theorem zdb.imp : zdb.Imp (AC P) N := fun v0 h Q hR => eF mixed (fn := Tryz.f44) (fun hC => zdb.L hC (dn Q) (zw [v0]) h hR)
def zcr.I : Bx := ⟨[], [], 25, []⟩
theorem zcr.L : LkT P zcr.I Tryz.f45 fun C Q s h => zcr.cps C N (s 0) h Q := fun {C} hC Q s h hR => eT hC (fun s h => zcr.k3 C N Q (s 0) h) hR (fun s h hR => eT hC (fun s h => B.appW h 8 80 (s 3) (s 0) fun v11 h => zg (zkq.l4 C 8 80 (N 111) [.int .i64 0, .str [], .int .i64 0, .int .i64 0, .int .i64 0, .int .u8 0, .int .i64 0, .str []] 1 Q (s 0)) [v11, (.int .i64 0)] h) hR (fun s h hR => eT hC (fun s h => zg (zkq.l4 C 8 80 (N 111) [.int .i64 0, .str [], .int .i64 0, .int .i64 0, .int .i64 0, .int .u8 0, .int .i64 0, .str []] 1 Q (s 0)) [(s 3), (.int .i64 0)] h) hR (fun s h hR => eS hC (fun s h => B.pv (V.zi (s 0)) fun v23 => B.pv (V.zfs 8 (s 3) none (some v23)) fun v24 => Q v24 h) (eT hC (fun s h => zg (zkq.l4 C 8 80 (N 111) [.int .i64 0, .str [], .int .i64 0, .int .i64 0, .int .i64 0, .int .u8 0, .int .i64 0, .str []] 1 Q (s 0)) [(s 3), (s 4)] h) hR (fun s h hR => eK (eL hC [0] [3, 4] (on1 (zkq.l4 C 8 80 (N 111) [.int .i64 0, .str [], .int .i64 0, .int .i64 0, .int .i64 0, .int .u8 0, .int .i64 0, .str []] 1 Q)) hR (fun Y1 s h hR => e1 hR)))) (fun s h hR => e1 hR))))
theorem zcr.imp : zcr.Imp (AC P) N := fun v0 h Q hR => eF mixed (fn := Tryz.f45) (fun hC => zcr.L hC (dn Q) (zw [v0]) h hR)
def zbo.I : Bx := ⟨[1, 5, 7, 9], [10, 14, 19, 24, 29, 34, 38, 55, 62, 68, 85, 92, 98, 115, 122], 129, [(5, pz [] 22), (10, pz [] 22), (15, pz [] 22)]⟩
theorem zbo.L : LkT P zbo.I Tryz.f46 fun C Q s h => zbo.cps C N (s 0) h Q := fun {C} hC Q s h hR => eT hC (fun s h => zbo.k7 C N Q (s 130) h) hR (fun s h hR => eT hC (fun s h => B.al (s 130) (B.pv (V.zd 3 (s 130)) fun v39 => B.pv (V.zi v39) fun v40 => zg (zbo.l6 C N Q v39 v40 (s 130)) [(s 3), (.int .i64 0)] h)) hR (fun s h hR => eS hC (fun s h => B.al (s 130) (B.pv (V.zd 4 (s 130)) fun v69 => B.pv (V.zi v69) fun v70 => zg (zbo.l4 C N Q v69 v70 (s 130)) [(s 3), (.int .i64 0)] h)) (eT hC (fun s h => zg (zbo.l6 C N Q (s 39) (s 40) (s 130)) [(s 3), (s 41)] h) hR (fun s h hR => eK (eL hC [39, 40, 130] [3, 41] (on3 (zbo.l6 C N Q)) hR (fun Y3 s h hR => e1 hR)))) (fun s h hR => eS hC (fun s h => B.al (s 130) (B.pv (V.zd 5 (s 130)) fun v99 => B.pv (V.zi v99) fun v100 => zg (zbo.l2 C N Q v99 v100 (s 130)) [(s 3), (.int .i64 0)] h)) (eT hC (fun s h => zg (zbo.l4 C N Q (s 69) (s 70) (s 130)) [(s 3), (s 71)] h) hR (fun s h hR => eK (eL hC [69, 70, 130] [3, 71] (on3 (zbo.l4 C N Q)) hR (fun Y2 s h hR => e1 hR)))) (fun s h hR => eS hC (fun s h => Q (s 3) h) (eT hC (fun s h => zg (zbo.l2 C N Q (s 99) (s 100) (s 130)) [(s 3), (s 101)] h) hR (fun s h hR => eK (eL hC [99, 100, 130] [3, 101] (on3 (zbo.l2 C N Q)) hR (fun Y1 s h hR => e1 hR)))) (fun s h hR => e1 hR)))))
theorem zbo.imp : zbo.Imp (AC P) N := fun v0 h Q hR => eF mixed (fn := Tryz.f46) (fun hC => zbo.L hC (dn Q) (zw [v0]) h hR)
def zed.I : Bx := ⟨[], [], 12, [(0, pz [(3, [0])] 8)]⟩
theorem zed.L : LkT P zed.I Tryz.f47 fun C Q s h => zed.cps C N (s 0) (s 1) (s 2) h Q := fun {C} hC Q s h hR => e1 hR
theorem zed.imp : zed.Imp (AC P) N := fun v0 v1 v2 h Q hR => eF mixed (fn := Tryz.f47) (fun hC => zed.L hC (dn Q) (zw [v0, v1, v2]) h hR)
def ze1.I : Bx := ⟨[], [], 5, []⟩
theorem ze1.L : LkT P ze1.I Tryz.f48 fun C Q s h => ze1.cps C N (s 0) h Q := fun {C} hC Q s h hR => e1 hR
theorem ze1.imp : ze1.Imp (AC P) N := fun v0 h Q hR => eF mixed (fn := Tryz.f48) (fun hC => ze1.L hC (dn Q) (zw [v0]) h hR)
def zce.I : Bx := ⟨[], [], 27, []⟩
theorem zce.L : LkT P zce.I Tryz.f49 fun C Q s h => zce.cps C N (s 0) (s 1) h Q := fun {C} hC Q s h hR => eT hC (fun s h => 0 < 1 ∧ B.mks h 1 (some [.int .u8 0]) (s 1) (s 1) fun v8 h => B.pv (V.zi v8) fun v10 => zg (zce.l2 C N Q (s 0) (s 1) v8 v10) [(.int .i64 0)] h) hR (fun s h hR => eT hC (fun s h => B.pv (V.zi (s 5)) fun v10 => zg (zce.l2 C N Q (s 0) (s 1) (s 5) v10) [(.int .i64 0)] h) hR (fun s h hR => eS hC (fun s h => Q (s 5) h) (eT hC (fun s h => zg (zce.l2 C N Q (s 0) (s 1) (s 5) (s 10)) [(s 11)] h) hR (fun s h hR => eK (eL hC [0, 1, 5, 10] [11] (on4 (zce.l2 C N Q)) hR (fun Y1 s h hR => e1 hR)))) (fun s h hR => e1 hR)))
theorem zce.imp : zce.Imp (AC P) N := fun v0 v1 h Q hR => eF mixed (fn := Tryz.f49) (fun hC => zce.L hC (dn Q) (zw [v0, v1]) h hR)
def ze4.I : Bx := ⟨[], [], 16, []⟩
theorem ze4.L : LkT P ze4.I Tryz.f50 fun C Q s h => ze4.cps C N (s 0) h Q := fun {C} hC Q s h hR => e1 hR
theorem ze4.imp : ze4.Imp (AC P) N := fun v0 h Q hR => eF mixed (fn := Tryz.f50) (fun hC => ze4.L hC (dn Q) (zw [v0]) h hR)
def zbl.I : Bx := ⟨[], [], 58, [(7, pz [(30, [25])] 35)]⟩
theorem zbl.L : LkT P zbl.I Tryz.f51 fun C Q s h => zbl.cps C N (s 0) (s 1) h Q := fun {C} hC Q s h hR => eT hC (fun s h => zbl.k4 C N Q (s 0) (s 1) h) hR (fun s h hR => eT hC (fun s h => zbl.k3 C N Q (s 0) (s 1) h) hR (fun s h hR => eT hC (fun s h => zg (zbl.l2 C N Q (s 1) (s 5)) [(.int .i64 0)] h) hR (fun s h hR => eS hC (fun s h => Q (.bool true) h) (eT hC (fun s h => zg (zbl.l2 C N Q (s 1) (s 5)) [(s 6)] h) hR (fun s h hR => eK (eL hC [1, 5] [6] (on2 (zbl.l2 C N Q)) hR (fun Y1 s h hR => e1 hR)))) (fun s h hR => e1 hR))))
theorem zbl.imp : zbl.Imp (AC P) N := fun v0 v1 h Q hR => eF mixed (fn := Tryz.f51) (fun hC => zbl.L hC (dn Q) (zw [v0, v1]) h hR)
def zcj.I : Bx := ⟨[], [], 58, [(7, pz [(30, [25])] 35)]⟩
theorem zcj.L : LkT P zcj.I Tryz.f52 fun C Q s h => zcj.cps C N (s 0) (s 1) h Q := fun {C} hC Q s h hR => eT hC (fun s h => zcj.k4 C N Q (s 0) (s 1) h) hR (fun s h hR => eT hC (fun s h => zcj.k3 C N Q (s 0) (s 1) h) hR (fun s h hR => eT hC (fun s h => zg (zl7.l4 C 6 (N 77) [.i .i64, .s, .i .i64, .i .i64, .i .i64, .b] 1 Q (s 1) (s 5)) [(.int .i64 0)] h) hR (fun s h hR => eS hC (fun s h => Q (.bool true) h) (eT hC (fun s h => zg (zl7.l4 C 6 (N 77) [.i .i64, .s, .i .i64, .i .i64, .i .i64, .b] 1 Q (s 1) (s 5)) [(s 6)] h) hR (fun s h hR => eK (eL hC [1, 5] [6] (on2 (zl7.l4 C 6 (N 77) [.i .i64, .s, .i .i64, .i .i64, .i .i64, .b] 1 Q)) hR (fun Y1 s h hR => e1 hR)))) (fun s h hR => e1 hR))))
theorem zcj.imp : zcj.Imp (AC P) N := fun v0 v1 h Q hR => eF mixed (fn := Tryz.f52) (fun hC => zcj.L hC (dn Q) (zw [v0, v1]) h hR)
def zcb.I : Bx := ⟨[], [], 58, [(7, pz [(30, [25])] 35)]⟩
theorem zcb.L : LkT P zcb.I Tryz.f53 fun C Q s h => zcb.cps C N (s 0) (s 1) h Q := fun {C} hC Q s h hR => eT hC (fun s h => zcb.k4 C N Q (s 0) (s 1) h) hR (fun s h hR => eT hC (fun s h => zcb.k3 C N Q (s 0) (s 1) h) hR (fun s h hR => eT hC (fun s h => zg (zl7.l4 C 8 (N 111) [.i .i64, .s, .i .i64, .i .i64, .i .i64, .i .u8, .i .i64, .s] 1 Q (s 1) (s 5)) [(.int .i64 0)] h) hR (fun s h hR => eS hC (fun s h => Q (.bool true) h) (eT hC (fun s h => zg (zl7.l4 C 8 (N 111) [.i .i64, .s, .i .i64, .i .i64, .i .i64, .i .u8, .i .i64, .s] 1 Q (s 1) (s 5)) [(s 6)] h) hR (fun s h hR => eK (eL hC [1, 5] [6] (on2 (zl7.l4 C 8 (N 111) [.i .i64, .s, .i .i64, .i .i64, .i .i64, .i .u8, .i .i64, .s] 1 Q)) hR (fun Y1 s h hR => e1 hR)))) (fun s h hR => e1 hR))))
theorem zcb.imp : zcb.Imp (AC P) N := fun v0 v1 h Q hR => eF mixed (fn := Tryz.f53) (fun hC => zcb.L hC (dn Q) (zw [v0, v1]) h hR)
def zbi.I : Bx := ⟨[], [], 32, []⟩
theorem zbi.L : LkT P zbi.I Tryz.f54 fun C Q s h => zbi.cps C N (s 0) h Q := fun {C} hC Q s h hR => eS hC (fun s h => zbi.k3 C N Q (s 0) h) (eT hC (fun s h => zg (zbi.l5 C N Q (s 0)) [(s 2)] h) hR (fun s h hR => eK (eL hC [0] [2] (on1 (zbi.l5 C N Q)) hR (fun Y2 s h hR => e1 hR)))) (fun s h hR => eT hC (fun s h => zg (zbi.l2 C N Q (s 3)) [(.int .i64 0)] h) hR (fun s h hR => eT hC (fun s h => zg (zbi.l2 C N Q (s 3)) [(s 4)] h) hR (fun s h hR => eK (eL hC [3] [4] (on1 (zbi.l2 C N Q)) hR (fun Y1 s h hR => e1 hR)))))
theorem zbi.imp : zbi.Imp (AC P) N := fun v0 h Q hR => eF mixed (fn := Tryz.f54) (fun hC => zbi.L hC (dn Q) (zw [v0]) h hR)
def zdh.I : Bx := ⟨[], [], 20, []⟩
theorem zdh.L : LkT P zdh.I Tryz.f55 fun C Q s h => zdh.cps C N (s 0) h Q := fun {C} hC Q s h hR => eT hC (fun s h => zg (zjx.l3 C 6 (N 77) (fun h p v K => B.stn h p 6 v K) 2 Q (s 2)) [(.int .i64 0)] h) hR (fun s h hR => eT hC (fun s h => zg (zjx.l3 C 6 (N 77) (fun h p v K => B.stn h p 6 v K) 2 Q (s 2)) [(s 3)] h) hR (fun s h hR => eK (eL hC [2] [3] (fun kv lv h Y1 => match kv with | [v2] => zjx.l3 C 6 (N 77) (fun h p v K => B.stn h p 6 v K) 2 Q v2 lv h Y1 | _ => False) hR (fun Y1 s h hR => e1 hR))))
theorem zdh.imp : zdh.Imp (AC P) N := fun v0 h Q hR => eF mixed (fn := Tryz.f55) (fun hC => zdh.L hC (dn Q) (zw [v0]) h hR)
def zcy.I : Bx := ⟨[], [], 20, []⟩
theorem zcy.L : LkT P zcy.I Tryz.f56 fun C Q s h => zcy.cps C N (s 0) h Q := fun {C} hC Q s h hR => eT hC (fun s h => zg (zjx.l3 C 8 (N 111) (fun h p v K => B.stn h p 8 v K) 2 Q (s 2)) [(.int .i64 0)] h) hR (fun s h hR => eT hC (fun s h => zg (zjx.l3 C 8 (N 111) (fun h p v K => B.stn h p 8 v K) 2 Q (s 2)) [(s 3)] h) hR (fun s h hR => eK (eL hC [2] [3] (fun kv lv h Y1 => match kv with | [v2] => zjx.l3 C 8 (N 111) (fun h p v K => B.stn h p 8 v K) 2 Q v2 lv h Y1 | _ => False) hR (fun Y1 s h hR => e1 hR))))
theorem zcy.imp : zcy.Imp (AC P) N := fun v0 h Q hR => eF mixed (fn := Tryz.f56) (fun hC => zcy.L hC (dn Q) (zw [v0]) h hR)
def z9.I : Bx := ⟨[1], [6, 10, 15, 20, 25, 30, 35, 41, 52, 59, 69, 75, 86, 93, 103, 109, 120, 127], 136, [(6, pz [] 27), (11, pz [] 27), (16, pz [] 27)]⟩
theorem z9.L : LkT P z9.I Tryz.f57 fun C Q s h => z9.cps C N (s 0) h Q := fun {C} hC Q s h hR => eT hC (fun s h => z9.k7 C N Q (s 137) h) hR (fun s h hR => eT hC (fun s h => zg (z9.l6 C N Q (s 137)) [(.int .i64 0)] h) hR (fun s h hR => eS hC (fun s h => zg (z9.l4 C N Q (s 137)) [(.int .i64 0)] h) (eT hC (fun s h => zg (z9.l6 C N Q (s 137)) [(s 3)] h) hR (fun s h hR => eK (eL hC [137] [3] (on1 (z9.l6 C N Q)) hR (fun Y3 s h hR => e1 hR)))) (fun s h hR => eS hC (fun s h => zg (z9.l2 C N Q (s 137)) [(.int .i64 0)] h) (eT hC (fun s h => zg (z9.l4 C N Q (s 137)) [(s 4)] h) hR (fun s h hR => eK (eL hC [137] [4] (on1 (z9.l4 C N Q)) hR (fun Y2 s h hR => e1 hR)))) (fun s h hR => eS hC (fun s h => Q (.bool true) h) (eT hC (fun s h => zg (z9.l2 C N Q (s 137)) [(s 5)] h) hR (fun s h hR => eK (eL hC [137] [5] (on1 (z9.l2 C N Q)) hR (fun Y1 s h hR => e1 hR)))) (fun s h hR => e1 hR)))))
theorem z9.imp : z9.Imp (AC P) N := fun v0 h Q hR => eF mixed (fn := Tryz.f57) (fun hC => z9.L hC (dn Q) (zw [v0]) h hR)
def zbr.I : Bx := ⟨[], [], 24, []⟩
theorem zbr.L : LkT P zbr.I Tryz.f58 fun C Q s h => zbr.cps C N (s 0) (s 1) h Q := fun {C} hC Q s h hR => eT hC (fun s h => B.pv (V.bin .sub (s 1) (.int .i64 1)) fun v8 => zg (zbr.l2 C N Q (s 0)) [.nils, v8] h) hR (fun s h hR => eT hC (fun s h => B.pv (V.bin .sub (s 1) (.int .i64 1)) fun v8 => zg (zbr.l2 C N Q (s 0)) [(s 5), v8] h) hR (fun s h hR => eS hC (fun s h => Q (s 5) h) (eT hC (fun s h => zg (zbr.l2 C N Q (s 0)) [(s 5), (s 6)] h) hR (fun s h hR => eK (eL hC [0] [5, 6] (on1 (zbr.l2 C N Q)) hR (fun Y1 s h hR => e1 hR)))) (fun s h hR => e1 hR)))
theorem zbr.imp : zbr.Imp (AC P) N := fun v0 v1 h Q hR => eF mixed (fn := Tryz.f58) (fun hC => zbr.L hC (dn Q) (zw [v0, v1]) h hR)
def zy.I : Bx := ⟨[1, 2], [6, 9, 16, 23, 32, 41, 48, 55, 62], 68, [(1, [(0, []), (1, []), (3, []), (4, []), (5, []), (6, []), (2, [4]), (7, []), (8, []), (9, [])])]⟩
theorem zy.L : LkT P zy.I Tryz.f59 fun C Q s h => zy.cps C N (s 0) h Q := fun {C} hC Q s h hR => eT hC (fun s h => zy.k7 C N Q (s 69) (s 70) h) hR (fun s h hR => eT hC (fun s h => zg (zy.l6 C N Q (s 69) (s 70)) [(s 3), (.int .i64 0)] h) hR (fun s h hR => eS hC (fun s h => zy.k4 C N Q (s 3) (s 69) (s 70) h) (eT hC (fun s h => zg (zy.l6 C N Q (s 69) (s 70)) [(s 3), (s 4)] h) hR (fun s h hR => eK (eL hC [69, 70] [3, 4] (on2 (zy.l6 C N Q)) hR (fun Y2 s h hR => e1 hR)))) (fun s h hR => eT hC (fun s h => zg (zy.l3 C N Q (s 69) (s 70)) [(s 3), (.int .i64 0)] h) hR (fun s h hR => eS hC (fun s h => zy.k1 C N Q (s 3) (s 69) (s 70) h) (eT hC (fun s h => zg (zy.l3 C N Q (s 69) (s 70)) [(s 3), (s 5)] h) hR (fun s h hR => eK (eL hC [69, 70] [3, 5] (on2 (zy.l3 C N Q)) hR (fun Y1 s h hR => e1 hR)))) (fun s h hR => e1 hR)))))
theorem zy.imp : zy.Imp (AC P) N := fun v0 h Q hR => eF mixed (fn := Tryz.f59) (fun hC => zy.L hC (dn Q) (zw [v0]) h hR)
def zbt.I : Bx := ⟨[1, 2], [5, 7, 10, 11, 14, 15, 18, 27], 33, [(4, [(0, []), (1, []), (3, []), (4, []), (5, []), (7, []), (8, []), (9, []), (11, []), (12, []), (14, []), (2, [5, 9, 12]), (6, [9, 12]), (10, [12]), (13, []), (15, []), (16, []), (17, []), (18, [])])]⟩
theorem zbt.L : LkT P zbt.I Tryz.f60 fun C Q s h => zbt.cps C N (s 0) h Q := fun {C} hC Q s h hR => eT hC (fun s h => B.al (s 34) (B.pv (V.zd 5 (s 34)) fun v6 => B.cond v6 (zbt.k1 C N Q (.int .u8 1) (s 34) (s 35) h) (zbt.k1 C N Q (.int .u8 0) (s 34) (s 35) h))) hR (fun s h hR => eT hC (fun s h => B.al (s 34) (B.pv (V.zd 5 (s 34)) fun v6 => B.cond v6 (zbt.k1 C N Q (.int .u8 1) (s 34) (s 35) h) (zbt.k1 C N Q (s 3) (s 34) (s 35) h))) hR (fun s h hR => eT hC (fun s h => zbt.k1 C N Q (s 3) (s 34) (s 35) h) hR (fun s h hR => e1 hR)))
theorem zbt.imp : zbt.Imp (AC P) N := fun v0 h Q hR => eF mixed (fn := Tryz.f60) (fun hC => zbt.L hC (dn Q) (zw [v0]) h hR)
def zdg.I : Bx := ⟨[1, 2], [4, 7, 10, 13, 16, 19, 23, 30], 36, [(1, [(0, []), (1, []), (3, []), (4, []), (6, []), (7, []), (9, []), (10, []), (11, []), (12, []), (13, []), (15, []), (16, []), (17, []), (19, []), (20, []), (2, [4, 7, 10, 13, 16, 20]), (5, [7, 10, 13, 16, 20]), (8, [10, 13, 16, 20]), (18, [10, 13, 20]), (21, [10, 13]), (14, []), (22, []), (23, []), (24, [])])]⟩
theorem zdg.L : LkT P zdg.I Tryz.f61 fun C Q s h => zdg.cps C N (s 0) h Q := fun {C} hC Q s h hR => e1 hR
theorem zdg.imp : zdg.Imp (AC P) N := fun v0 h Q hR => eF mixed (fn := Tryz.f61) (fun hC => zdg.L hC (dn Q) (zw [v0]) h hR)
def zdw.I : Bx := ⟨[2, 3], [5, 7, 11, 13], 17, []⟩
theorem zdw.L : LkT P zdw.I Tryz.f62 fun C Q s h => zdw.cps C N (s 0) (s 1) h Q := fun {C} hC Q s h hR => e1 hR
theorem zdw.imp : zdw.Imp (AC P) N := fun v0 v1 h Q hR => eF mixed (fn := Tryz.f62) (fun hC => zdw.L hC (dn Q) (zw [v0, v1]) h hR)
def zb1.I : Bx := ⟨[], [], 27, []⟩
theorem zb1.L : LkT P zb1.I Tryz.f63 fun C Q s h => zb1.cps C N (s 0) (s 1) h Q := fun {C} hC Q s h hR => eT hC (fun s h => zg (zb1.l2 C N Q (s 0) (s 1)) [(.int .i64 0)] h) hR (fun s h hR => eT hC (fun s h => zg (zb1.l2 C N Q (s 0) (s 1)) [(s 4)] h) hR (fun s h hR => eK (eL hC [0, 1] [4] (on2 (zb1.l2 C N Q)) hR (fun Y1 s h hR => e1 hR))))
theorem zb1.imp : zb1.Imp (AC P) N := fun v0 v1 h Q hR => eF mixed (fn := Tryz.f63) (fun hC => zb1.L hC (dn Q) (zw [v0, v1]) h hR)
def zdt.I : Bx := ⟨[], [], 162, []⟩
theorem zdt.L : LkT P zdt.I Tryz.f64 fun C Q s h => zdt.cps C N (s 0) h Q := fun {C} hC Q s h hR => e1 hR
theorem zdt.imp : zdt.Imp (AC P) N := fun v0 h Q hR => eF mixed (fn := Tryz.f64) (fun hC => zdt.L hC (dn Q) (zw [v0]) h hR)
def zd5.I : Bx := ⟨[4], [], 10, []⟩
theorem zd5.L : LkT P zd5.I Tryz.f66 fun C Q s h => zd5.cps C N (s 0) (s 1) h Q := fun {C} hC Q s h hR => e1 hR
theorem zd5.imp : zd5.Imp (AC P) N := fun v0 v1 h Q hR => eF mixed (fn := Tryz.f66) (fun hC => zd5.L hC (dn Q) (zw [v0, v1]) h hR)
def zdl.I : Bx := ⟨[], [], 8, []⟩
theorem zdl.L : LkT P zdl.I Tryz.f67 fun C Q s h => zdl.cps C N (s 0) (s 1) h Q := fun {C} hC Q s h hR => e1 hR
theorem zdl.imp : zdl.Imp (AC P) N := fun v0 v1 h Q hR => eF mixed (fn := Tryz.f67) (fun hC => zdl.L hC (dn Q) (zw [v0, v1]) h hR)
def zn.I : Bx := ⟨[], [], 55, []⟩
theorem zn.L : LkT P zn.I Tryz.f68 fun C Q s h => zn.cps C N (s 0) (s 1) h Q := fun {C} hC Q s h hR => eT hC (fun s h => zn.k5 C N Q (s 0) (s 1) h) hR (fun s h hR => eT hC (fun s h => zn.k4 C N Q (s 0) (s 1) (.int .i64 0) h) hR (fun s h hR => eT hC (fun s h => zn.k4 C N Q (s 0) (s 1) (s 5) h) hR (fun s h hR => eS hC (fun s h => zn.k1 C N Q (s 0) (s 1) (s 5) h) (eT hC (fun s h => zg (zn.l3 C N Q (s 0) (s 1) (s 33) (s 34)) [(s 5), (s 35)] h) hR (fun s h hR => eK (eL hC [0, 1, 33, 34] [5, 35] (on4 (zn.l3 C N Q)) hR (fun Y1 s h hR => e1 hR)))) (fun s h hR => e1 hR))))
theorem zn.imp : zn.Imp (AC P) N := fun v0 v1 h Q hR => eF mixed (fn := Tryz.f68) (fun hC => zn.L hC (dn Q) (zw [v0, v1]) h hR)
def zr.I : Bx := ⟨[4, 5, 7], [31, 32, 37, 51, 57], 59, [(11, pz [(3, [1])] 8)]⟩
theorem zr.L : LkT P zr.I Tryz.f69 fun C Q s h => zr.cps C N (s 0) (s 1) h Q := fun {C} hC Q s h hR => eT hC (fun s h => zr.k5 C N Q (s 0) (s 1) (s 63) h) hR (fun s h hR => eT hC (fun s h => B.call C (N 432) [(s 0), (.int .i64 1)] h fun v14 h => zg (zr.l4 C N Q (s 0) (s 63)) [v14, (s 64)] h) hR (fun s h hR => eS hC (fun s h => B.call C (N 432) [(s 0), (.int .i64 1)] h fun v39 h => zg (zr.l2 C N Q (s 0) (s 63)) [v39, (s 64)] h) (eT hC (fun s h => zg (zr.l4 C N Q (s 0) (s 63)) [(s 6), (s 64)] h) hR (fun s h hR => eK (eL hC [0, 63] [6, 64] (on2 (zr.l4 C N Q)) hR (fun Y2 s h hR => e1 hR)))) (fun s h hR => eS hC (fun s h => B.pv (V.zb4 0 4 (s 64)) fun v58 => B.pv (V.setN 0 4 v58 (s 63)) fun c4 => B.pv (oneOf (zfq (V.zb4 0 4 c4) (some []))) fun v => Q v h) (eT hC (fun s h => zg (zr.l2 C N Q (s 0) (s 63)) [(s 8), (s 64)] h) hR (fun s h hR => eK (eL hC [0, 63] [8, 64] (on2 (zr.l2 C N Q)) hR (fun Y1 s h hR => e1 hR)))) (fun s h hR => e1 hR))))
theorem zr.imp : zr.Imp (AC P) N := fun v0 v1 h Q hR => eF mixed (fn := Tryz.f69) (fun hC => zr.L hC (dn Q) (zw [v0, v1]) h hR)
def zch.I : Bx := ⟨[4, 5], [14, 15, 16, 17, 20, 24], 26, []⟩
theorem zch.L : LkT P zch.I Tryz.f70 fun C Q s h => zch.cps C N (s 0) (s 1) h Q := fun {C} hC Q s h hR => e1 hR
theorem zch.imp : zch.Imp (AC P) N := fun v0 v1 h Q hR => eF mixed (fn := Tryz.f70) (fun hC => zch.L hC (dn Q) (zw [v0, v1]) h hR)
def zb7.I : Bx := ⟨[4, 5], [12, 17, 18, 22, 26, 29], 31, []⟩
theorem zb7.L : LkT P zb7.I Tryz.f71 fun C Q s h => zb7.cps C N (s 0) (s 1) h Q := fun {C} hC Q s h hR => e1 hR
theorem zb7.imp : zb7.Imp (AC P) N := fun v0 v1 h Q hR => eF mixed (fn := Tryz.f71) (fun hC => zb7.L hC (dn Q) (zw [v0, v1]) h hR)
def zd0.I : Bx := ⟨[2, 3], [5, 7, 11, 13], 17, []⟩
theorem zd0.L : LkT P zd0.I Tryz.f72 fun C Q s h => zd0.cps C N (s 0) (s 1) h Q := fun {C} hC Q s h hR => e1 hR
theorem zd0.imp : zd0.Imp (AC P) N := fun v0 v1 h Q hR => eF mixed (fn := Tryz.f72) (fun hC => zd0.L hC (dn Q) (zw [v0, v1]) h hR)
def zdx.I : Bx := ⟨[], [], 10, []⟩
theorem zdx.L : LkT P zdx.I Tryz.f73 fun C Q s h => zdx.cps C N (s 0) (s 1) h Q := fun {C} hC Q s h hR => e1 hR
theorem zdx.imp : zdx.Imp (AC P) N := fun v0 v1 h Q hR => eF mixed (fn := Tryz.f73) (fun hC => zdx.L hC (dn Q) (zw [v0, v1]) h hR)
def zb.I : Bx := ⟨[8, 9], [], 32, []⟩
theorem zb.L : LkT P zb.I Tryz.f74 fun C Q s h => zb.cps C N (s 0) (s 1) (s 2) h Q := fun {C} hC Q s h hR => eT hC (fun s h => zb.k3 C N Q (s 0) (s 1) (s 2) h) hR (fun s h hR => eT hC (fun s h => B.pv (V.zi (s 0)) fun v16 => zg (zb.l2 C N Q (s 1) (s 2) (s 0) v16) [(.int .i64 0)] h) hR (fun s h hR => eS hC (fun s h => Q (.bool true) h) (eT hC (fun s h => zg (zb.l2 C N Q (s 1) (s 2) (s 15) (s 16)) [(s 17)] h) hR (fun s h hR => eK (eL hC [1, 2, 15, 16] [17] (on4 (zb.l2 C N Q)) hR (fun Y1 s h hR => e1 hR)))) (fun s h hR => e1 hR)))
theorem zb.imp : zb.Imp (AC P) N := fun v0 v1 v2 h Q hR => eF mixed (fn := Tryz.f74) (fun hC => zb.L hC (dn Q) (zw [v0, v1, v2]) h hR)
def zbq.I : Bx := ⟨[], [], 27, [(6, pz [] 10)]⟩
theorem zbq.L : LkT P zbq.I Tryz.f78 fun C Q s h => zbq.cps C N (s 0) (s 1) h Q := fun {C} hC Q s h hR => eT hC (fun s h => zbq.k3 C N Q (s 0) (s 1) h) hR (fun s h hR => eT hC (fun s h => zg (zbq.l2 C N Q (s 0) (s 1)) [(.int .i64 0)] h) hR (fun s h hR => eS hC (fun s h => Q (.bool true) h) (eT hC (fun s h => zg (zbq.l2 C N Q (s 0) (s 1)) [(s 5)] h) hR (fun s h hR => eK (eL hC [0, 1] [5] (on2 (zbq.l2 C N Q)) hR (fun Y1 s h hR => e1 hR)))) (fun s h hR => e1 hR)))
theorem zbq.imp : zbq.Imp (AC P) N := fun v0 v1 h Q hR => eF mixed (fn := Tryz.f78) (fun hC => zbq.L hC (dn Q) (zw [v0, v1]) h hR)
def zda.I : Bx := ⟨[], [], 26, [(6, pz [] 9)]⟩
theorem zda.L : LkT P zda.I Tryz.f79 fun C Q s h => zda.cps C N (s 0) (s 1) h Q := fun {C} hC Q s h hR => eT hC (fun s h => zda.k3 C N Q (s 0) (s 1) h) hR (fun s h hR => eT hC (fun s h => zg (zlx.l4 6 [.i .i64, .s, .i .i64, .i .i64, .i .i64, .b] Q (s 0) (s 1)) [(.int .i64 0)] h) hR (fun s h hR => eS hC (fun s h => Q (.bool true) h) (eT hC (fun s h => zg (zlx.l4 6 [.i .i64, .s, .i .i64, .i .i64, .i .i64, .b] Q (s 0) (s 1)) [(s 5)] h) hR (fun s h hR => eK (eL hC [0, 1] [5] (on2 (zlx.l4 6 [.i .i64, .s, .i .i64, .i .i64, .i .i64, .b] Q)) hR (fun Y1 s h hR => e1 hR)))) (fun s h hR => e1 hR)))
theorem zda.imp : zda.Imp (AC P) N := fun v0 v1 h Q hR => eF mixed (fn := Tryz.f79) (fun hC => zda.L hC (dn Q) (zw [v0, v1]) h hR)
def zco.I : Bx := ⟨[], [], 26, [(6, pz [] 9)]⟩
theorem zco.L : LkT P zco.I Tryz.f80 fun C Q s h => zco.cps C N (s 0) (s 1) h Q := fun {C} hC Q s h hR => eT hC (fun s h => zco.k3 C N Q (s 0) (s 1) h) hR (fun s h hR => eT hC (fun s h => zg (zlx.l4 8 [.i .i64, .s, .i .i64, .i .i64, .i .i64, .i .u8, .i .i64, .s] Q (s 0) (s 1)) [(.int .i64 0)] h) hR (fun s h hR => eS hC (fun s h => Q (.bool true) h) (eT hC (fun s h => zg (zlx.l4 8 [.i .i64, .s, .i .i64, .i .i64, .i .i64, .i .u8, .i .i64, .s] Q (s 0) (s 1)) [(s 5)] h) hR (fun s h hR => eK (eL hC [0, 1] [5] (on2 (zlx.l4 8 [.i .i64, .s, .i .i64, .i .i64, .i .i64, .i .u8, .i .i64, .s] Q)) hR (fun Y1 s h hR => e1 hR)))) (fun s h hR => e1 hR)))
theorem zco.imp : zco.Imp (AC P) N := fun v0 v1 h Q hR => eF mixed (fn := Tryz.f80) (fun hC => zco.L hC (dn Q) (zw [v0, v1]) h hR)
def zbx.I : Bx := ⟨[1, 6, 9], [13, 16, 21, 25, 30, 35, 40, 44, 52, 56, 61, 62, 66, 67, 71, 74, 81, 85, 93, 97, 101], 106, []⟩
theorem zbx.L : LkT P zbx.I Tryz.f83 fun C Q s h => zbx.cps C N (s 0) h Q := fun {C} hC Q s h hR => eT hC (fun s h => zbx.k10 C N Q (s 107) h) hR (fun s h hR => eT hC (fun s h => B.al (s 107) (B.pv (V.zd 0 (s 107)) fun v14 => B.call C (N 50) [.nils, v14, (.int .i64 2)] h fun v15 h => zbx.k9 C N Q v15 (s 107) h)) hR (fun s h hR => eT hC (fun s h => zbx.k9 C N Q (s 4) (s 107) h) hR (fun s h hR => eT hC (fun s h => B.al (s 107) (B.pv (V.zd 1 (s 107)) fun v22 => B.call C (N 50) [(s 4), v22, (.int .i64 8)] h fun v23 h => zbx.k8 C N Q v23 (s 107) h)) hR (fun s h hR => eT hC (fun s h => zbx.k8 C N Q (s 4) (s 107) h) hR (fun s h hR => eT hC (fun s h => B.al (s 107) (B.pv (V.zd 3 (s 107)) fun v31 => B.call C (N 51) [v31] h fun v32 h => B.appW h 1 1 (s 4) v32 fun v33 h => zbx.k7 C N Q v33 (s 107) h)) hR (fun s h hR => eT hC (fun s h => zbx.k7 C N Q (s 4) (s 107) h) hR (fun s h hR => eT hC (fun s h => zbx.k6 C N Q (s 4) (s 107) h) hR (fun s h hR => eT hC (fun s h => B.al (s 107) (B.pv (V.zd 5 (s 107)) fun v45 => B.pv (V.zi v45) fun v46 => zg (zbx.l5 C N Q v45 v46 (s 107)) [(s 4), (.int .i64 0)] h)) hR (fun s h hR => eS hC (fun s h => zbx.k3 C N Q (s 4) (s 107) h) (eT hC (fun s h => zg (zbx.l5 C N Q (s 45) (s 46) (s 107)) [(s 4), (s 47)] h) hR (fun s h hR => eK (eL hC [45, 46, 107] [4, 47] (on3 (zbx.l5 C N Q)) hR (fun Y2 s h hR => e1 hR)))) (fun s h hR => eT hC (fun s h => B.al (s 107) (B.pv (V.zd 6 (s 107)) fun v86 => B.pv (V.zi v86) fun v87 => zg (zbx.l2 C N Q v86 v87) [(s 4), (.int .i64 0)] h)) hR (fun s h hR => eS hC (fun s h => Q (.tup [(s 4), (.int .i64 0)]) h) (eT hC (fun s h => zg (zbx.l2 C N Q (s 86) (s 87)) [(s 4), (s 88)] h) hR (fun s h hR => eK (eL hC [86, 87] [4, 88] (on2 (zbx.l2 C N Q)) hR (fun Y1 s h hR => e1 hR)))) (fun s h hR => e1 hR))))))))))))
theorem zbx.imp : zbx.Imp (AC P) N := fun v0 h Q hR => eF mixed (fn := Tryz.f83) (fun hC => zbx.L hC (dn Q) (zw [v0]) h hR)
def zbe.I : Bx := ⟨[], [], 9, []⟩
theorem zbe.L : LkT P zbe.I Tryz.f84 fun C Q s h => zbe.cps C N (s 0) (s 1) h Q := fun {C} hC Q s h hR => e1 hR
theorem zbe.imp : zbe.Imp (AC P) N := fun v0 v1 h Q hR => eF mixed (fn := Tryz.f84) (fun hC => zbe.L hC (dn Q) (zw [v0, v1]) h hR)
def zeb.I : Bx := ⟨[], [], 8, []⟩
theorem zeb.L : LkT P zeb.I Tryz.f85 fun C Q s h => zeb.cps C N (s 0) h Q := fun {C} hC Q s h hR => e1 hR
theorem zeb.imp : zeb.Imp (AC P) N := fun v0 h Q hR => eF mixed (fn := Tryz.f85) (fun hC => zeb.L hC (dn Q) (zw [v0]) h hR)
def zcd.I : Bx := ⟨[], [], 18, []⟩
theorem zcd.L : LkT P zcd.I Tryz.f86 fun C Q s h => zcd.cps C N (s 0) (s 1) h Q := fun {C} hC Q s h hR => e1 hR
theorem zcd.imp : zcd.Imp (AC P) N := fun v0 v1 h Q hR => eF mixed (fn := Tryz.f86) (fun hC => zcd.L hC (dn Q) (zw [v0, v1]) h hR)
def zdr.I : Bx := ⟨[6], [13, 18, 22, 25, 29, 34, 39], 55, [(12, pz [(5, [4])] 8)]⟩
theorem zdr.L : LkT P zdr.I Tryz.f87 fun C Q s h => zdr.cps C N (s 0) h Q := fun {C} hC Q s h hR => eT hC (fun s h => B.pv (A.bld [(0, none, (s 0))] [.nils, .int .i64 0, .bool false]) fun v8 => B.newO h (A.zk9 3 v8) fun i9 h => zdr.k3 C N Q (s 2) (.ptr i9 0 0) h) hR (fun s h hR => eT hC (fun s h => zdr.k3 C N Q (s 2) (s 5) h) hR (fun s h hR => eT hC (fun s h => zdr.k2 C N Q (s 2) (s 5) (s 61) h) hR (fun s h hR => eT hC (fun s h => zdr.k1 C N Q (s 2) (s 5) (s 61) h) hR (fun s h hR => e1 hR))))
theorem zdr.imp : zdr.Imp (AC P) N := fun v0 h Q hR => eF mixed (fn := Tryz.f87) (fun hC => zdr.L hC (dn Q) (zw [v0]) h hR)
def zbz.I : Bx := ⟨[], [], 18, []⟩
theorem zbz.L : LkT P zbz.I Tryz.f93 fun C Q s h => zbz.cps C N (s 0) h Q := fun {C} hC Q s h hR => eT hC (fun s h => zg (zbz.l2 C N Q (s 0)) [.nils, (.int .i64 0)] h) hR (fun s h hR => eT hC (fun s h => zg (zbz.l2 C N Q (s 0)) [(s 3), (.int .i64 0)] h) hR (fun s h hR => eS hC (fun s h => Q (s 3) h) (eT hC (fun s h => zg (zbz.l2 C N Q (s 0)) [(s 3), (s 4)] h) hR (fun s h hR => eK (eL hC [0] [3, 4] (on1 (zbz.l2 C N Q)) hR (fun Y1 s h hR => e1 hR)))) (fun s h hR => e1 hR)))
theorem zbz.imp : zbz.Imp (AC P) N := fun v0 h Q hR => eF mixed (fn := Tryz.f93) (fun hC => zbz.L hC (dn Q) (zw [v0]) h hR)
def zcs.I : Bx := ⟨[], [], 14, []⟩
theorem zcs.L : LkT P zcs.I Tryz.f95 fun C Q s h => zcs.cps C N (s 0) (s 1) h Q := fun {C} hC Q s h hR => e1 hR
theorem zcs.imp : zcs.Imp (AC P) N := fun v0 v1 h Q hR => eF mixed (fn := Tryz.f95) (fun hC => zcs.L hC (dn Q) (zw [v0, v1]) h hR)
def zdj.I : Bx := ⟨[1, 2], [3, 6, 7, 10], 12, []⟩
theorem zdj.L : LkT P zdj.I Tryz.f98 fun C Q s h => zdj.cps C N (s 0) h Q := fun {C} hC Q s h hR => e1 hR
theorem zdj.imp : zdj.Imp (AC P) N := fun v0 h Q hR => eF mixed (fn := Tryz.f98) (fun hC => zdj.L hC (dn Q) (zw [v0]) h hR)
def zc4.I : Bx := ⟨[4], [], 9, []⟩
theorem zc4.L : LkT P zc4.I Tryz.f99 fun C Q s h => zc4.cps C N (s 0) (s 1) h Q := fun {C} hC Q s h hR => e1 hR
theorem zc4.imp : zc4.Imp (AC P) N := fun v0 v1 h Q hR => eF mixed (fn := Tryz.f99) (fun hC => zc4.L hC (dn Q) (zw [v0, v1]) h hR)
def zdn.I : Bx := ⟨[4], [], 9, []⟩
theorem zdn.L : LkT P zdn.I Tryz.f100 fun C Q s h => zdn.cps C N (s 0) (s 1) h Q := fun {C} hC Q s h hR => e1 hR
theorem zdn.imp : zdn.Imp (AC P) N := fun v0 v1 h Q hR => eF mixed (fn := Tryz.f100) (fun hC => zdn.L hC (dn Q) (zw [v0, v1]) h hR)
def zc3.I : Bx := ⟨[4], [], 9, []⟩
theorem zc3.L : LkT P zc3.I Tryz.f101 fun C Q s h => zc3.cps C N (s 0) (s 1) h Q := fun {C} hC Q s h hR => e1 hR
theorem zc3.imp : zc3.Imp (AC P) N := fun v0 v1 h Q hR => eF mixed (fn := Tryz.f101) (fun hC => zc3.L hC (dn Q) (zw [v0, v1]) h hR)
def zde.I : Bx := ⟨[1, 5], [6, 9, 14, 18, 22, 26, 33, 37, 42, 47], 54, []⟩
theorem zde.L : LkT P zde.I Tryz.f102 fun C Q s h => zde.cps C N (s 0) h Q := fun {C} hC Q s h hR => eT hC (fun s h => zde.k5 C N Q (s 55) h) hR (fun s h hR => eT hC (fun s h => zde.k4 C N Q (s 55) h) hR (fun s h hR => eT hC (fun s h => B.al (s 55) (B.pv (V.zd 2 (s 55)) fun v27 => B.pv (V.zi v27) fun v28 => zg (zde.l3 C N Q v27 v28 (s 55)) [.nils, (.int .i64 0)] h)) hR (fun s h hR => eT hC (fun s h => B.al (s 55) (B.pv (V.zd 2 (s 55)) fun v27 => B.pv (V.zi v27) fun v28 => zg (zde.l3 C N Q v27 v28 (s 55)) [(s 3), (.int .i64 0)] h)) hR (fun s h hR => eS hC (fun s h => zde.k1 C N Q (s 3) (s 55) h) (eT hC (fun s h => zg (zde.l3 C N Q (s 27) (s 28) (s 55)) [(s 3), (s 29)] h) hR (fun s h hR => eK (eL hC [27, 28, 55] [3, 29] (on3 (zde.l3 C N Q)) hR (fun Y1 s h hR => e1 hR)))) (fun s h hR => e1 hR)))))
theorem zde.imp : zde.Imp (AC P) N := fun v0 h Q hR => eF mixed (fn := Tryz.f102) (fun hC => zde.L hC (dn Q) (zw [v0]) h hR)
def zew.I : Bx := ⟨[1], [3, 7, 12, 17, 18, 20, 21, 26, 31], 35, []⟩
theorem zew.L : LkT P zew.I Tryz.f103 fun C Q s h => zew.cps C N (s 0) h Q := fun {C} hC Q s h hR => e1 hR
theorem zew.imp : zew.Imp (AC P) N := fun v0 h Q hR => eF mixed (fn := Tryz.f103) (fun hC => zew.L hC (dn Q) (zw [v0]) h hR)
def zeg.I : Bx := ⟨[1], [3, 7, 13, 18, 23, 28, 33, 38, 42, 46, 50, 53, 57, 61, 65, 70, 75], 79, []⟩
theorem zeg.L : LkT P zeg.I Tryz.f104 fun C Q s h => zeg.cps C N (s 0) h Q := fun {C} hC Q s h hR => e1 hR
theorem zeg.imp : zeg.Imp (AC P) N := fun v0 h Q hR => eF mixed (fn := Tryz.f104) (fun hC => zeg.L hC (dn Q) (zw [v0]) h hR)
def zh.I : Bx := ⟨[], [], 36, []⟩
theorem zh.L : LkT P zh.I Tryz.f105 fun C Q s h => zh.cps C N (s 0) h Q := fun {C} hC Q s h hR => eT hC (fun s h => B.pv (V.zi (s 0)) fun v10 => zg (zh.l4 C N Q (s 0) (s 0) v10) [(.int .i64 0), (.int .i64 0)] h) hR (fun s h hR => eT hC (fun s h => B.pv (V.zi (s 0)) fun v10 => zg (zh.l4 C N Q (s 0) (s 0) v10) [(s 3), (.int .i64 0)] h) hR (fun s h hR => eS hC (fun s h => B.call C (N 444) [.nils, (s 3)] h fun v24 h => B.pv (V.zi (s 0)) fun v26 => zg (zh.l2 C N Q (s 0) v26) [v24, (.int .i64 0)] h) (eT hC (fun s h => zg (zh.l4 C N Q (s 0) (s 9) (s 10)) [(s 3), (s 11)] h) hR (fun s h hR => eK (eL hC [0, 9, 10] [3, 11] (on3 (zh.l4 C N Q)) hR (fun Y2 s h hR => e1 hR)))) (fun s h hR => eT hC (fun s h => B.pv (V.zi (s 0)) fun v26 => zg (zh.l2 C N Q (s 0) v26) [(s 6), (.int .i64 0)] h) hR (fun s h hR => eS hC (fun s h => Q (s 6) h) (eT hC (fun s h => zg (zh.l2 C N Q (s 25) (s 26)) [(s 6), (s 27)] h) hR (fun s h hR => eK (eL hC [25, 26] [6, 27] (on2 (zh.l2 C N Q)) hR (fun Y1 s h hR => e1 hR)))) (fun s h hR => e1 hR)))))
theorem zh.imp : zh.Imp (AC P) N := fun v0 h Q hR => eF mixed (fn := Tryz.f105) (fun hC => zh.L hC (dn Q) (zw [v0]) h hR)
def zb3.I : Bx := ⟨[], [], 40, []⟩
theorem zb3.L : LkT P zb3.I Tryz.f106 fun C Q s h => zb3.cps C N (s 0) h Q := fun {C} hC Q s h hR => eT hC (fun s h => B.zhj h (s 0) fun v6 h => zg (zb3.l3 C N Q (s 0) v6) [] h) hR (fun s h hR => eS hC (fun s h => zb3.k1 C N Q (s 0) h) (eT hC (fun s h => zg (zb3.l3 C N Q (s 0) (s 6)) [] h) hR (fun s h hR => eK (eL hC [0, 6] [] (on2 (zb3.l3 C N Q)) hR (fun Y1 s h hR => e1 hR)))) (fun s h hR => e1 hR))
theorem zb3.imp : zb3.Imp (AC P) N := fun v0 h Q hR => eF mixed (fn := Tryz.f106) (fun hC => zb3.L hC (dn Q) (zw [v0]) h hR)
def zf9.I : Bx := ⟨[], [], 9, []⟩
theorem zf9.L : LkT P zf9.I Tryz.f107 fun C Q s h => zf9.cps C N (s 0) (s 1) h Q := fun {C} hC Q s h hR => e1 hR
theorem zf9.imp : zf9.Imp (AC P) N := fun v0 v1 h Q hR => eF mixed (fn := Tryz.f107) (fun hC => zf9.L hC (dn Q) (zw [v0, v1]) h hR)
def zdk.I : Bx := ⟨[2, 3], [9, 11, 16, 18], 22, []⟩
theorem zdk.L : LkT P zdk.I Tryz.f108 fun C Q s h => zdk.cps C N (s 0) (s 1) h Q := fun {C} hC Q s h hR => e1 hR
theorem zdk.imp : zdk.Imp (AC P) N := fun v0 v1 h Q hR => eF mixed (fn := Tryz.f108) (fun hC => zdk.L hC (dn Q) (zw [v0, v1]) h hR)
def zc5.I : Bx := ⟨[2, 3], [5, 7, 11, 13, 18, 20, 25, 27], 31, []⟩
theorem zc5.L : LkT P zc5.I Tryz.f109 fun C Q s h => zc5.cps C N (s 0) (s 1) h Q := fun {C} hC Q s h hR => e1 hR
theorem zc5.imp : zc5.Imp (AC P) N := fun v0 v1 h Q hR => eF mixed (fn := Tryz.f109) (fun hC => zc5.L hC (dn Q) (zw [v0, v1]) h hR)
def zdi.I : Bx := ⟨[1], [2, 5], 8, []⟩
theorem zdi.L : LkT P zdi.I Tryz.f110 fun C Q s h => zdi.cps C N (s 0) h Q := fun {C} hC Q s h hR => e1 hR
theorem zdi.imp : zdi.Imp (AC P) N := fun v0 h Q hR => eF mixed (fn := Tryz.f110) (fun hC => zdi.L hC (dn Q) (zw [v0]) h hR)
def zef.I : Bx := ⟨[1], [3, 8, 10, 16, 20, 24, 28, 32, 34], 39, []⟩
theorem zef.L : LkT P zef.I Tryz.f111 fun C Q s h => zef.cps C N (s 0) h Q := fun {C} hC Q s h hR => e1 hR
theorem zef.imp : zef.Imp (AC P) N := fun v0 h Q hR => eF mixed (fn := Tryz.f111) (fun hC => zef.L hC (dn Q) (zw [v0]) h hR)
def zd3.I : Bx := ⟨[1], [3, 7, 12, 13, 18, 19, 21, 22, 27, 28, 33, 38], 42, []⟩
theorem zd3.L : LkT P zd3.I Tryz.f112 fun C Q s h => zd3.cps C N (s 0) h Q := fun {C} hC Q s h hR => e1 hR
theorem zd3.imp : zd3.Imp (AC P) N := fun v0 h Q hR => eF mixed (fn := Tryz.f112) (fun hC => zd3.L hC (dn Q) (zw [v0]) h hR)
def zd2.I : Bx := ⟨[1], [5, 9, 15, 20, 25, 30, 35, 40, 44, 48, 52, 56, 61, 65], 79, []⟩
theorem zd2.L : LkT P zd2.I Tryz.f113 fun C Q s h => zd2.cps C N (s 0) h Q := fun {C} hC Q s h hR => e1 hR
theorem zd2.imp : zd2.Imp (AC P) N := fun v0 h Q hR => eF mixed (fn := Tryz.f113) (fun hC => zd2.L hC (dn Q) (zw [v0]) h hR)
def zen.I : Bx := ⟨[], [], 16, []⟩
theorem zen.L : LkT P zen.I Tryz.f114 fun C Q s h => zen.cps C N (s 0) h Q := fun {C} hC Q s h hR => e1 hR
theorem zen.imp : zen.Imp (AC P) N := fun v0 h Q hR => eF mixed (fn := Tryz.f114) (fun hC => zen.L hC (dn Q) (zw [v0]) h hR)
def zdo.I : Bx := ⟨[3], [5, 9], 12, []⟩
theorem zdo.L : LkT P zdo.I Tryz.f115 fun C Q s h => zdo.cps C N (s 0) (s 1) h Q := fun {C} hC Q s h hR => e1 hR
theorem zdo.imp : zdo.Imp (AC P) N := fun v0 v1 h Q hR => eF mixed (fn := Tryz.f115) (fun hC => zdo.L hC (dn Q) (zw [v0, v1]) h hR)
def ze8.I : Bx := ⟨[], [], 200, [(7, pz [(7, [3])] 11), (24, pz [(9, [3, 6]), (31, [25, 28])] 37), (41, pz [(9, [3, 6]), (23, [17, 20])] 28)]⟩
def zfv.I : Bx := ⟨[], [], 193, [(7, pz [(7, [3])] 10), (24, pz [(9, [3, 6]), (30, [24, 27])] 35), (41, pz [(9, [3, 6]), (22, [16, 19])] 26)]⟩
def zfh.I : Bx := ⟨[], [], 193, [(7, pz [(7, [3])] 10), (24, pz [(9, [3, 6]), (30, [24, 27])] 35), (41, pz [(9, [3, 6]), (22, [16, 19])] 26)]⟩
def zfb.I : Bx := ⟨[], [], 193, [(7, pz [(7, [3])] 10), (24, pz [(9, [3, 6]), (30, [24, 27])] 35), (41, pz [(9, [3, 6]), (22, [16, 19])] 26)]⟩
def zei.I : Bx := ⟨[], [], 193, [(7, pz [(7, [3])] 10), (24, pz [(9, [3, 6]), (30, [24, 27])] 35), (41, pz [(9, [3, 6]), (22, [16, 19])] 26)]⟩
theorem zei.L : LkT P zei.I Tryz.f120 fun C Q s h => zei.cps C N (s 0) h Q := fun {C} hC Q s h hR => eT hC (fun s h => zg (zcf.l103 (opsS 1 (.int .u8 0) (N 64)) C Q (s 0)) [(.int .i64 0)] h) hR (fun s h hR => eS hC (fun s h => B.pv (V.zi (s 0)) fun v41 => 0 < 1 ∧ B.mks h 24 (some [.nils]) v41 v41 fun v42 h => zg (zcf.l82 (opsS 1 (.int .u8 0) (N 64)) C Q (s 0) v42) [(.int .i64 0)] h) (eT hC (fun s h => zg (zcf.l103 (opsS 1 (.int .u8 0) (N 64)) C Q (s 0)) [(s 3)] h) hR (fun s h hR => eK (eL hC [0] [3] (on1 (zcf.l103 (opsS 1 (.int .u8 0) (N 64)) C Q)) hR (fun Y9 s h hR => eT hC (fun s h => zg (zcf.l93 (opsS 1 (.int .u8 0) (N 64)) C Q Y9 (s 0) (s 3)) [(.int .i64 0)] h) hR (fun s h hR => eS hC (fun s h => B.pv (V.bin .add (s 3) (.int .i64 1)) fun v21 => Y9 [v21] h) (eK (eT hC (fun s h => zg (zcf.l93 (opsS 1 (.int .u8 0) (N 64)) C Q Y9 (s 0) (s 3)) [(s 4)] h) hR (fun s h hR => eK (eL hC [0, 3] [4] (on2 (zcf.l93 (opsS 1 (.int .u8 0) (N 64)) C Q Y9)) hR (fun Y10 s h hR => e1 hR))))) (fun s h hR => e1 hR)))))) (fun s h hR => eT hC (fun s h => zg (zcf.l82 (opsS 1 (.int .u8 0) (N 64)) C Q (s 0) (s 5)) [(.int .i64 0)] h) hR (fun s h hR => eS hC (fun s h => zg (zcf.l59 (opsS 1 (.int .u8 0) (N 64)) C Q (s 0) (s 5)) [(.int .i64 0)] h) (eT hC (fun s h => zg (zcf.l82 (opsS 1 (.int .u8 0) (N 64)) C Q (s 0) (s 5)) [(s 6)] h) hR (fun s h hR => eK (eL hC [0, 5] [6] (on2 (zcf.l82 (opsS 1 (.int .u8 0) (N 64)) C Q)) hR (fun Y7 s h hR => eT hC (fun s h => B.pv (V.idxS 1 (s 0) (s 6)) fun v51 => B.ld h v51 fun v52 => zg (zcf.l69 (opsS 1 (.int .u8 0) (N 64)) C Q Y7 (s 0) (s 5) (s 6)) [v52, (.int .i64 0)] h) hR (fun s h hR => eS hC (fun s h => B.pv (V.bin .add (s 6) (.int .i64 1)) fun v48 => Y7 [v48] h) (eK (eT hC (fun s h => zg (zcf.l69 (opsS 1 (.int .u8 0) (N 64)) C Q Y7 (s 0) (s 5) (s 6)) [(s 7), (.int .i64 0)] h) hR (fun s h hR => eS hC (fun s h => B.pv (V.idxS 1 (s 5) (s 6)) fun v72 => B.st h v72 (s 7) fun h => B.pv (V.bin .add (s 6) (.int .i64 1)) fun v48 => Y7 [v48] h) (eT hC (fun s h => zg (zcf.l69 (opsS 1 (.int .u8 0) (N 64)) C Q Y7 (s 0) (s 5) (s 6)) [(s 7), (s 8)] h) hR (fun s h hR => eK (eL hC [0, 5, 6] [7, 8] (on3 (zcf.l69 (opsS 1 (.int .u8 0) (N 64)) C Q Y7)) hR (fun Y8 s h hR => e1 hR)))) (fun s h hR => e1 hR)))) (fun s h hR => e1 hR)))))) (fun s h hR => eS hC (fun s h => zg (zcf.l40 (opsS 1 (.int .u8 0) (N 64)) C Q (s 0) (s 5)) [(.int .i64 0)] h) (eT hC (fun s h => zg (zcf.l59 (opsS 1 (.int .u8 0) (N 64)) C Q (s 0) (s 5)) [(s 9)] h) hR (fun s h hR => eK (eL hC [0, 5] [9] (on2 (zcf.l59 (opsS 1 (.int .u8 0) (N 64)) C Q)) hR (fun Y5 s h hR => eT hC (fun s h => zg (zcf.l49 (opsS 1 (.int .u8 0) (N 64)) C Q Y5 (s 0) (s 5) (s 9)) [(.int .i64 0)] h) hR (fun s h hR => eS hC (fun s h => B.pv (V.bin .add (s 9) (.int .i64 1)) fun v78 => Y5 [v78] h) (eK (eT hC (fun s h => zg (zcf.l49 (opsS 1 (.int .u8 0) (N 64)) C Q Y5 (s 0) (s 5) (s 9)) [(s 10)] h) hR (fun s h hR => eK (eL hC [0, 5, 9] [10] (on3 (zcf.l49 (opsS 1 (.int .u8 0) (N 64)) C Q Y5)) hR (fun Y6 s h hR => e1 hR))))) (fun s h hR => e1 hR)))))) (fun s h hR => eS hC (fun s h => zg (zcf.l15 (opsS 1 (.int .u8 0) (N 64)) C Q (s 0) (s 5)) [(.int .i64 0)] h) (eT hC (fun s h => zg (zcf.l40 (opsS 1 (.int .u8 0) (N 64)) C Q (s 0) (s 5)) [(s 11)] h) hR (fun s h hR => eK (eL hC [0, 5] [11] (on2 (zcf.l40 (opsS 1 (.int .u8 0) (N 64)) C Q)) hR (fun Y3 s h hR => eT hC (fun s h => 0 < 1 ∧ B.mks h 1 (some [.int .u8 0]) (.int .i64 64) (.int .i64 64) fun v129 h => zg (zcf.l26 (opsS 1 (.int .u8 0) (N 64)) C Q Y3 (s 0) (s 5) (s 11) v129) [(.int .i64 0)] h) hR (fun s h hR => eS hC (fun s h => B.pv (V.bin .add (s 11) (.int .i64 1)) fun v128 => Y3 [v128] h) (eK (eT hC (fun s h => zg (zcf.l26 (opsS 1 (.int .u8 0) (N 64)) C Q Y3 (s 0) (s 5) (s 11) (s 12)) [(.int .i64 0)] h) hR (fun s h hR => eS hC (fun s h => zcf.k22 (opsS 1 (.int .u8 0) (N 64)) C Q Y3 (s 0) (s 5) (s 11) (s 12) h) (eT hC (fun s h => zg (zcf.l26 (opsS 1 (.int .u8 0) (N 64)) C Q Y3 (s 0) (s 5) (s 11) (s 12)) [(s 13)] h) hR (fun s h hR => eK (eL hC [0, 5, 11, 12] [13] (on4 (zcf.l26 (opsS 1 (.int .u8 0) (N 64)) C Q Y3)) hR (fun Y4 s h hR => e1 hR)))) (fun s h hR => e1 hR)))) (fun s h hR => e1 hR)))))) (fun s h hR => eS hC (fun s h => Q (.bool true) h) (eT hC (fun s h => zg (zcf.l15 (opsS 1 (.int .u8 0) (N 64)) C Q (s 0) (s 5)) [(s 14)] h) hR (fun s h hR => eK (eL hC [0, 5] [14] (on2 (zcf.l15 (opsS 1 (.int .u8 0) (N 64)) C Q)) hR (fun Y1 s h hR => eT hC (fun s h => zg (zcf.l5 (opsS 1 (.int .u8 0) (N 64)) C Q Y1 (s 0) (s 5) (s 14)) [(.int .i64 0)] h) hR (fun s h hR => eS hC (fun s h => B.pv (V.bin .add (s 14) (.int .i64 1)) fun v157 => Y1 [v157] h) (eK (eT hC (fun s h => zg (zcf.l5 (opsS 1 (.int .u8 0) (N 64)) C Q Y1 (s 0) (s 5) (s 14)) [(s 15)] h) hR (fun s h hR => eK (eL hC [0, 5, 14] [15] (on3 (zcf.l5 (opsS 1 (.int .u8 0) (N 64)) C Q Y1)) hR (fun Y2 s h hR => e1 hR))))) (fun s h hR => e1 hR)))))) (fun s h hR => e1 hR)))))))
theorem zei.imp : zei.Imp (AC P) N := fun v0 h Q hR => eF mixed (fn := Tryz.f120) (fun hC => zei.L hC (dn Q) (zw [v0]) h hR)
def zep.I : Bx := ⟨[], [], 193, [(7, pz [(7, [3])] 10), (24, pz [(9, [3, 6]), (30, [24, 27])] 35), (41, pz [(9, [3, 6]), (22, [16, 19])] 26)]⟩
def zfu.I : Bx := ⟨[], [], 193, [(7, pz [(7, [3])] 10), (24, pz [(9, [3, 6]), (30, [24, 27])] 35), (41, pz [(9, [3, 6]), (22, [16, 19])] 26)]⟩
def ze9.I : Bx := ⟨[], [], 193, [(7, pz [(7, [3])] 10), (24, pz [(9, [3, 6]), (30, [24, 27])] 35), (41, pz [(9, [3, 6]), (22, [16, 19])] 26)]⟩
def zft.I : Bx := ⟨[], [], 193, [(7, pz [(7, [3])] 10), (24, pz [(9, [3, 6]), (30, [24, 27])] 35), (41, pz [(9, [3, 6]), (22, [16, 19])] 26)]⟩
def zff.I : Bx := ⟨[], [], 193, [(7, pz [(7, [3])] 10), (24, pz [(9, [3, 6]), (30, [24, 27])] 35), (41, pz [(9, [3, 6]), (22, [16, 19])] 26)]⟩
def zfj.I : Bx := ⟨[], [], 193, [(7, pz [(7, [3])] 10), (24, pz [(9, [3, 6]), (30, [24, 27])] 35), (41, pz [(9, [3, 6]), (22, [16, 19])] 26)]⟩
def zfi.I : Bx := ⟨[], [], 193, [(7, pz [(7, [3])] 10), (24, pz [(9, [3, 6]), (30, [24, 27])] 35), (41, pz [(9, [3, 6]), (22, [16, 19])] 26)]⟩
def zfw.I : Bx := ⟨[], [], 193, [(7, pz [(7, [3])] 10), (24, pz [(9, [3, 6]), (30, [24, 27])] 35), (41, pz [(9, [3, 6]), (22, [16, 19])] 26)]⟩
def zfc.I : Bx := ⟨[], [], 193, [(7, pz [(7, [3])] 10), (24, pz [(9, [3, 6]), (30, [24, 27])] 35), (41, pz [(9, [3, 6]), (22, [16, 19])] 26)]⟩
def zez.I : Bx := ⟨[], [], 193, [(7, pz [(7, [3])] 10), (24, pz [(9, [3, 6]), (30, [24, 27])] 35), (41, pz [(9, [3, 6]), (22, [16, 19])] 26)]⟩
def zt.I : Bx := ⟨[], [], 193, [(7, pz [(7, [3])] 10), (24, pz [(9, [3, 6]), (30, [24, 27])] 35), (41, pz [(9, [3, 6]), (22, [16, 19])] 26)]⟩
abbrev zt.E (C : CSem) : zf0 := opsD C 2 48 [.nils, .nils] (N 117) (N 118)
theorem zt.L : LkT P zt.I Tryz.f131 fun C Q s h => zt.cps C N (s 0) h Q := fun {C} hC Q s h hR => eT hC (fun s h => zg (zcf.l103 (zt.E C) C Q (s 0)) [(.int .i64 0)] h) hR (fun s h hR => eS hC (fun s h => B.pv (V.zi (s 0)) fun v41 => 0 < 1 ∧ B.mks h 24 (some [.nils]) v41 v41 fun v42 h => zg (zcf.l82 (zt.E C) C Q (s 0) v42) [(.int .i64 0)] h) (eT hC (fun s h => zg (zcf.l103 (zt.E C) C Q (s 0)) [(s 3)] h) hR (fun s h hR => eK (eL hC [0] [3] (on1 (zcf.l103 (zt.E C) C Q)) hR (fun Y9 s h hR => eT hC (fun s h => zg (zcf.l93 (zt.E C) C Q Y9 (s 0) (s 3)) [(.int .i64 0)] h) hR (fun s h hR => eS hC (fun s h => B.pv (V.bin .add (s 3) (.int .i64 1)) fun v21 => Y9 [v21] h) (eK (eT hC (fun s h => zg (zcf.l93 (zt.E C) C Q Y9 (s 0) (s 3)) [(s 4)] h) hR (fun s h hR => eK (eL hC [0, 3] [4] (on2 (zcf.l93 (zt.E C) C Q Y9)) hR (fun Y10 s h hR => e1 hR))))) (fun s h hR => e1 hR)))))) (fun s h hR => eT hC (fun s h => zg (zcf.l82 (zt.E C) C Q (s 0) (s 5)) [(.int .i64 0)] h) hR (fun s h hR => eS hC (fun s h => zg (zcf.l59 (zt.E C) C Q (s 0) (s 5)) [(.int .i64 0)] h) (eT hC (fun s h => zg (zcf.l82 (zt.E C) C Q (s 0) (s 5)) [(s 6)] h) hR (fun s h hR => eK (eL hC [0, 5] [6] (on2 (zcf.l82 (zt.E C) C Q)) hR (fun Y7 s h hR => eT hC (fun s h => B.pv (V.idxS 1 (s 0) (s 6)) fun v51 => B.ld h v51 fun v52 => zg (zcf.l69 (zt.E C) C Q Y7 (s 0) (s 5) (s 6)) [v52, (.int .i64 0)] h) hR (fun s h hR => eS hC (fun s h => B.pv (V.bin .add (s 6) (.int .i64 1)) fun v48 => Y7 [v48] h) (eK (eT hC (fun s h => zg (zcf.l69 (zt.E C) C Q Y7 (s 0) (s 5) (s 6)) [(s 7), (.int .i64 0)] h) hR (fun s h hR => eS hC (fun s h => B.pv (V.idxS 1 (s 5) (s 6)) fun v72 => B.st h v72 (s 7) fun h => B.pv (V.bin .add (s 6) (.int .i64 1)) fun v48 => Y7 [v48] h) (eT hC (fun s h => zg (zcf.l69 (zt.E C) C Q Y7 (s 0) (s 5) (s 6)) [(s 7), (s 8)] h) hR (fun s h hR => eK (eL hC [0, 5, 6] [7, 8] (on3 (zcf.l69 (zt.E C) C Q Y7)) hR (fun Y8 s h hR => e1 hR)))) (fun s h hR => e1 hR)))) (fun s h hR => e1 hR)))))) (fun s h hR => eS hC (fun s h => zg (zcf.l40 (zt.E C) C Q (s 0) (s 5)) [(.int .i64 0)] h) (eT hC (fun s h => zg (zcf.l59 (zt.E C) C Q (s 0) (s 5)) [(s 9)] h) hR (fun s h hR => eK (eL hC [0, 5] [9] (on2 (zcf.l59 (zt.E C) C Q)) hR (fun Y5 s h hR => eT hC (fun s h => zg (zcf.l49 (zt.E C) C Q Y5 (s 0) (s 5) (s 9)) [(.int .i64 0)] h) hR (fun s h hR => eS hC (fun s h => B.pv (V.bin .add (s 9) (.int .i64 1)) fun v78 => Y5 [v78] h) (eK (eT hC (fun s h => zg (zcf.l49 (zt.E C) C Q Y5 (s 0) (s 5) (s 9)) [(s 10)] h) hR (fun s h hR => eK (eL hC [0, 5, 9] [10] (on3 (zcf.l49 (zt.E C) C Q Y5)) hR (fun Y6 s h hR => e1 hR))))) (fun s h hR => e1 hR)))))) (fun s h hR => eS hC (fun s h => zg (zcf.l15 (zt.E C) C Q (s 0) (s 5)) [(.int .i64 0)] h) (eT hC (fun s h => zg (zcf.l40 (zt.E C) C Q (s 0) (s 5)) [(s 11)] h) hR (fun s h hR => eK (eL hC [0, 5] [11] (on2 (zcf.l40 (zt.E C) C Q)) hR (fun Y3 s h hR => eT hC (fun s h => 0 < 2 ∧ B.mks h 48 (some [.nils, .nils]) (.int .i64 64) (.int .i64 64) fun v129 h => zg (zcf.l26 (zt.E C) C Q Y3 (s 0) (s 5) (s 11) v129) [(.int .i64 0)] h) hR (fun s h hR => eS hC (fun s h => B.pv (V.bin .add (s 11) (.int .i64 1)) fun v128 => Y3 [v128] h) (eK (eT hC (fun s h => zg (zcf.l26 (zt.E C) C Q Y3 (s 0) (s 5) (s 11) (s 12)) [(.int .i64 0)] h) hR (fun s h hR => eS hC (fun s h => zcf.k22 (zt.E C) C Q Y3 (s 0) (s 5) (s 11) (s 12) h) (eT hC (fun s h => zg (zcf.l26 (zt.E C) C Q Y3 (s 0) (s 5) (s 11) (s 12)) [(s 13)] h) hR (fun s h hR => eK (eL hC [0, 5, 11, 12] [13] (on4 (zcf.l26 (zt.E C) C Q Y3)) hR (fun Y4 s h hR => e1 hR)))) (fun s h hR => e1 hR)))) (fun s h hR => e1 hR)))))) (fun s h hR => eS hC (fun s h => Q (.bool true) h) (eT hC (fun s h => zg (zcf.l15 (zt.E C) C Q (s 0) (s 5)) [(s 14)] h) hR (fun s h hR => eK (eL hC [0, 5] [14] (on2 (zcf.l15 (zt.E C) C Q)) hR (fun Y1 s h hR => eT hC (fun s h => zg (zcf.l5 (zt.E C) C Q Y1 (s 0) (s 5) (s 14)) [(.int .i64 0)] h) hR (fun s h hR => eS hC (fun s h => B.pv (V.bin .add (s 14) (.int .i64 1)) fun v157 => Y1 [v157] h) (eK (eT hC (fun s h => zg (zcf.l5 (zt.E C) C Q Y1 (s 0) (s 5) (s 14)) [(s 15)] h) hR (fun s h hR => eK (eL hC [0, 5, 14] [15] (on3 (zcf.l5 (zt.E C) C Q Y1)) hR (fun Y2 s h hR => e1 hR))))) (fun s h hR => e1 hR)))))) (fun s h hR => e1 hR)))))))
theorem zt.imp : zt.Imp (AC P) N := fun v0 h Q hR => eF mixed (fn := Tryz.f131) (fun hC => zt.L hC (dn Q) (zw [v0]) h hR)
def zfa.I : Bx := ⟨[], [], 193, [(7, pz [(7, [3])] 10), (24, pz [(9, [3, 6]), (30, [24, 27])] 35), (41, pz [(9, [3, 6]), (22, [16, 19])] 26)]⟩
def zfk.I : Bx := ⟨[], [], 193, [(7, pz [(7, [3])] 10), (24, pz [(9, [3, 6]), (30, [24, 27])] 35), (41, pz [(9, [3, 6]), (22, [16, 19])] 26)]⟩
def zer.I : Bx := ⟨[], [], 193, [(7, pz [(7, [3])] 10), (24, pz [(9, [3, 6]), (30, [24, 27])] 35), (41, pz [(9, [3, 6]), (22, [16, 19])] 26)]⟩
def zfg.I : Bx := ⟨[], [], 193, [(7, pz [(7, [3])] 10), (24, pz [(9, [3, 6]), (30, [24, 27])] 35), (41, pz [(9, [3, 6]), (22, [16, 19])] 26)]⟩
def zeq.I : Bx := ⟨[], [], 193, [(7, pz [(7, [3])] 10), (24, pz [(9, [3, 6]), (30, [24, 27])] 35), (41, pz [(9, [3, 6]), (22, [16, 19])] 26)]⟩
def zfe.I : Bx := ⟨[], [], 193, [(7, pz [(7, [3])] 10), (24, pz [(9, [3, 6]), (30, [24, 27])] 35), (41, pz [(9, [3, 6]), (22, [16, 19])] 26)]⟩
def zfd.I : Bx := ⟨[], [], 193, [(7, pz [(7, [3])] 10), (24, pz [(9, [3, 6]), (30, [24, 27])] 35), (41, pz [(9, [3, 6]), (22, [16, 19])] 26)]⟩
def zc9.I : Bx := ⟨[], [], 12, []⟩
theorem zc9.L : LkT P zc9.I Tryz.f140 fun C Q s h => zc9.cps C N (s 0) (s 1) h Q := fun {C} hC Q s h hR => e1 hR
theorem zc9.imp : zc9.Imp (AC P) N := fun v0 v1 h Q hR => eF mixed (fn := Tryz.f140) (fun hC => zc9.L hC (dn Q) (zw [v0, v1]) h hR)
theorem zif.imp : zif.Imp (AC P) N := fun x y a b S T h Q hx hy hq => zr0 (fn := Tryz.f141) (by kernel_rfl) (by kernel_rfl) (by kernel_rfl) (by kernel_rfl) (by kernel_rfl) hx hy hq
def zby.I : Bx := ⟨[], [], 34, []⟩
theorem zby.L : LkT P zby.I Tryz.f142 fun C Q s h => zby.cps C N (s 0) h Q := fun {C} hC Q s h hR => e1 hR
theorem zby.imp : zby.Imp (AC P) N := fun v0 h Q hR => eF mixed (fn := Tryz.f142) (fun hC => zby.L hC (dn Q) (zw [v0]) h hR)
def zbp.I : Bx := ⟨[1, 5, 7], [8, 12, 17, 22, 27, 30, 37, 41, 46, 51, 55, 60, 65, 69, 76, 81, 87, 92, 103, 110, 114, 119], 124, []⟩
theorem zbp.L : LkT P zbp.I Tryz.f149 fun C Q s h => zbp.cps C N (s 0) h Q := fun {C} hC Q s h hR => eT hC (fun s h => zbp.k6 C N Q (s 125) h) hR (fun s h hR => eT hC (fun s h => zbp.k5 C N Q (s 3) (s 125) h) hR (fun s h hR => eT hC (fun s h => B.al (s 125) (B.pv (V.zd 5 (s 125)) fun v93 => B.pv (V.zi v93) fun v94 => zg (zbp.l4 C N Q v93 v94 (s 125)) [(.int .i64 0)] h)) hR (fun s h hR => eS hC (fun s h => B.al (s 125) (B.pv (V.zd 6 (s 125)) fun v104 => B.pv (V.zi v104) fun v105 => zg (zbp.l2 C N Q v104 v105) [(.int .i64 0)] h)) (eT hC (fun s h => zg (zbp.l4 C N Q (s 93) (s 94) (s 125)) [(s 95)] h) hR (fun s h hR => eK (eL hC [93, 94, 125] [95] (on3 (zbp.l4 C N Q)) hR (fun Y2 s h hR => e1 hR)))) (fun s h hR => eS hC (fun s h => Q (.bool true) h) (eT hC (fun s h => zg (zbp.l2 C N Q (s 104) (s 105)) [(s 106)] h) hR (fun s h hR => eK (eL hC [104, 105] [106] (on2 (zbp.l2 C N Q)) hR (fun Y1 s h hR => e1 hR)))) (fun s h hR => e1 hR)))))
theorem zbp.imp : zbp.Imp (AC P) N := fun v0 h Q hR => eF mixed (fn := Tryz.f149) (fun hC => zbp.L hC (dn Q) (zw [v0]) h hR)
def zey.I : Bx := ⟨[], [], 23, []⟩
theorem zey.L : LkT P zey.I Tryz.f150 fun C Q s h => zey.cps C N (s 0) (s 1) (s 2) h Q := fun {C} hC Q s h hR => eT hC (fun s h => B.pv (V.bin .sub (s 2) (.int .i64 1)) fun v9 => zg (zey.l2 C N Q (s 1)) [(s 0), v9] h) hR (fun s h hR => eS hC (fun s h => Q (s 0) h) (eT hC (fun s h => zg (zey.l2 C N Q (s 1)) [(s 0), (s 7)] h) hR (fun s h hR => eK (eL hC [1] [0, 7] (on1 (zey.l2 C N Q)) hR (fun Y1 s h hR => e1 hR)))) (fun s h hR => e1 hR))
theorem zey.imp : zey.Imp (AC P) N := fun v0 v1 v2 h Q hR => eF mixed (fn := Tryz.f150) (fun hC => zey.L hC (dn Q) (zw [v0, v1, v2]) h hR)
def zo.I : Bx := ⟨[], [], 31, [(3, pz [] 7)]⟩
theorem zo.L : LkT P zo.I Tryz.f151 fun C Q s h => zo.cps C N (s 0) (s 1) (s 2) h Q := fun {C} hC Q s h hR => eT hC (fun s h => zg (zo.l2 C N Q (s 0) (s 1) (s 2)) [(s 4)] h) hR (fun s h hR => eK (eL hC [0, 1, 2] [4] (on3 (zo.l2 C N Q)) hR (fun Y1 s h hR => e1 hR)))
theorem zo.imp : zo.Imp (AC P) N := fun v0 v1 v2 h Q hR => eF mixed (fn := Tryz.f151) (fun hC => zo.L hC (dn Q) (zw [v0, v1, v2]) h hR)
def zm.I : Bx := ⟨[], [], 68, [(1, pz [] 22), (5, pz [] 17)]⟩
theorem zm.L : LkT P zm.I Tryz.f152 fun C Q s h => zm.cps C N (s 0) (s 1) h Q := fun {C} hC Q s h hR => eT hC (fun s h => zm.k5 C N Q (s 0) (s 1) h) hR (fun s h hR => eT hC (fun s h => zm.k4 C N Q (s 0) (s 1) (.int .i64 0) h) hR (fun s h hR => eT hC (fun s h => zm.k4 C N Q (s 0) (s 1) (s 5) h) hR (fun s h hR => eS hC (fun s h => zm.k1 C N Q (s 0) (s 1) (s 5) h) (eT hC (fun s h => zg (zm.l3 C N Q (s 0) (s 1) (s 47) (s 48)) [(s 5), (s 49)] h) hR (fun s h hR => eK (eL hC [0, 1, 47, 48] [5, 49] (on4 (zm.l3 C N Q)) hR (fun Y1 s h hR => e1 hR)))) (fun s h hR => e1 hR))))
theorem zm.imp : zm.Imp (AC P) N := fun v0 v1 h Q hR => eF mixed (fn := Tryz.f152) (fun hC => zm.L hC (dn Q) (zw [v0, v1]) h hR)
def zbs.I : Bx := ⟨[], [], 38, [(3, pz [] 17)]⟩
theorem zbs.L : LkT P zbs.I Tryz.f153 fun C Q s h => zbs.cps C N (s 0) h Q := fun {C} hC Q s h hR => e1 hR
theorem zbs.imp : zbs.Imp (AC P) N := fun v0 h Q hR => eF mixed (fn := Tryz.f153) (fun hC => zbs.L hC (dn Q) (zw [v0]) h hR)
def zbd.I : Bx := ⟨[], [], 26, []⟩
theorem zbd.L : LkT P zbd.I Tryz.f154 fun C Q s h => zbd.cps C N (s 0) (s 1) h Q := fun {C} hC Q s h hR => eT hC (fun s h => B.call C (N 65) [(s 0), (.int .i64 2)] h fun v8 h => zg (zbd.l2 C N Q (s 0) (s 1)) [.nils, v8] h) hR (fun s h hR => eT hC (fun s h => B.call C (N 65) [(s 0), (.int .i64 2)] h fun v8 h => zg (zbd.l2 C N Q (s 0) (s 1)) [(s 5), v8] h) hR (fun s h hR => eS hC (fun s h => Q (s 5) h) (eT hC (fun s h => zg (zbd.l2 C N Q (s 0) (s 1)) [(s 5), (s 6)] h) hR (fun s h hR => eK (eL hC [0, 1] [5, 6] (on2 (zbd.l2 C N Q)) hR (fun Y1 s h hR => e1 hR)))) (fun s h hR => e1 hR)))
theorem zbd.imp : zbd.Imp (AC P) N := fun v0 v1 h Q hR => eF mixed (fn := Tryz.f154) (fun hC => zbd.L hC (dn Q) (zw [v0, v1]) h hR)
def zb6.I : Bx := ⟨[2, 3], [14, 15, 16, 17, 20, 25], 38, []⟩
theorem zb6.L : LkT P zb6.I Tryz.f155 fun C Q s h => zb6.cps C N (s 0) h Q := fun {C} hC Q s h hR => e1 hR
theorem zb6.imp : zb6.Imp (AC P) N := fun v0 h Q hR => eF mixed (fn := Tryz.f155) (fun hC => zb6.L hC (dn Q) (zw [v0]) h hR)
def zbc.I : Bx := ⟨[], [], 26, []⟩
theorem zbc.L : LkT P zbc.I Tryz.f156 fun C Q s h => zbc.cps C N (s 0) (s 1) h Q := fun {C} hC Q s h hR => eT hC (fun s h => B.call C (N 65) [(s 0), (.int .i64 2)] h fun v8 h => zg (zbc.l2 C N Q (s 0) (s 1)) [.nils, v8] h) hR (fun s h hR => eT hC (fun s h => B.call C (N 65) [(s 0), (.int .i64 2)] h fun v8 h => zg (zbc.l2 C N Q (s 0) (s 1)) [(s 5), v8] h) hR (fun s h hR => eS hC (fun s h => Q (s 5) h) (eT hC (fun s h => zg (zbc.l2 C N Q (s 0) (s 1)) [(s 5), (s 6)] h) hR (fun s h hR => eK (eL hC [0, 1] [5, 6] (on2 (zbc.l2 C N Q)) hR (fun Y1 s h hR => e1 hR)))) (fun s h hR => e1 hR)))
theorem zbc.imp : zbc.Imp (AC P) N := fun v0 v1 h Q hR => eF mixed (fn := Tryz.f156) (fun hC => zbc.L hC (dn Q) (zw [v0, v1]) h hR)
def zb5.I : Bx := ⟨[2], [], 10, []⟩
theorem zb5.L : LkT P zb5.I Tryz.f157 fun C Q s h => zb5.cps C N (s 0) h Q := fun {C} hC Q s h hR => e1 hR
theorem zb5.imp : zb5.Imp (AC P) N := fun v0 h Q hR => eF mixed (fn := Tryz.f157) (fun hC => zb5.L hC (dn Q) (zw [v0]) h hR)
def zcq.I : Bx := ⟨[], [], 25, []⟩
theorem zcq.L : LkT P zcq.I Tryz.f165 fun C Q s h => zcq.cps C N (s 0) h Q := fun {C} hC Q s h hR => eT hC (fun s h => zcq.k3 C N Q (s 0) h) hR (fun s h hR => eT hC (fun s h => B.appW h 2 24 (s 3) (s 0) fun v11 h => zg (zkq.l4 C 2 24 (N 108) [.str [], .int .i64 0] 1 Q (s 0)) [v11, (.int .i64 0)] h) hR (fun s h hR => eT hC (fun s h => zg (zkq.l4 C 2 24 (N 108) [.str [], .int .i64 0] 1 Q (s 0)) [(s 3), (.int .i64 0)] h) hR (fun s h hR => eS hC (fun s h => B.pv (V.zi (s 0)) fun v23 => B.pv (V.zfs 2 (s 3) none (some v23)) fun v24 => Q v24 h) (eT hC (fun s h => zg (zkq.l4 C 2 24 (N 108) [.str [], .int .i64 0] 1 Q (s 0)) [(s 3), (s 4)] h) hR (fun s h hR => eK (eL hC [0] [3, 4] (on1 (zkq.l4 C 2 24 (N 108) [.str [], .int .i64 0] 1 Q)) hR (fun Y1 s h hR => e1 hR)))) (fun s h hR => e1 hR))))
theorem zcq.imp : zcq.Imp (AC P) N := fun v0 h Q hR => eF mixed (fn := Tryz.f165) (fun hC => zcq.L hC (dn Q) (zw [v0]) h hR)
def zcp.I : Bx := ⟨[], [], 25, []⟩
theorem zcp.L : LkT P zcp.I Tryz.f166 fun C Q s h => zcp.cps C N (s 0) h Q := fun {C} hC Q s h hR => eT hC (fun s h => zcp.k3 C N Q (s 0) h) hR (fun s h hR => eT hC (fun s h => B.appW h 1 16 (s 3) (s 0) fun v11 h => zg (zss.l4 C 16 (N 106) (.str []) 1 Q (s 0)) [v11, (.int .i64 0)] h) hR (fun s h hR => eT hC (fun s h => zg (zss.l4 C 16 (N 106) (.str []) 1 Q (s 0)) [(s 3), (.int .i64 0)] h) hR (fun s h hR => eS hC (fun s h => B.pv (V.zi (s 0)) fun v23 => B.pv (V.zfs 1 (s 3) none (some v23)) fun v24 => Q v24 h) (eT hC (fun s h => zg (zss.l4 C 16 (N 106) (.str []) 1 Q (s 0)) [(s 3), (s 4)] h) hR (fun s h hR => eK (eL hC [0] [3, 4] (on1 (zss.l4 C 16 (N 106) (.str []) 1 Q)) hR (fun Y1 s h hR => e1 hR)))) (fun s h hR => e1 hR))))
theorem zcp.imp : zcp.Imp (AC P) N := fun v0 h Q hR => eF mixed (fn := Tryz.f166) (fun hC => zcp.L hC (dn Q) (zw [v0]) h hR)
def ze7.I : Bx := ⟨[], [], 10, []⟩
theorem ze7.L : LkT P ze7.I Tryz.f167 fun C Q s h => ze7.cps C N (s 0) (s 1) h Q := fun {C} hC Q s h hR => e1 hR
theorem ze7.imp : ze7.Imp (AC P) N := fun v0 v1 h Q hR => eF mixed (fn := Tryz.f167) (fun hC => ze7.L hC (dn Q) (zw [v0, v1]) h hR)
def zdu.I : Bx := ⟨[], [], 29, []⟩
theorem zdu.L : LkT P zdu.I Tryz.f168 fun C Q s h => zdu.cps C N (s 0) (s 1) h Q := fun {C} hC Q s h hR => eT hC (fun s h => B.pv (V.zi (s 1)) fun v8 => zg (zdu.l2 C N Q (s 0) (s 1) (s 1) v8) [(.int .i64 0)] h) hR (fun s h hR => eS hC (fun s h => B.pv (V.zi (s 1)) fun v26 => B.pv (V.bin .leq v26 (s 0)) fun v28 => Q v28 h) (eT hC (fun s h => zg (zdu.l2 C N Q (s 0) (s 1) (s 7) (s 8)) [(s 9)] h) hR (fun s h hR => eK (eL hC [0, 1, 7, 8] [9] (on4 (zdu.l2 C N Q)) hR (fun Y1 s h hR => e1 hR)))) (fun s h hR => e1 hR))
theorem zdu.imp : zdu.Imp (AC P) N := fun v0 v1 h Q hR => eF mixed (fn := Tryz.f168) (fun hC => zdu.L hC (dn Q) (zw [v0, v1]) h hR)
def zdf.I : Bx := ⟨[1], [3, 7, 9, 14], 18, []⟩
theorem zdf.L : LkT P zdf.I Tryz.f169 fun C Q s h => zdf.cps C N (s 0) h Q := fun {C} hC Q s h hR => e1 hR
theorem zdf.imp : zdf.Imp (AC P) N := fun v0 h Q hR => eF mixed (fn := Tryz.f169) (fun hC => zdf.L hC (dn Q) (zw [v0]) h hR)
def zbh.I : Bx := ⟨[], [], 27, []⟩
theorem zbh.L : LkT P zbh.I Tryz.f170 fun C Q s h => zbh.cps C N (s 0) (s 1) h Q := fun {C} hC Q s h hR => eT hC (fun s h => B.pv (V.bin .lss (s 1) (.int .i64 0)) fun v6 => B.cond v6 (False) (zg0.k1 C (opsS 1 (.int .u8 0) 0) Q (s 0) (s 1) h)) hR (fun s h hR => eT hC (fun s h => zg0.k1 C (opsS 1 (.int .u8 0) 0) Q (s 0) (s 1) h) hR (fun s h hR => e1 hR))
theorem zbh.imp : zbh.Imp (AC P) N := fun v0 v1 h Q hR => eF mixed (fn := Tryz.f170) (fun hC => zbh.L hC (dn Q) (zw [v0, v1]) h hR)
def zca.I : Bx := ⟨[], [], 58, [(7, pz [(30, [25])] 35)]⟩
theorem zca.L : LkT P zca.I Tryz.f171 fun C Q s h => zca.cps C N (s 0) (s 1) h Q := fun {C} hC Q s h hR => eT hC (fun s h => zca.k4 C N Q (s 0) (s 1) h) hR (fun s h hR => eT hC (fun s h => zca.k3 C N Q (s 0) (s 1) h) hR (fun s h hR => eT hC (fun s h => zg (zl7.l4 C 2 (N 108) [.s, .i .i64] 1 Q (s 1) (s 5)) [(.int .i64 0)] h) hR (fun s h hR => eS hC (fun s h => Q (.bool true) h) (eT hC (fun s h => zg (zl7.l4 C 2 (N 108) [.s, .i .i64] 1 Q (s 1) (s 5)) [(s 6)] h) hR (fun s h hR => eK (eL hC [1, 5] [6] (on2 (zl7.l4 C 2 (N 108) [.s, .i .i64] 1 Q)) hR (fun Y1 s h hR => e1 hR)))) (fun s h hR => e1 hR))))
theorem zca.imp : zca.Imp (AC P) N := fun v0 v1 h Q hR => eF mixed (fn := Tryz.f171) (fun hC => zca.L hC (dn Q) (zw [v0, v1]) h hR)
def zb9.I : Bx := ⟨[], [], 58, [(7, pz [(30, [25])] 35)]⟩
theorem zb9.L : LkT P zb9.I Tryz.f172 fun C Q s h => zb9.cps C N (s 0) (s 1) h Q := fun {C} hC Q s h hR => eT hC (fun s h => zb9.k4 C N Q (s 0) (s 1) h) hR (fun s h hR => eT hC (fun s h => zb9.k3 C N Q (s 0) (s 1) h) hR (fun s h hR => eT hC (fun s h => zg (zuc.l4 C (N 106) 1 Q (s 1) (s 5)) [(.int .i64 0)] h) hR (fun s h hR => eS hC (fun s h => Q (.bool true) h) (eT hC (fun s h => zg (zuc.l4 C (N 106) 1 Q (s 1) (s 5)) [(s 6)] h) hR (fun s h hR => eK (eL hC [1, 5] [6] (on2 (zuc.l4 C (N 106) 1 Q)) hR (fun Y1 s h hR => e1 hR)))) (fun s h hR => e1 hR))))
theorem zb9.imp : zb9.Imp (AC P) N := fun v0 v1 h Q hR => eF mixed (fn := Tryz.f172) (fun hC => zb9.L hC (dn Q) (zw [v0, v1]) h hR)
def zcn.I : Bx := ⟨[], [], 26, [(6, pz [] 9)]⟩
theorem zcn.L : LkT P zcn.I Tryz.f173 fun C Q s h => zcn.cps C N (s 0) (s 1) h Q := fun {C} hC Q s h hR => eT hC (fun s h => zcn.k3 C N Q (s 0) (s 1) h) hR (fun s h hR => eT hC (fun s h => zg (zlx.l4 2 [.s, .i .i64] Q (s 0) (s 1)) [(.int .i64 0)] h) hR (fun s h hR => eS hC (fun s h => Q (.bool true) h) (eT hC (fun s h => zg (zlx.l4 2 [.s, .i .i64] Q (s 0) (s 1)) [(s 5)] h) hR (fun s h hR => eK (eL hC [0, 1] [5] (on2 (zlx.l4 2 [.s, .i .i64] Q)) hR (fun Y1 s h hR => e1 hR)))) (fun s h hR => e1 hR)))
theorem zcn.imp : zcn.Imp (AC P) N := fun v0 v1 h Q hR => eF mixed (fn := Tryz.f173) (fun hC => zcn.L hC (dn Q) (zw [v0, v1]) h hR)
def zcl.I : Bx := ⟨[], [], 26, [(6, pz [] 9)]⟩
theorem zcl.L : LkT P zcl.I Tryz.f174 fun C Q s h => zcl.cps C N (s 0) (s 1) h Q := fun {C} hC Q s h hR => eT hC (fun s h => zcl.k3 C N Q (s 0) (s 1) h) hR (fun s h hR => eT hC (fun s h => zg (zp3.l4  Q (s 0) (s 1)) [(.int .i64 0)] h) hR (fun s h hR => eS hC (fun s h => Q (.bool true) h) (eT hC (fun s h => zg (zp3.l4  Q (s 0) (s 1)) [(s 5)] h) hR (fun s h hR => eK (eL hC [0, 1] [5] (on2 (zp3.l4  Q)) hR (fun Y1 s h hR => e1 hR)))) (fun s h hR => e1 hR)))
theorem zcl.imp : zcl.Imp (AC P) N := fun v0 v1 h Q hR => eF mixed (fn := Tryz.f174) (fun hC => zcl.L hC (dn Q) (zw [v0, v1]) h hR)
def zcx.I : Bx := ⟨[], [], 20, []⟩
theorem zcx.L : LkT P zcx.I Tryz.f175 fun C Q s h => zcx.cps C N (s 0) h Q := fun {C} hC Q s h hR => eT hC (fun s h => zg (zjx.l3 C 2 (N 108) (fun h p v K => B.stn h p 2 v K) 2 Q (s 2)) [(.int .i64 0)] h) hR (fun s h hR => eT hC (fun s h => zg (zjx.l3 C 2 (N 108) (fun h p v K => B.stn h p 2 v K) 2 Q (s 2)) [(s 3)] h) hR (fun s h hR => eK (eL hC [2] [3] (fun kv lv h Y1 => match kv with | [v2] => zjx.l3 C 2 (N 108) (fun h p v K => B.stn h p 2 v K) 2 Q v2 lv h Y1 | _ => False) hR (fun Y1 s h hR => e1 hR))))
theorem zcx.imp : zcx.Imp (AC P) N := fun v0 h Q hR => eF mixed (fn := Tryz.f175) (fun hC => zcx.L hC (dn Q) (zw [v0]) h hR)
def zcv.I : Bx := ⟨[], [], 20, []⟩
theorem zcv.L : LkT P zcv.I Tryz.f176 fun C Q s h => zcv.cps C N (s 0) h Q := fun {C} hC Q s h hR => eT hC (fun s h => zg (zjx.l3 C 1 (N 106) (fun h p v K => B.st h p v K) 2 Q (s 2)) [(.int .i64 0)] h) hR (fun s h hR => eT hC (fun s h => zg (zjx.l3 C 1 (N 106) (fun h p v K => B.st h p v K) 2 Q (s 2)) [(s 3)] h) hR (fun s h hR => eK (eL hC [2] [3] (fun kv lv h Y1 => match kv with | [v2] => zjx.l3 C 1 (N 106) (fun h p v K => B.st h p v K) 2 Q v2 lv h Y1 | _ => False) hR (fun Y1 s h hR => e1 hR))))
theorem zcv.imp : zcv.Imp (AC P) N := fun v0 h Q hR => eF mixed (fn := Tryz.f176) (fun hC => zcv.L hC (dn Q) (zw [v0]) h hR)
def zbu.I : Bx := ⟨[], [], 56, []⟩
theorem zbu.L : LkT P zbu.I Tryz.f177 fun C Q s h => zbu.cps C N (s 0) h Q := fun {C} hC Q s h hR => eT hC (fun s h => zbu.k3 C N Q (s 0) h) hR (fun s h hR => eT hC (fun s h => zg (zbu.l2 C N Q (s 0)) [(.int .i64 0)] h) hR (fun s h hR => eS hC (fun s h => Q (.bool true) h) (eT hC (fun s h => zg (zbu.l2 C N Q (s 0)) [(s 3)] h) hR (fun s h hR => eK (eL hC [0] [3] (on1 (zbu.l2 C N Q)) hR (fun Y1 s h hR => e1 hR)))) (fun s h hR => e1 hR)))
theorem zbu.imp : zbu.Imp (AC P) N := fun v0 h Q hR => eF mixed (fn := Tryz.f177) (fun hC => zbu.L hC (dn Q) (zw [v0]) h hR)
def zd1.I : Bx := ⟨[1], [6, 14, 19, 25, 30, 34, 43, 47, 57, 62, 66, 75, 83, 87, 97, 102, 106, 115, 123, 132, 141, 151, 159, 169, 178, 180, 189], 195, [(4, [(0, []), (2, []), (3, []), (4, []), (1, [3]), (5, []), (6, []), (7, []), (8, []), (9, []), (10, []), (11, []), (12, []), (13, []), (14, []), (15, []), (16, [])])]⟩
theorem zd1.L : LkT P zd1.I Tryz.f178 fun C Q s h => zd1.cps C N (s 0) h Q := fun {C} hC Q s h hR => e1 hR
theorem zd1.imp : zd1.Imp (AC P) N := fun v0 h Q hR => eF mixed (fn := Tryz.f178) (fun hC => zd1.L hC (dn Q) (zw [v0]) h hR)
def zc1.I : Bx := ⟨[], [], 23, []⟩
theorem zc1.L : LkT P zc1.I Tryz.f179 fun C Q s h => zc1.cps C N (s 0) (s 1) h Q := fun {C} hC Q s h hR => e1 hR
theorem zc1.imp : zc1.Imp (AC P) N := fun v0 v1 h Q hR => eF mixed (fn := Tryz.f179) (fun hC => zc1.L hC (dn Q) (zw [v0, v1]) h hR)
def zc2.I : Bx := ⟨[4], [], 9, []⟩
theorem zc2.L : LkT P zc2.I Tryz.f182 fun C Q s h => zc2.cps C N (s 0) (s 1) h Q := fun {C} hC Q s h hR => e1 hR
theorem zc2.imp : zc2.Imp (AC P) N := fun v0 v1 h Q hR => eF mixed (fn := Tryz.f182) (fun hC => zc2.L hC (dn Q) (zw [v0, v1]) h hR)
def zfn.I : Bx := ⟨[], [], 38, []⟩
theorem zfn.L : LkT P zfn.I Tryz.f198 fun C Q s h => zfn.cps C N (s 0) h Q := fun {C} hC Q s h hR => e1 hR
theorem zfn.imp : zfn.Imp (AC P) N := fun v0 h Q hR => eF mixed (fn := Tryz.f198) (fun hC => zfn.L hC (dn Q) (zw [v0]) h hR)
def zp.I : Bx := ⟨[], [], 9, []⟩
theorem zp.L : LkT P zp.I Tryz.f205 fun C Q s h => zp.cps C N (s 0) (s 1) h Q := fun {C} hC Q s h hR => e1 hR
theorem zp.imp : zp.Imp (AC P) N := fun v0 v1 h Q hR => eF mixed (fn := Tryz.f205) (fun hC => zp.L hC (dn Q) (zw [v0, v1]) h hR)
def zz.I : Bx := ⟨[], [], 31, []⟩
theorem zz.L : LkT P zz.I Tryz.f206 fun C Q s h => zz.cps C N (s 0) h Q := fun {C} hC Q s h hR => eT hC (fun s h => zz.k6 C N Q (s 0) h) hR (fun s h hR => eS hC (fun s h => Q (.tup [(.str []), (.bool false)]) h) (eT hC (fun s h => zz.k6 C N Q (s 4) h) hR (fun s h hR => eK (eT hC (fun s h => B.cond (s 5) (Q (.tup [(.str [105, 108]), (.bool true)]) h) (B.pv (V.bin .eql (s 4) (.int .u8 2)) fun v8 => B.cond v8 (Q (.tup [(.str [105, 112]), (.bool true)]) h) (zz.k5 C N Q (s 4) h))) hR (fun s h hR => eC 5 hR (fun hR => e1 hR) (fun hR => eT hC (fun s h => B.cond (s 7) (Q (.tup [(.str [105, 112]), (.bool true)]) h) (zz.k5 C N Q (s 4) h)) hR (fun s h hR => eC 7 hR (fun hR => e1 hR) (fun hR => eT hC (fun s h => B.cond (s 9) (Q (.tup [(.str [105, 111]), (.bool true)]) h) (B.pv (V.bin .eql (s 4) (.int .u8 4)) fun v12 => B.cond v12 (Q (.tup [(.str [105, 113]), (.bool true)]) h) (zz.k4 C N Q (s 4) h))) hR (fun s h hR => eC 9 hR (fun hR => e1 hR) (fun hR => eT hC (fun s h => B.cond (s 11) (Q (.tup [(.str [105, 113]), (.bool true)]) h) (zz.k4 C N Q (s 4) h)) hR (fun s h hR => eC 11 hR (fun hR => e1 hR) (fun hR => eT hC (fun s h => B.cond (s 13) (Q (.tup [(.str [105, 113, 100]), (.bool true)]) h) (B.pv (V.bin .eql (s 4) (.int .u8 6)) fun v17 => B.cond v17 (Q (.tup [(.str [116, 100]), (.bool true)]) h) (zz.k3 C N Q (s 4) h))) hR (fun s h hR => eC 13 hR (fun hR => e1 hR) (fun hR => eT hC (fun s h => B.cond (s 16) (Q (.tup [(.str [116, 100]), (.bool true)]) h) (zz.k3 C N Q (s 4) h)) hR (fun s h hR => eC 16 hR (fun hR => e1 hR) (fun hR => eT hC (fun s h => B.cond (s 18) (Q (.tup [(.str [116]), (.bool true)]) h) (B.pv (V.bin .eql (s 4) (.int .u8 9)) fun v22 => B.cond v22 (Q (.tup [(.str [105, 113, 100, 114]), (.bool true)]) h) (zz.k2 C N Q (s 4) h))) hR (fun s h hR => eC 18 hR (fun hR => e1 hR) (fun hR => eT hC (fun s h => B.cond (s 21) (Q (.tup [(.str [105, 113, 100, 114]), (.bool true)]) h) (zz.k2 C N Q (s 4) h)) hR (fun s h hR => eC 21 hR (fun hR => e1 hR) (fun hR => eT hC (fun s h => zz.k1 C N Q (s 4) (s 23) h) hR (fun s h hR => e1 hR)))))))))))))))))))) (fun s h hR => e1 hR))
theorem zz.imp : zz.Imp (AC P) N := fun v0 h Q hR => eF mixed (fn := Tryz.f206) (fun hC => zz.L hC (dn Q) (zw [v0]) h hR)
def zdv.I : Bx := ⟨[], [], 17, []⟩
theorem zdv.L : LkT P zdv.I Tryz.f207 fun C Q s h => zdv.cps C N (s 0) (s 1) h Q := fun {C} hC Q s h hR => eT hC (fun s h => zg (zdv.l2 C N Q (s 0) (s 1)) [(.int .i64 0)] h) hR (fun s h hR => eS hC (fun s h => Q (.bool false) h) (eT hC (fun s h => zg (zdv.l2 C N Q (s 0) (s 1)) [(s 5)] h) hR (fun s h hR => eK (eL hC [0, 1] [5] (on2 (zdv.l2 C N Q)) hR (fun Y1 s h hR => e1 hR)))) (fun s h hR => e1 hR))
theorem zdv.imp : zdv.Imp (AC P) N := fun v0 v1 h Q hR => eF mixed (fn := Tryz.f207) (fun hC => zdv.L hC (dn Q) (zw [v0, v1]) h hR)
def zbj.I : Bx := ⟨[], [], 58, [(9, pz [] 11)]⟩
theorem zbj.L : LkT P zbj.I Tryz.f208 fun C Q s h => zbj.cps C N (s 0) h Q := fun {C} hC Q s h hR => eT hC (fun s h => zg (zbj.l5 C N Q (s 0)) [(.int .i64 0)] h) hR (fun s h hR => eS hC (fun s h => zbj.k1 C N Q (s 0) h) (eT hC (fun s h => zg (zbj.l5 C N Q (s 0)) [(s 3)] h) hR (fun s h hR => eK (eL hC [0] [3] (on1 (zbj.l5 C N Q)) hR (fun Y1 s h hR => eT hC (fun s h => zbj.k4 C N Q Y1 (s 0) (s 3) h) hR (fun s h hR => eS hC (fun s h => B.pv (V.bin .add (s 3) (.int .i64 1)) fun v10 => Y1 [v10] h) (eK (eT hC (fun s h => zg (zbj.l3 C N Q Y1 (s 0) (s 3)) [(.int .i64 0)] h) hR (fun s h hR => eT hC (fun s h => zg (zbj.l3 C N Q Y1 (s 0) (s 3)) [(s 4)] h) hR (fun s h hR => eK (eL hC [0, 3] [4] (on2 (zbj.l3 C N Q Y1)) hR (fun Y2 s h hR => e1 hR)))))) (fun s h hR => e1 hR)))))) (fun s h hR => e1 hR))
theorem zbj.imp : zbj.Imp (AC P) N := fun v0 h Q hR => eF mixed (fn := Tryz.f208) (fun hC => zbj.L hC (dn Q) (zw [v0]) h hR)
def zbf.I : Bx := ⟨[], [], 44, [(9, pz [] 9)]⟩
theorem zbf.L : LkT P zbf.I Tryz.f209 fun C Q s h => zbf.cps C N (s 0) (s 1) h Q := fun {C} hC Q s h hR => eT hC (fun s h => zg (zbf.l5 C N Q (s 0) (s 1)) [(.int .i64 0)] h) hR (fun s h hR => eS hC (fun s h => B.pv (V.zi (s 0)) fun v42 => B.pv (V.bin .leq v42 (.int .i64 4)) fun v43 => Q v43 h) (eT hC (fun s h => zg (zbf.l5 C N Q (s 0) (s 1)) [(s 5)] h) hR (fun s h hR => eK (eL hC [0, 1] [5] (on2 (zbf.l5 C N Q)) hR (fun Y1 s h hR => eT hC (fun s h => zbf.k3 C N Q Y1 (s 0) (s 1) (s 5) h) hR (fun s h hR => eS hC (fun s h => B.pv (V.bin .add (s 5) (.int .i64 1)) fun v12 => Y1 [v12] h) (eK (eT hC (fun s h => zg (zbf.l2 C N Q Y1 (s 0) (s 1) (s 5)) [(.int .i64 0)] h) hR (fun s h hR => eT hC (fun s h => zg (zbf.l2 C N Q Y1 (s 0) (s 1) (s 5)) [(s 6)] h) hR (fun s h hR => eK (eL hC [0, 1, 5] [6] (on3 (zbf.l2 C N Q Y1)) hR (fun Y2 s h hR => e1 hR)))))) (fun s h hR => e1 hR)))))) (fun s h hR => e1 hR))
theorem zbf.imp : zbf.Imp (AC P) N := fun v0 v1 h Q hR => eF mixed (fn := Tryz.f209) (fun hC => zbf.L hC (dn Q) (zw [v0, v1]) h hR)
def zu.I : Bx := ⟨[], [], 19, []⟩
theorem zu.L : LkT P zu.I Tryz.f216 fun C Q s h => zu.cps C N (s 0) (s 1) h Q := fun {C} hC Q s h hR => eT hC (fun s h => B.pv (V.zi (s 0)) fun v7 => zg (ze0.l2 C (opsS 16 (.str []) 0) Q (s 0) (s 1) v7) [(.int .i64 0)] h) hR (fun s h hR => eS hC (fun s h => Q (.int .i64 (-1)) h) (eT hC (fun s h => zg (ze0.l2 C (opsS 16 (.str []) 0) Q (s 0) (s 1) (s 7)) [(s 8)] h) hR (fun s h hR => eK (eL hC [0, 1, 7] [8] (on3 (ze0.l2 C (opsS 16 (.str []) 0) Q)) hR (fun Y1 s h hR => e1 hR)))) (fun s h hR => e1 hR))
theorem zu.imp : zu.Imp (AC P) N := fun v0 v1 h Q hR => eF mixed (fn := Tryz.f216) (fun hC => zu.L hC (dn Q) (zw [v0, v1]) h hR)
theorem ze8.L0 : F0 P Tryz.f116 ze8.I := fun hC Q s h hR => eT hC (fun s h => zf8 (s 0) h Q) hR (fun s h hR => eU hC [0] [3] (g1 fun v => z0 v (z1 Q v)) (fun s h => z1 Q (s 0) h) hR (fun s h hR => eT hC (fun s h => z2 Q (s 0) (s 5) h) hR (fun s h hR => eU hC [0, 5] [6] (g2 fun v w => z0 v (z3 Q v w)) (fun s h => z3 Q (s 0) (s 5) h) hR (fun s h hR => eU hC [0, 5] [9] (g2 fun v w => z0 v (z4 Q v w)) (fun s h => z4 Q (s 0) (s 5) h) hR (fun s h hR => eU hC [0, 5] [11] (g2 fun v w => z0 v (z5 Q v w)) (fun s h => z5 Q (s 0) (s 5) h) hR (fun s h hR => eU hC [0, 5] [14] (g2 fun v w => z0 v fun h => Q (.bool true) h) (fun s h => Q (.bool true) h) hR (fun s h hR => e1 hR)))))))
theorem ze8.imp0 : ze8.Imp0 (AC P) N := fun v0 h Q hR => eF mixed (fn := Tryz.f116) (fun hC => ze8.L0 hC (dn Q) (zw [v0]) h hR)
theorem zfv.L0 : F0 P Tryz.f117 zfv.I := fun hC Q s h hR => eT hC (fun s h => zf8 (s 0) h Q) hR (fun s h hR => eU hC [0] [3] (g1 fun v => z0 v (z1 Q v)) (fun s h => z1 Q (s 0) h) hR (fun s h hR => eT hC (fun s h => z2 Q (s 0) (s 5) h) hR (fun s h hR => eU hC [0, 5] [6] (g2 fun v w => z0 v (z3 Q v w)) (fun s h => z3 Q (s 0) (s 5) h) hR (fun s h hR => eU hC [0, 5] [9] (g2 fun v w => z0 v (z4 Q v w)) (fun s h => z4 Q (s 0) (s 5) h) hR (fun s h hR => eU hC [0, 5] [11] (g2 fun v w => z0 v (z5 Q v w)) (fun s h => z5 Q (s 0) (s 5) h) hR (fun s h hR => eU hC [0, 5] [14] (g2 fun v w => z0 v fun h => Q (.bool true) h) (fun s h => Q (.bool true) h) hR (fun s h hR => e1 hR)))))))
theorem zfv.imp0 : zfv.Imp0 (AC P) N := fun v0 h Q hR => eF mixed (fn := Tryz.f117) (fun hC => zfv.L0 hC (dn Q) (zw [v0]) h hR)
theorem zfh.L0 : F0 P Tryz.f118 zfh.I := fun hC Q s h hR => eT hC (fun s h => zf8 (s 0) h Q) hR (fun s h hR => eU hC [0] [3] (g1 fun v => z0 v (z1 Q v)) (fun s h => z1 Q (s 0) h) hR (fun s h hR => eT hC (fun s h => z2 Q (s 0) (s 5) h) hR (fun s h hR => eU hC [0, 5] [6] (g2 fun v w => z0 v (z3 Q v w)) (fun s h => z3 Q (s 0) (s 5) h) hR (fun s h hR => eU hC [0, 5] [9] (g2 fun v w => z0 v (z4 Q v w)) (fun s h => z4 Q (s 0) (s 5) h) hR (fun s h hR => eU hC [0, 5] [11] (g2 fun v w => z0 v (z5 Q v w)) (fun s h => z5 Q (s 0) (s 5) h) hR (fun s h hR => eU hC [0, 5] [14] (g2 fun v w => z0 v fun h => Q (.bool true) h) (fun s h => Q (.bool true) h) hR (fun s h hR => e1 hR)))))))
theorem zfh.imp0 : zfh.Imp0 (AC P) N := fun v0 h Q hR => eF mixed (fn := Tryz.f118) (fun hC => zfh.L0 hC (dn Q) (zw [v0]) h hR)
theorem zfb.L0 : F0 P Tryz.f119 zfb.I := fun hC Q s h hR => eT hC (fun s h => zf8 (s 0) h Q) hR (fun s h hR => eU hC [0] [3] (g1 fun v => z0 v (z1 Q v)) (fun s h => z1 Q (s 0) h) hR (fun s h hR => eT hC (fun s h => z2 Q (s 0) (s 5) h) hR (fun s h hR => eU hC [0, 5] [6] (g2 fun v w => z0 v (z3 Q v w)) (fun s h => z3 Q (s 0) (s 5) h) hR (fun s h hR => eU hC [0, 5] [9] (g2 fun v w => z0 v (z4 Q v w)) (fun s h => z4 Q (s 0) (s 5) h) hR (fun s h hR => eU hC [0, 5] [11] (g2 fun v w => z0 v (z5 Q v w)) (fun s h => z5 Q (s 0) (s 5) h) hR (fun s h hR => eU hC [0, 5] [14] (g2 fun v w => z0 v fun h => Q (.bool true) h) (fun s h => Q (.bool true) h) hR (fun s h hR => e1 hR)))))))
theorem zfb.imp0 : zfb.Imp0 (AC P) N := fun v0 h Q hR => eF mixed (fn := Tryz.f119) (fun hC => zfb.L0 hC (dn Q) (zw [v0]) h hR)
theorem zep.L0 : F0 P Tryz.f121 zep.I := fun hC Q s h hR => eT hC (fun s h => zf8 (s 0) h Q) hR (fun s h hR => eU hC [0] [3] (g1 fun v => z0 v (z1 Q v)) (fun s h => z1 Q (s 0) h) hR (fun s h hR => eT hC (fun s h => z2 Q (s 0) (s 5) h) hR (fun s h hR => eU hC [0, 5] [6] (g2 fun v w => z0 v (z3 Q v w)) (fun s h => z3 Q (s 0) (s 5) h) hR (fun s h hR => eU hC [0, 5] [9] (g2 fun v w => z0 v (z4 Q v w)) (fun s h => z4 Q (s 0) (s 5) h) hR (fun s h hR => eU hC [0, 5] [11] (g2 fun v w => z0 v (z5 Q v w)) (fun s h => z5 Q (s 0) (s 5) h) hR (fun s h hR => eU hC [0, 5] [14] (g2 fun v w => z0 v fun h => Q (.bool true) h) (fun s h => Q (.bool true) h) hR (fun s h hR => e1 hR)))))))
theorem zep.imp0 : zep.Imp0 (AC P) N := fun v0 h Q hR => eF mixed (fn := Tryz.f121) (fun hC => zep.L0 hC (dn Q) (zw [v0]) h hR)
theorem zfu.L0 : F0 P Tryz.f122 zfu.I := fun hC Q s h hR => eT hC (fun s h => zf8 (s 0) h Q) hR (fun s h hR => eU hC [0] [3] (g1 fun v => z0 v (z1 Q v)) (fun s h => z1 Q (s 0) h) hR (fun s h hR => eT hC (fun s h => z2 Q (s 0) (s 5) h) hR (fun s h hR => eU hC [0, 5] [6] (g2 fun v w => z0 v (z3 Q v w)) (fun s h => z3 Q (s 0) (s 5) h) hR (fun s h hR => eU hC [0, 5] [9] (g2 fun v w => z0 v (z4 Q v w)) (fun s h => z4 Q (s 0) (s 5) h) hR (fun s h hR => eU hC [0, 5] [11] (g2 fun v w => z0 v (z5 Q v w)) (fun s h => z5 Q (s 0) (s 5) h) hR (fun s h hR => eU hC [0, 5] [14] (g2 fun v w => z0 v fun h => Q (.bool true) h) (fun s h => Q (.bool true) h) hR (fun s h hR => e1 hR)))))))
theorem zfu.imp0 : zfu.Imp0 (AC P) N := fun v0 h Q hR => eF mixed (fn := Tryz.f122) (fun hC => zfu.L0 hC (dn Q) (zw [v0]) h hR)
theorem ze9.L0 : F0 P Tryz.f123 ze9.I := fun hC Q s h hR => eT hC (fun s h => zf8 (s 0) h Q) hR (fun s h hR => eU hC [0] [3] (g1 fun v => z0 v (z1 Q v)) (fun s h => z1 Q (s 0) h) hR (fun s h hR => eT hC (fun s h => z2 Q (s 0) (s 5) h) hR (fun s h hR => eU hC [0, 5] [6] (g2 fun v w => z0 v (z3 Q v w)) (fun s h => z3 Q (s 0) (s 5) h) hR (fun s h hR => eU hC [0, 5] [9] (g2 fun v w => z0 v (z4 Q v w)) (fun s h => z4 Q (s 0) (s 5) h) hR (fun s h hR => eU hC [0, 5] [11] (g2 fun v w => z0 v (z5 Q v w)) (fun s h => z5 Q (s 0) (s 5) h) hR (fun s h hR => eU hC [0, 5] [14] (g2 fun v w => z0 v fun h => Q (.bool true) h) (fun s h => Q (.bool true) h) hR (fun s h hR => e1 hR)))))))
theorem ze9.imp0 : ze9.Imp0 (AC P) N := fun v0 h Q hR => eF mixed (fn := Tryz.f123) (fun hC => ze9.L0 hC (dn Q) (zw [v0]) h hR)
theorem zft.L0 : F0 P Tryz.f124 zft.I := fun hC Q s h hR => eT hC (fun s h => zf8 (s 0) h Q) hR (fun s h hR => eU hC [0] [3] (g1 fun v => z0 v (z1 Q v)) (fun s h => z1 Q (s 0) h) hR (fun s h hR => eT hC (fun s h => z2 Q (s 0) (s 5) h) hR (fun s h hR => eU hC [0, 5] [6] (g2 fun v w => z0 v (z3 Q v w)) (fun s h => z3 Q (s 0) (s 5) h) hR (fun s h hR => eU hC [0, 5] [9] (g2 fun v w => z0 v (z4 Q v w)) (fun s h => z4 Q (s 0) (s 5) h) hR (fun s h hR => eU hC [0, 5] [11] (g2 fun v w => z0 v (z5 Q v w)) (fun s h => z5 Q (s 0) (s 5) h) hR (fun s h hR => eU hC [0, 5] [14] (g2 fun v w => z0 v fun h => Q (.bool true) h) (fun s h => Q (.bool true) h) hR (fun s h hR => e1 hR)))))))
theorem zft.imp0 : zft.Imp0 (AC P) N := fun v0 h Q hR => eF mixed (fn := Tryz.f124) (fun hC => zft.L0 hC (dn Q) (zw [v0]) h hR)
theorem zff.L0 : F0 P Tryz.f125 zff.I := fun hC Q s h hR => eT hC (fun s h => zf8 (s 0) h Q) hR (fun s h hR => eU hC [0] [3] (g1 fun v => z0 v (z1 Q v)) (fun s h => z1 Q (s 0) h) hR (fun s h hR => eT hC (fun s h => z2 Q (s 0) (s 5) h) hR (fun s h hR => eU hC [0, 5] [6] (g2 fun v w => z0 v (z3 Q v w)) (fun s h => z3 Q (s 0) (s 5) h) hR (fun s h hR => eU hC [0, 5] [9] (g2 fun v w => z0 v (z4 Q v w)) (fun s h => z4 Q (s 0) (s 5) h) hR (fun s h hR => eU hC [0, 5] [11] (g2 fun v w => z0 v (z5 Q v w)) (fun s h => z5 Q (s 0) (s 5) h) hR (fun s h hR => eU hC [0, 5] [14] (g2 fun v w => z0 v fun h => Q (.bool true) h) (fun s h => Q (.bool true) h) hR (fun s h hR => e1 hR)))))))
theorem zff.imp0 : zff.Imp0 (AC P) N := fun v0 h Q hR => eF mixed (fn := Tryz.f125) (fun hC => zff.L0 hC (dn Q) (zw [v0]) h hR)
theorem zfj.L0 : F0 P Tryz.f126 zfj.I := fun hC Q s h hR => eT hC (fun s h => zf8 (s 0) h Q) hR (fun s h hR => eU hC [0] [3] (g1 fun v => z0 v (z1 Q v)) (fun s h => z1 Q (s 0) h) hR (fun s h hR => eT hC (fun s h => z2 Q (s 0) (s 5) h) hR (fun s h hR => eU hC [0, 5] [6] (g2 fun v w => z0 v (z3 Q v w)) (fun s h => z3 Q (s 0) (s 5) h) hR (fun s h hR => eU hC [0, 5] [9] (g2 fun v w => z0 v (z4 Q v w)) (fun s h => z4 Q (s 0) (s 5) h) hR (fun s h hR => eU hC [0, 5] [11] (g2 fun v w => z0 v (z5 Q v w)) (fun s h => z5 Q (s 0) (s 5) h) hR (fun s h hR => eU hC [0, 5] [14] (g2 fun v w => z0 v fun h => Q (.bool true) h) (fun s h => Q (.bool true) h) hR (fun s h hR => e1 hR)))))))
theorem zfj.imp0 : zfj.Imp0 (AC P) N := fun v0 h Q hR => eF mixed (fn := Tryz.f126) (fun hC => zfj.L0 hC (dn Q) (zw [v0]) h hR)
theorem zfi.L0 : F0 P Tryz.f127 zfi.I := fun hC Q s h hR => eT hC (fun s h => zf8 (s 0) h Q) hR (fun s h hR => eU hC [0] [3] (g1 fun v => z0 v (z1 Q v)) (fun s h => z1 Q (s 0) h) hR (fun s h hR => eT hC (fun s h => z2 Q (s 0) (s 5) h) hR (fun s h hR => eU hC [0, 5] [6] (g2 fun v w => z0 v (z3 Q v w)) (fun s h => z3 Q (s 0) (s 5) h) hR (fun s h hR => eU hC [0, 5] [9] (g2 fun v w => z0 v (z4 Q v w)) (fun s h => z4 Q (s 0) (s 5) h) hR (fun s h hR => eU hC [0, 5] [11] (g2 fun v w => z0 v (z5 Q v w)) (fun s h => z5 Q (s 0) (s 5) h) hR (fun s h hR => eU hC [0, 5] [14] (g2 fun v w => z0 v fun h => Q (.bool true) h) (fun s h => Q (.bool true) h) hR (fun s h hR => e1 hR)))))))
theorem zfi.imp0 : zfi.Imp0 (AC P) N := fun v0 h Q hR => eF mixed (fn := Tryz.f127) (fun hC => zfi.L0 hC (dn Q) (zw [v0]) h hR)
theorem zfw.L0 : F0 P Tryz.f128 zfw.I := fun hC Q s h hR => eT hC (fun s h => zf8 (s 0) h Q) hR (fun s h hR => eU hC [0] [3] (g1 fun v => z0 v (z1 Q v)) (fun s h => z1 Q (s 0) h) hR (fun s h hR => eT hC (fun s h => z2 Q (s 0) (s 5) h) hR (fun s h hR => eU hC [0, 5] [6] (g2 fun v w => z0 v (z3 Q v w)) (fun s h => z3 Q (s 0) (s 5) h) hR (fun s h hR => eU hC [0, 5] [9] (g2 fun v w => z0 v (z4 Q v w)) (fun s h => z4 Q (s 0) (s 5) h) hR (fun s h hR => eU hC [0, 5] [11] (g2 fun v w => z0 v (z5 Q v w)) (fun s h => z5 Q (s 0) (s 5) h) hR (fun s h hR => eU hC [0, 5] [14] (g2 fun v w => z0 v fun h => Q (.bool true) h) (fun s h => Q (.bool true) h) hR (fun s h hR => e1 hR)))))))
theorem zfw.imp0 : zfw.Imp0 (AC P) N := fun v0 h Q hR => eF mixed (fn := Tryz.f128) (fun hC => zfw.L0 hC (dn Q) (zw [v0]) h hR)
theorem zfc.L0 : F0 P Tryz.f129 zfc.I := fun hC Q s h hR => eT hC (fun s h => zf8 (s 0) h Q) hR (fun s h hR => eU hC [0] [3] (g1 fun v => z0 v (z1 Q v)) (fun s h => z1 Q (s 0) h) hR (fun s h hR => eT hC (fun s h => z2 Q (s 0) (s 5) h) hR (fun s h hR => eU hC [0, 5] [6] (g2 fun v w => z0 v (z3 Q v w)) (fun s h => z3 Q (s 0) (s 5) h) hR (fun s h hR => eU hC [0, 5] [9] (g2 fun v w => z0 v (z4 Q v w)) (fun s h => z4 Q (s 0) (s 5) h) hR (fun s h hR => eU hC [0, 5] [11] (g2 fun v w => z0 v (z5 Q v w)) (fun s h => z5 Q (s 0) (s 5) h) hR (fun s h hR => eU hC [0, 5] [14] (g2 fun v w => z0 v fun h => Q (.bool true) h) (fun s h => Q (.bool true) h) hR (fun s h hR => e1 hR)))))))
theorem zfc.imp0 : zfc.Imp0 (AC P) N := fun v0 h Q hR => eF mixed (fn := Tryz.f129) (fun hC => zfc.L0 hC (dn Q) (zw [v0]) h hR)
theorem zez.L0 : F0 P Tryz.f130 zez.I := fun hC Q s h hR => eT hC (fun s h => zf8 (s 0) h Q) hR (fun s h hR => eU hC [0] [3] (g1 fun v => z0 v (z1 Q v)) (fun s h => z1 Q (s 0) h) hR (fun s h hR => eT hC (fun s h => z2 Q (s 0) (s 5) h) hR (fun s h hR => eU hC [0, 5] [6] (g2 fun v w => z0 v (z3 Q v w)) (fun s h => z3 Q (s 0) (s 5) h) hR (fun s h hR => eU hC [0, 5] [9] (g2 fun v w => z0 v (z4 Q v w)) (fun s h => z4 Q (s 0) (s 5) h) hR (fun s h hR => eU hC [0, 5] [11] (g2 fun v w => z0 v (z5 Q v w)) (fun s h => z5 Q (s 0) (s 5) h) hR (fun s h hR => eU hC [0, 5] [14] (g2 fun v w => z0 v fun h => Q (.bool true) h) (fun s h => Q (.bool true) h) hR (fun s h hR => e1 hR)))))))
theorem zez.imp0 : zez.Imp0 (AC P) N := fun v0 h Q hR => eF mixed (fn := Tryz.f130) (fun hC => zez.L0 hC (dn Q) (zw [v0]) h hR)
theorem zfa.L0 : F0 P Tryz.f132 zfa.I := fun hC Q s h hR => eT hC (fun s h => zf8 (s 0) h Q) hR (fun s h hR => eU hC [0] [3] (g1 fun v => z0 v (z1 Q v)) (fun s h => z1 Q (s 0) h) hR (fun s h hR => eT hC (fun s h => z2 Q (s 0) (s 5) h) hR (fun s h hR => eU hC [0, 5] [6] (g2 fun v w => z0 v (z3 Q v w)) (fun s h => z3 Q (s 0) (s 5) h) hR (fun s h hR => eU hC [0, 5] [9] (g2 fun v w => z0 v (z4 Q v w)) (fun s h => z4 Q (s 0) (s 5) h) hR (fun s h hR => eU hC [0, 5] [11] (g2 fun v w => z0 v (z5 Q v w)) (fun s h => z5 Q (s 0) (s 5) h) hR (fun s h hR => eU hC [0, 5] [14] (g2 fun v w => z0 v fun h => Q (.bool true) h) (fun s h => Q (.bool true) h) hR (fun s h hR => e1 hR)))))))
theorem zfa.imp0 : zfa.Imp0 (AC P) N := fun v0 h Q hR => eF mixed (fn := Tryz.f132) (fun hC => zfa.L0 hC (dn Q) (zw [v0]) h hR)
theorem zfk.L0 : F0 P Tryz.f133 zfk.I := fun hC Q s h hR => eT hC (fun s h => zf8 (s 0) h Q) hR (fun s h hR => eU hC [0] [3] (g1 fun v => z0 v (z1 Q v)) (fun s h => z1 Q (s 0) h) hR (fun s h hR => eT hC (fun s h => z2 Q (s 0) (s 5) h) hR (fun s h hR => eU hC [0, 5] [6] (g2 fun v w => z0 v (z3 Q v w)) (fun s h => z3 Q (s 0) (s 5) h) hR (fun s h hR => eU hC [0, 5] [9] (g2 fun v w => z0 v (z4 Q v w)) (fun s h => z4 Q (s 0) (s 5) h) hR (fun s h hR => eU hC [0, 5] [11] (g2 fun v w => z0 v (z5 Q v w)) (fun s h => z5 Q (s 0) (s 5) h) hR (fun s h hR => eU hC [0, 5] [14] (g2 fun v w => z0 v fun h => Q (.bool true) h) (fun s h => Q (.bool true) h) hR (fun s h hR => e1 hR)))))))
theorem zfk.imp0 : zfk.Imp0 (AC P) N := fun v0 h Q hR => eF mixed (fn := Tryz.f133) (fun hC => zfk.L0 hC (dn Q) (zw [v0]) h hR)
theorem zer.L0 : F0 P Tryz.f134 zer.I := fun hC Q s h hR => eT hC (fun s h => zf8 (s 0) h Q) hR (fun s h hR => eU hC [0] [3] (g1 fun v => z0 v (z1 Q v)) (fun s h => z1 Q (s 0) h) hR (fun s h hR => eT hC (fun s h => z2 Q (s 0) (s 5) h) hR (fun s h hR => eU hC [0, 5] [6] (g2 fun v w => z0 v (z3 Q v w)) (fun s h => z3 Q (s 0) (s 5) h) hR (fun s h hR => eU hC [0, 5] [9] (g2 fun v w => z0 v (z4 Q v w)) (fun s h => z4 Q (s 0) (s 5) h) hR (fun s h hR => eU hC [0, 5] [11] (g2 fun v w => z0 v (z5 Q v w)) (fun s h => z5 Q (s 0) (s 5) h) hR (fun s h hR => eU hC [0, 5] [14] (g2 fun v w => z0 v fun h => Q (.bool true) h) (fun s h => Q (.bool true) h) hR (fun s h hR => e1 hR)))))))
theorem zer.imp0 : zer.Imp0 (AC P) N := fun v0 h Q hR => eF mixed (fn := Tryz.f134) (fun hC => zer.L0 hC (dn Q) (zw [v0]) h hR)
theorem zfg.L0 : F0 P Tryz.f135 zfg.I := fun hC Q s h hR => eT hC (fun s h => zf8 (s 0) h Q) hR (fun s h hR => eU hC [0] [3] (g1 fun v => z0 v (z1 Q v)) (fun s h => z1 Q (s 0) h) hR (fun s h hR => eT hC (fun s h => z2 Q (s 0) (s 5) h) hR (fun s h hR => eU hC [0, 5] [6] (g2 fun v w => z0 v (z3 Q v w)) (fun s h => z3 Q (s 0) (s 5) h) hR (fun s h hR => eU hC [0, 5] [9] (g2 fun v w => z0 v (z4 Q v w)) (fun s h => z4 Q (s 0) (s 5) h) hR (fun s h hR => eU hC [0, 5] [11] (g2 fun v w => z0 v (z5 Q v w)) (fun s h => z5 Q (s 0) (s 5) h) hR (fun s h hR => eU hC [0, 5] [14] (g2 fun v w => z0 v fun h => Q (.bool true) h) (fun s h => Q (.bool true) h) hR (fun s h hR => e1 hR)))))))
theorem zfg.imp0 : zfg.Imp0 (AC P) N := fun v0 h Q hR => eF mixed (fn := Tryz.f135) (fun hC => zfg.L0 hC (dn Q) (zw [v0]) h hR)
theorem zeq.L0 : F0 P Tryz.f136 zeq.I := fun hC Q s h hR => eT hC (fun s h => zf8 (s 0) h Q) hR (fun s h hR => eU hC [0] [3] (g1 fun v => z0 v (z1 Q v)) (fun s h => z1 Q (s 0) h) hR (fun s h hR => eT hC (fun s h => z2 Q (s 0) (s 5) h) hR (fun s h hR => eU hC [0, 5] [6] (g2 fun v w => z0 v (z3 Q v w)) (fun s h => z3 Q (s 0) (s 5) h) hR (fun s h hR => eU hC [0, 5] [9] (g2 fun v w => z0 v (z4 Q v w)) (fun s h => z4 Q (s 0) (s 5) h) hR (fun s h hR => eU hC [0, 5] [11] (g2 fun v w => z0 v (z5 Q v w)) (fun s h => z5 Q (s 0) (s 5) h) hR (fun s h hR => eU hC [0, 5] [14] (g2 fun v w => z0 v fun h => Q (.bool true) h) (fun s h => Q (.bool true) h) hR (fun s h hR => e1 hR)))))))
theorem zeq.imp0 : zeq.Imp0 (AC P) N := fun v0 h Q hR => eF mixed (fn := Tryz.f136) (fun hC => zeq.L0 hC (dn Q) (zw [v0]) h hR)
theorem zfe.L0 : F0 P Tryz.f137 zfe.I := fun hC Q s h hR => eT hC (fun s h => zf8 (s 0) h Q) hR (fun s h hR => eU hC [0] [3] (g1 fun v => z0 v (z1 Q v)) (fun s h => z1 Q (s 0) h) hR (fun s h hR => eT hC (fun s h => z2 Q (s 0) (s 5) h) hR (fun s h hR => eU hC [0, 5] [6] (g2 fun v w => z0 v (z3 Q v w)) (fun s h => z3 Q (s 0) (s 5) h) hR (fun s h hR => eU hC [0, 5] [9] (g2 fun v w => z0 v (z4 Q v w)) (fun s h => z4 Q (s 0) (s 5) h) hR (fun s h hR => eU hC [0, 5] [11] (g2 fun v w => z0 v (z5 Q v w)) (fun s h => z5 Q (s 0) (s 5) h) hR (fun s h hR => eU hC [0, 5] [14] (g2 fun v w => z0 v fun h => Q (.bool true) h) (fun s h => Q (.bool true) h) hR (fun s h hR => e1 hR)))))))
theorem zfe.imp0 : zfe.Imp0 (AC P) N := fun v0 h Q hR => eF mixed (fn := Tryz.f137) (fun hC => zfe.L0 hC (dn Q) (zw [v0]) h hR)
theorem zfd.L0 : F0 P Tryz.f138 zfd.I := fun hC Q s h hR => eT hC (fun s h => zf8 (s 0) h Q) hR (fun s h hR => eU hC [0] [3] (g1 fun v => z0 v (z1 Q v)) (fun s h => z1 Q (s 0) h) hR (fun s h hR => eT hC (fun s h => z2 Q (s 0) (s 5) h) hR (fun s h hR => eU hC [0, 5] [6] (g2 fun v w => z0 v (z3 Q v w)) (fun s h => z3 Q (s 0) (s 5) h) hR (fun s h hR => eU hC [0, 5] [9] (g2 fun v w => z0 v (z4 Q v w)) (fun s h => z4 Q (s 0) (s 5) h) hR (fun s h hR => eU hC [0, 5] [11] (g2 fun v w => z0 v (z5 Q v w)) (fun s h => z5 Q (s 0) (s 5) h) hR (fun s h hR => eU hC [0, 5] [14] (g2 fun v w => z0 v fun h => Q (.bool true) h) (fun s h => Q (.bool true) h) hR (fun s h hR => e1 hR)))))))
theorem zfd.imp0 : zfd.Imp0 (AC P) N := fun v0 h Q hR => eF mixed (fn := Tryz.f138) (fun hC => zfd.L0 hC (dn Q) (zw [v0]) h hR)
end Go.Ab.S16z
namespace Go.Ab
variable {C : CSem} {N : Nat → Nat}
def far : Nat := 140737488351232
def Bs (h : za) (x : AVal) (b : List UInt8) : Prop := (∃ R, SlX h 1 x (b.map bc) R) ∧ b.length ≤ far
section
variable {h h' : za} {x : AVal} {b : List UInt8}
theorem Bs.mono (hb : Bs h x b) (hle : h.le h') : Bs h' x b := ⟨hb.1.imp fun _ r => r.mono hle, hb.2⟩
theorem Bs.zi (hb : Bs h x b) : V.zi x = some (.int .i64 b.length) := by
 obtain ⟨⟨R, r⟩, _⟩ := hb
 simpa using r.zi
theorem Bs.zl (hb : Bs h x b) : x.zl = true := hb.1.elim fun _ r => r.zl
end
theorem SlX.cutR {h : za} {es : Nat} {x : AVal} {L R S : List (List AVal)} (hs : SlX h es x L (R ++ S)) : SlX h es x L R := by
 refine ⟨fun p hp => hs.len p (by rcases List.mem_append.1 hp with h | h; exact List.mem_append_left _ h; exact List.mem_append_right _ (List.mem_append_left _ h)), ?_⟩
 rcases hs.at_ with ⟨e, e2, e'⟩ | ⟨id, g, off, cp, b, hi, h1, h1', h2, h3, h4, hh, h5⟩
 ·exact .inl ⟨e, (List.append_eq_nil_iff.1 e2).1, e'⟩
 ·have hl : ∀ p ∈ L ++ R, p.length = es := fun p hp => hs.len p (by rcases List.mem_append.1 hp with h | h; exact List.mem_append_left _ h; exact List.mem_append_right _ (List.mem_append_left _ h))
  have hfl := zkl hl
  rw [List.length_append] at h1' h4 h5 hfl
  have hm : (L.length + R.length) * es ≤ (L.length + (R.length + S.length)) * es := Nat.mul_le_mul_right _ (by omega)
  refine .inr ⟨id, g, off, cp, b, hi, h1, by omega, h2, h3, by omega, hh, ?_⟩
  have : ((b.cells.drop off).take ((L.length + (R.length + S.length)) * es)).take ((L.length + R.length) * es) = (L ++ R).flatten := by
   rw [h5, ← List.append_assoc, List.flatten_append (L₁ := L ++ R), List.take_append_of_le_length (by omega), List.take_of_length_le (by omega)]
  rw [← this, List.take_take, Nat.min_eq_left hm]
abbrev zsx (h : za) (l : List Ob) : Prop := ∀ o ∈ l, o.at h
theorem zsx.mono {h h' : za} {l : List Ob} (ha : zsx h l) (hle : h.le h') : zsx h' l := fun o hm => (ha o hm).keep fun _ _ _ e => hle _ _ e
structure DK (T Ad : Type) where
 n : Nat
 bytes : Nat
 z : List AVal
 pos : 0 < n
 small : bytes ≤ 1000
 zlen : z.length = n
 cells : T → Ad → List AVal
 len : ∀ t a, (cells t a).length = n
 at_ : za → T → Ad → Prop
 mono : ∀ {h h' : za} {t : T} {a : Ad}, h.le h' → at_ h t a → at_ h' t a
 ok : T → Prop
 at_ok : ∀ {h : za} {t : T} {a : Ad}, at_ h t a → ok t
 obs : Bool → T → Ad → List Ob
 zuy : ∀ {b : Bool} {h : za} {t : T} {a : Ad}, ok t → zsx h (obs b t a) → at_ h t a
section
variable {T Ad : Type} (K : DK T Ad)
abbrev DK.cs (p : T × Ad) : List AVal := K.cells p.1 p.2
def DK.os (b : Bool) (P : List (T × Ad)) : List Ob := P.flatMap fun p => K.obs b p.1 p.2
def Dl (h : za) (x : AVal) (L : List T) : Prop := ∃ (P : List (T × Ad)) (R : List (List AVal)), P.map (·.1) = L ∧ SlX h K.n x (P.map K.cs) R ∧ ∀ p ∈ P, K.at_ h p.1 p.2
structure DEl (h : za) (x : AVal) (i : Nat) (t : T) (a : Ad) : Prop where
 idx : V.idxS K.n x (.int .i64 (i : Int)) = some (elp K.n x i 0)
 ldn : A.ldnv h (elp K.n x i 0) K.n = some (.agg (K.cells t a))
 fld : ∀ f o, V.fieldAddr o (elp K.n x i f) = some (elp K.n x i (f + o))
 ld : ∀ f, f < K.n → A.ldv h (elp K.n x i f) = (K.cells t a)[f]?
 at_ : K.at_ h t a
variable {K} {h h' h0 : za} {x : AVal} {L M : List T}
theorem slX_el {h : za} {x : AVal} {P : List (T × Ad)} {R : List (List AVal)} (s : SlX h K.n x (P.map K.cs) R) (ha : ∀ p ∈ P, K.at_ h p.1 p.2) {i : Nat} {p : T × Ad} (hi : P[i]? = some p) : DEl K h x i p.1 p.2 := by
 have hc : (P.map K.cs)[i]? = some (K.cells p.1 p.2) := by rw [List.getElem?_map, hi]; rfl
 have hl : i < (P.map K.cs).length := (List.getElem?_eq_some_iff.1 hc).1
 exact ⟨s.idxN hl, s.elem hc, fun f o => s.zlv hl f o, fun f hf => s.ldv hc hf, ha p (List.mem_of_getElem? hi)⟩
theorem Dl.get (hd : Dl K h x L) {i : Nat} {t : T} (hi : L[i]? = some t) : ∃ a, DEl K h x i t a := by
 obtain ⟨P, R, rfl, s, ha⟩ := hd
 rw [List.getElem?_map] at hi
 obtain ⟨p, hp, rfl⟩ := Option.map_eq_some_iff.1 hi
 exact ⟨p.2, slX_el s ha hp⟩
theorem Dl.mono (hd : Dl K h x L) (hle : h.le h') : Dl K h' x L := by
 obtain ⟨P, R, e, s, ha⟩ := hd
 exact ⟨P, R, e, s.mono hle, fun p hp => K.mono hle (ha p hp)⟩
theorem Dl.zi (hd : Dl K h x L) : V.zi x = some (.int .i64 L.length) := by
 obtain ⟨P, R, rfl, s, ha⟩ := hd
 simpa using s.zi
theorem Dl.zl (hd : Dl K h x L) : x.zl = true := by
 obtain ⟨P, R, rfl, s, ha⟩ := hd
 exact s.zl
theorem Dl.nils (K : DK T Ad) (h : za) : Dl K h .nils [] := ⟨[], [], rfl, SlX.nils h K.n, fun _ h => by cases h⟩
theorem Dl.ok (hd : Dl K h x L) : ∀ t ∈ L, K.ok t := by
 obtain ⟨P, R, rfl, s, ha⟩ := hd
 intro t ht
 obtain ⟨p, hp, rfl⟩ := List.mem_map.1 ht
 exact K.at_ok (ha p hp)
theorem dl_of {P : List (T × Ad)} {R : List (List AVal)} {b : Bool} {l : List Ob} (hok : ∀ p ∈ P, K.ok p.1) (hl : zsx h l) (h1 : .sl K.n x (P.map K.cs) R ∈ l) (h2 : ∀ o ∈ K.os b P, o ∈ l) : Dl K h x (P.map (·.1)) :=
 ⟨P, R, rfl, hl _ h1, fun p hp => K.zuy (hok p hp) fun o ho => hl o (h2 o (List.mem_flatMap.2 ⟨p, hp, ho⟩))⟩
theorem DK.zk2 (b : Bool) (P P' : List (T × Ad)) : K.os b (P ++ P') = K.os b P ++ K.os b P' := List.flatMap_append
theorem DK.zu8 (b : Bool) (p : T × Ad) : K.os b [p] = K.obs b p.1 p.2 := by simp [DK.os]
abbrev Df (K : DK T Ad) (h0 h : za) (x : AVal) (P : List (T × Ad)) : Prop := Owns h0 h (.sl K.n x (P.map K.cs) [] :: K.os false P)
theorem Df.dl {P : List (T × Ad)} (hd : Df K h0 h x P) (hok : ∀ p ∈ P, K.ok p.1) : Dl K h x (P.map (·.1)) := dl_of (b := false) hok hd.is (List.mem_cons_self ..) fun o ho => List.mem_cons_of_mem _ ho
def SameE (K : DK T Ad) [DecidableEq T] (C : CSem) (f : Nat) : Prop := ∀ (t u : T) (a b : Ad) (h : za) (Q : AVal → za → Prop), K.at_ h t a → K.at_ h u b → Q (.bool (decide (t = u))) h → C f [.agg (K.cells t a), .agg (K.cells u b)] h Q
def OneE (K : DK T Ad) (b : Bool) (C : CSem) (f : Nat) : Prop := ∀ (t : T) (a : Ad) (h : za) (Q : AVal → za → Prop), K.at_ h t a → (∀ a' h', Owns h h' (K.obs b t a') → Q (.agg (K.cells t a')) h') → C f [.agg (K.cells t a)] h Q
def KeptE (K : DK T Ad) [DecidableEq T] (C : CSem) (f : Nat) : Prop := ∀ (t u : T) (a b : Ad) (h : za) (Q : AVal → za → Prop), K.ok t → zsx h (K.obs true t a) → K.at_ h u b → Q (.bool (decide (t = u))) h → C f [.agg (K.cells t a), .agg (K.cells u b)] h Q
def MarkE (K : DK T Ad) (mk : Int → Int → T) (C : CSem) (f : Nat) : Prop := ∀ (k i : Int) (h : za) (Q : AVal → za → Prop), (∀ a' h', Owns h h' (K.obs false (mk k i) a') → Q (.agg (K.cells (mk k i) a')) h') → C f [.int .i64 k, .int .i64 i] h Q
theorem zqt (K : DK T Ad) (t : T) (a : Ad) : zc7 [(0, some K.n, .agg (K.cells t a))] (repL 1 K.z) = some (K.cells t a) := by
 have hrep : repL 1 K.z = K.z := by unfold repL; split <;> simp_all
 have h1 := K.len t a
 rw [hrep]
 simp [h1, K.zlen]
@[simp] def sameD.k1 (C : CSem) (n f : Nat) (Q : AVal → za → Prop) (Y1 : List AVal → za → Prop) (v0 v1 v5 : AVal) (h : za) : Prop :=
 B.pv (V.zi v0) fun v13 =>
  B.pv (V.bin .lss v5 v13) fun v14 =>
  B.cond v14
  (B.pv (V.idxS n v0 v5) fun v19 =>
  B.ldn h v19 n fun v20 =>
  B.pv (V.idxS n v1 v5) fun v23 =>
  B.ldn h v23 n fun v24 =>
  B.call C f [v20, v24] h fun v25 h =>
  B.pv (V.un .not v25) fun v26 =>
  B.cond v26
  (Q (.bool false) h)
  (B.pv (V.bin .add v5 (.int .i64 1)) fun v16 =>
  Y1 [v16] h))
  (Q (.bool true) h)
@[simp] def sameD.l2 (C : CSem) (n f : Nat) (Q : AVal → za → Prop) (v0 v1 : AVal) : List AVal → za → (List AVal → za → Prop) → Prop
 | [v5], h, Y1 => sameD.k1 C n f Q Y1 v0 v1 v5 h
 | _, _, _ => False
def sameD (C : CSem) (n f : Nat) (v0 v1 : AVal) (h : za) (Q : AVal → za → Prop) : Prop :=
 B.pv (V.zi v0) fun v7 =>
  B.pv (V.zi v1) fun v9 =>
  B.pv (V.bin .neq v7 v9) fun v10 =>
  B.cond v10
  (Q (.bool false) h)
  (zg (sameD.l2 C n f Q v0 v1) [(.int .i64 0)] h)
theorem zu7 [DecidableEq T] {f : Nat} (sf : SameE K C f) {y : AVal} {Q : AVal → za → Prop} (hx : Dl K h x L) (hy : Dl K h y M) (hlen : L.length < 4611686018427387904) (hq : Q (.bool (decide (L = M))) h) : sameD C K.n f x y h Q := by
 have hlx := hx.zi
 have hly := hy.zi
 simp -dsimp [sameD, hlx, hly]
 refine B.ze (fun hb => ?_) (fun hb => ?_) <;> simp -dsimp at hb ⊢
 ·rw [decide_eq_false fun e => hb (by rw [e])] at hq
  exact hq
 ·refine zg.intro (fun n vs hh => ∃ k, k + n = L.length ∧ vs = [.int .i64 k] ∧ hh = h ∧ L.take k = M.take k) L.length ?_ ⟨0, by simp, by simp, rfl, by simp⟩
  rintro Y n vs _ ⟨k, hn, rfl, rfl, he⟩ hY
  simp -dsimp [hlx]
  refine B.ze (fun hc => ?_) (fun hc => ?_) <;> simp -dsimp at hc ⊢
  ·obtain ⟨w, hw⟩ := zc6 hc
   obtain ⟨u, hu⟩ := zc6 (L := M) (k := k) (by omega)
   obtain ⟨a, ea⟩ := hx.get hw
   obtain ⟨b, eb⟩ := hy.get hu
   simp -dsimp only [ea.idx, ea.ldn, eb.idx, eb.ldn, B.zf, B.zij]
   refine sf _ _ _ _ _ _ ea.at_ eb.at_ ?_
   simp -dsimp only [V.zp1, B.zf]
   refine B.ze (fun hd => ?_) (fun hd => ?_) <;> simp -dsimp at hd ⊢
   ·rw [decide_eq_false fun e => by subst e; rw [hw] at hu; cases hu; exact hd rfl] at hq
    exact hq
   ·simp [zhg (n := k) (by omega)]
    refine hY (L.length - (k + 1)) _ _ (by omega) ⟨k + 1, by omega, by simp, rfl, ?_⟩
    rw [take_succ hw, take_succ hu, he, hd]
  ·rw [List.take_of_length_le (by omega), List.take_of_length_le (by omega)] at he
   rw [decide_eq_true he] at hq
   exact hq
def zt6 (mk : Int → Int → T) : List T := (List.range 12).map fun (i : Nat) => mk 1 (i : Int)
@[simp] def zst.k1 (C : CSem) (n bytes fm : Nat) (z : List AVal) (Q : AVal → za → Prop) (Y1 : List AVal → za → Prop) (v0 v3 v6 : AVal) (h : za) : Prop :=
 B.pv (V.bin .lss v6 (.int .i64 12)) fun v27 =>
  B.cond v27
  (B.call C fm [(.int .i64 1), v6] h fun v32 h =>
  B.newO h (zc7 [(0, some n, v32)] (repL 1 z)) fun i33 h =>
  B.appW h n bytes v3 (.sl i33 0 0 1 n 1) fun v34 h =>
  B.pv (V.bin .add v6 (.int .i64 1)) fun v29 =>
  Y1 [v34, v29] h)
  (B.pv (V.zi v0) fun v37 =>
  B.pv (V.zfs n v3 none (some v37)) fun v38 =>
  Q v38 h)
@[simp] def zst.l2 (C : CSem) (n bytes fm : Nat) (z : List AVal) (Q : AVal → za → Prop) (v0 : AVal) : List AVal → za → (List AVal → za → Prop) → Prop
 | [v3, v6], h, Y1 => zst.k1 C n bytes fm z Q Y1 v0 v3 v6 h
 | _, _, _ => False
@[simp] def zst.k3 (C : CSem) (n bytes fm fl : Nat) (z : List AVal) (Q : AVal → za → Prop) (Y2 : List AVal → za → Prop) (v0 v3 v4 : AVal) (h : za) : Prop :=
 B.pv (V.zi v0) fun v13 =>
  B.pv (V.bin .lss v4 v13) fun v14 =>
  B.cond v14
  (B.pv (V.idxS n v0 v4) fun v19 =>
  B.ldn h v19 n fun v20 =>
  B.call C fl [v20] h fun v21 h =>
  B.pv (V.setN 0 n v21 (.agg z)) fun c5 =>
  B.pv (V.zb4 0 n c5) fun v23 =>
  B.newO h (zc7 [(0, some n, v23)] (repL 1 z)) fun i24 h =>
  B.appW h n bytes v3 (.sl i24 0 0 1 n 1) fun v25 h =>
  B.pv (V.bin .add v4 (.int .i64 1)) fun v16 =>
  Y2 [v25, v16] h)
  (zg (zst.l2 C n bytes fm z Q v0) [v3, (.int .i64 0)] h)
@[simp] def zst.l4 (C : CSem) (n bytes fm fl : Nat) (z : List AVal) (Q : AVal → za → Prop) (v0 : AVal) : List AVal → za → (List AVal → za → Prop) → Prop
 | [v3, v4], h, Y2 => zst.k3 C n bytes fm fl z Q Y2 v0 v3 v4 h
 | _, _, _ => False
def zst (C : CSem) (n bytes fm fl : Nat) (z : List AVal) (v0 : AVal) (h : za) (Q : AVal → za → Prop) : Prop :=
 B.pv (V.zi v0) fun v8 =>
  B.pv (V.bin .add v8 (.int .i64 12)) fun v9 =>
  0 < n ∧ B.mks h bytes (some z) (.int .i64 0) v9 fun v10 h =>
  zg (zst.l4 C n bytes fm fl z Q v0) [v10, (.int .i64 0)] h
theorem zkw (K : DK T Ad) (t : T) (a : Ad) : V.setN 0 K.n (.agg (K.cells t a)) (.agg K.z) = some (.agg (K.cells t a)) := by
 simp [K.len t a, K.zlen]
theorem zmo (K : DK T Ad) (t : T) (a : Ad) : V.zb4 0 K.n (.agg (K.cells t a)) = some (.agg (K.cells t a)) := by
 have := K.len t a
 simp [this]
 rw [← this, List.take_length]
theorem lentD_spec {mk : Int → Int → T} {fm fl : Nat} (sm : MarkE K mk C fm) (sl : OneE K true C fl) {Q : AVal → za → Prop} (hx : Dl K h x L) (hlen : L.length ≤ 100000000)
  (hq : ∀ x' (P PM : List (T × Ad)) h', P.map (·.1) = L → PM.map (·.1) = zt6 mk → Owns h h' (.sl K.n x' (P.map K.cs) (PM.map K.cs) :: (K.os true P ++ K.os false PM)) → Q x' h') : zst C K.n K.bytes fm fl K.z x h Q := by
 have hlx := hx.zi
 have hmul : ∀ n : Nat, n ≤ 100000100 → n * K.bytes ≤ 140737488355328 := fun n hn => by
  have := Nat.mul_le_mul hn K.small
  omega
 have e1 : IntKind.i64.wrap ((L.length : Int) + 12) = (L.length : Int) + 12 := wrap_i64 (by omega) (by omega)
 simp -dsimp [zst, hlx, e1]
 refine ⟨K.pos, (Owns.start h).mks (es := K.n) K.zlen (by omega) (by omega) ?_ (by omega) fun y h1 ho => ?_⟩
 ·have := hmul (L.length + 12) (by omega)
  have e : ((L.length : Int) + 12) * K.bytes = ((L.length + 12) * K.bytes : Nat) := by simp
  rw [e]; omega
 refine zg.intro (fun n vs hh => ∃ (k : Nat) (y : AVal) (P : List (T × Ad)) (R : List (List AVal)), k + n = L.length ∧ vs = [y, .int .i64 k] ∧ P.map (·.1) = L.take k ∧ Owns h hh (.sl K.n y (P.map K.cs) R :: K.os true P)) L.length ?_ ⟨0, y, [], _, by simp, by simp, by simp, by simpa [DK.os] using ho⟩
 rintro Y n vs hh ⟨k, y3, P, R3, hn, rfl, hP, ho3⟩ hY
 have hPl : P.length = k := by have := congrArg List.length hP; simp at this; omega
 simp -dsimp [hlx]
 refine B.ze (fun hc => ?_) (fun hc => ?_) <;> simp -dsimp at hc ⊢
 ·obtain ⟨w, hw⟩ := zc6 hc
  obtain ⟨a, ea⟩ := (hx.mono ho3.le).get hw
  simp -dsimp only [ea.idx, ea.ldn, B.zf, B.zij]
  refine sl _ _ _ _ ea.at_ fun a' h4 o4 => ?_
  simp -dsimp only [zkw K _ a', zmo K _ a', zqt K _ a', B.zf]
  refine (ho3.join o4).push 0 rfl (K.len _ a') K.pos (by simp; exact hmul _ (by omega)) (by simp [maxLen]; omega) fun y5 h5 o5 _ => ?_
  simp -dsimp [zhg (n := k) (by omega)]
  refine hY (L.length - (k + 1)) _ _ (by omega) ⟨k + 1, y5, P ++ [(w, a')], [], by omega, by simp, ?_, ?_⟩
  ·rw [take_succ hw, List.map_append, hP]; rfl
  ·rw [DK.zk2, DK.zu8, List.map_append]
   simpa using o5
 ·have hk : k = L.length := by omega
  rw [hk, List.take_length] at hP
  refine zg.intro (fun n vs hh => ∃ (j : Nat) (y : AVal) (PM : List (T × Ad)) (R : List (List AVal)), j + n = 12 ∧ vs = [y, .int .i64 j] ∧ PM.map (·.1) = (List.range j).map (fun (i : Nat) => mk 1 (i : Int)) ∧ Owns h hh (.sl K.n y (P.map K.cs ++ PM.map K.cs) R :: (K.os true P ++ K.os false PM))) 12 ?_
   ⟨0, y3, [], R3, by simp, by simp, by simp, by simpa [DK.os] using ho3⟩
  rintro Z n' vs h4 ⟨j, y4, PM, R4, hj, rfl, hPM, o4⟩ hZ
  have hMl : PM.length = j := by have := congrArg List.length hPM; simpa using this
  simp -dsimp only [zst.l2, zst.k1, V.zrt, B.zf]
  refine B.ze (fun hd => ?_) (fun hd => ?_) <;> simp -dsimp at hd
  ·refine sm _ _ _ _ fun a' h5 o5 => ?_
   simp -dsimp only [zqt K _ a']
   refine (o4.join o5).push 0 rfl (K.len _ a') K.pos (by simp; exact hmul _ (by omega)) (by simp [maxLen]; omega) fun y6 h6 o6 _ => ?_
   simp -dsimp [zhg (n := j) (by omega)]
   refine hZ (12 - (j + 1)) _ _ (by omega) ⟨j + 1, y6, PM ++ [(mk 1 j, a')], [], by omega, by simp, ?_, ?_⟩
   ·rw [List.map_append, hPM, List.range_succ, List.map_append]; rfl
   ·rw [DK.zk2, DK.zu8, List.map_append]
    simpa using o6
  ·have hj12 : j = 12 := by omega
   subst hj12
   obtain ⟨x', e2, e3, e4⟩ := (o4.slAt 0 rfl).slice K.pos (lo := 0) (hi := L.length) (a := none) (b := some (.int .i64 L.length)) (.inl ⟨rfl, rfl⟩) (.inr ⟨_, rfl⟩) (by omega) (by simp; omega)
   simp -dsimp only [hlx, e2, B.zf]
   have h1 : ((P.map K.cs ++ PM.map K.cs ++ R4).take L.length).drop 0 = P.map K.cs := by
    rw [List.append_assoc, List.take_append_of_le_length (by simp; omega), List.take_of_length_le (by simp; omega), List.drop_zero]
   have h2 : (P.map K.cs ++ PM.map K.cs ++ R4).drop L.length = PM.map K.cs ++ R4 := by
    rw [List.append_assoc, List.drop_append_of_le_length (by simp; omega), List.drop_of_length_le (by simp; omega), List.nil_append]
   rw [h1, h2] at e3
   have e5 : SlX h4 K.n x' (P.map K.cs) (PM.map K.cs) := e3.cutR
   refine hq x' P PM h4 hP hPM ?_
   exact o4.turn 0 rfl (o' := .sl K.n x' (P.map K.cs) (PM.map K.cs)) e5 (fun id b hf hb => o4.zod 0 rfl id b (by show foot y4 = some id; rw [← e4]; exact hf) hb) (fun j b hb _ => hb) (.inl e4)
def zsw (K : DK T Ad) (mk : Int → Int → T) (h : za) (x : AVal) (L : List T) : Prop :=
 ∃ P PM : List (T × Ad), P.map (·.1) = L ∧ PM.map (·.1) = zt6 mk ∧ SlX h K.n x (P.map K.cs) (PM.map K.cs) ∧ zsx h (K.os true P) ∧ (∀ p ∈ P, K.ok p.1) ∧ ∀ p ∈ PM, K.at_ h p.1 p.2
theorem zsw.mono {mk : Int → Int → T} (hd : zsw K mk h x L) (hle : h.le h') : zsw K mk h' x L := by
 obtain ⟨P, PM, e1, e2, s, a1, a0, a2⟩ := hd
 exact ⟨P, PM, e1, e2, s.mono hle, a1.mono hle, a0, fun p hp => K.mono hle (a2 p hp)⟩
theorem zsw.dl {mk : Int → Int → T} (hd : zsw K mk h x L) : Dl K h x L := by
 obtain ⟨P, PM, e1, e2, s, a1, a0, a2⟩ := hd
 exact ⟨P, _, e1, s, fun p hp => K.zuy (a0 p hp) fun o ho => a1 o (List.mem_flatMap.2 ⟨p, hp, ho⟩)⟩
theorem mks12_ok {mk : Int → Int → T} {PM : List (T × Ad)} (hmk : ∀ k i, K.ok (mk k i)) (e2 : PM.map (·.1) = zt6 mk) : ∀ p ∈ PM, K.ok p.1 := fun p hp => by
 have : p.1 ∈ PM.map (·.1) := List.mem_map.2 ⟨p, hp, rfl⟩
 rw [e2, zt6, List.mem_map] at this
 obtain ⟨i, _, e⟩ := this
 rw [← e]; exact hmk _ _
theorem zsw.of {mk : Int → Int → T} {P PM : List (T × Ad)} (hmk : ∀ k i, K.ok (mk k i)) (hok : ∀ t ∈ L, K.ok t) (e1 : P.map (·.1) = L) (e2 : PM.map (·.1) = zt6 mk) (ho : Owns h0 h (.sl K.n x (P.map K.cs) (PM.map K.cs) :: (K.os true P ++ K.os false PM))) : zsw K mk h x L :=
 ⟨P, PM, e1, e2, ho.slAt 0 rfl, fun o hm => ho.is o (List.mem_cons_of_mem _ (List.mem_append_left _ hm)), fun p hp => hok _ (e1 ▸ List.mem_map.2 ⟨p, hp, rfl⟩), fun p hp => K.zuy (mks12_ok hmk e2 p hp) fun o hm => ho.is o (List.mem_cons_of_mem _ (List.mem_append_right _ (List.mem_flatMap.2 ⟨p, hp, hm⟩)))⟩
@[simp] def keptD.k1 (C : CSem) (n fk fm fs : Nat) (Q : AVal → za → Prop) (Y1 : List AVal → za → Prop) (v1 v5 v6 : AVal) (h : za) : Prop :=
 B.pv (V.zi v5) fun v19 =>
  B.pv (V.bin .lss v6 v19) fun v20 =>
  B.cond v20
  (B.pv (V.zi v1) fun v25 =>
  B.pv (V.bin .lss v6 v25) fun v26 =>
  B.gd h v26 true (fun K => K v5 h) fun v28 h =>
  B.gd h v26 true (fun K => K v6 h) fun v29 h =>
  B.gd h v26 true (fun K => B.pv (V.idxS n v28 v29) fun v => K v h) fun v30 h =>
  B.gd h v26 true (fun K => B.ldn h v30 n fun v => K v h) fun v31 h =>
  B.gd h v26 true (fun K => K v1 h) fun v32 h =>
  B.gd h v26 true (fun K => K v6 h) fun v33 h =>
  B.gd h v26 true (fun K => B.pv (V.idxS n v32 v33) fun v => K v h) fun v34 h =>
  B.gd h v26 true (fun K => B.ldn h v34 n fun v => K v h) fun v35 h =>
  B.gd h v26 true (fun K => B.call C fk [v31, v35] h K) fun v36 h =>
  B.gd h v26 true (fun K => B.pv (V.un .not v36) fun v => K v h) fun v37 h =>
  B.pick v26 v37 (.bool false) fun v38 =>
  B.gd h v38 false (fun K => K v6 h) fun v40 h =>
  B.gd h v38 false (fun K => K v1 h) fun v41 h =>
  B.gd h v38 false (fun K => B.pv (V.zi v41) fun v => K v h) fun v42 h =>
  B.gd h v38 false (fun K => B.pv (V.bin .geq v40 v42) fun v => K v h) fun v43 h =>
  B.gd h v38 false (fun K => K v43 h) fun v44 h =>
  B.gd h v44 true (fun K => K v5 h) fun v45 h =>
  B.gd h v44 true (fun K => K v6 h) fun v46 h =>
  B.gd h v44 true (fun K => B.pv (V.idxS n v45 v46) fun v => K v h) fun v47 h =>
  B.gd h v44 true (fun K => B.ldn h v47 n fun v => K v h) fun v48 h =>
  B.gd h v44 true (fun K => K v6 h) fun v49 h =>
  B.gd h v44 true (fun K => K v1 h) fun v50 h =>
  B.gd h v44 true (fun K => B.pv (V.zi v50) fun v => K v h) fun v51 h =>
  B.gd h v44 true (fun K => B.pv (V.bin .sub v49 v51) fun v => K v h) fun v52 h =>
  B.gd h v44 true (fun K => B.call C fm [(.int .i64 1), v52] h (B.zlj h [(v47, some n)] K)) fun v53 h =>
  B.gd h v44 true (fun K => B.call C fs [v48, v53] h K) fun v54 h =>
  B.gd h v44 true (fun K => B.pv (V.un .not v54) fun v => K v h) fun v55 h =>
  B.gd h v38 false (fun K => B.pick v44 v55 (.bool false) fun v => K v h) fun v56 h =>
  B.pick v38 (.bool true) v56 fun v57 =>
  B.cond v57
  (Q (.bool false) h)
  (B.pv (V.bin .add v6 (.int .i64 1)) fun v22 =>
  Y1 [v22] h))
  (Q (.bool true) h)
@[simp] def keptD.l2 (C : CSem) (n fk fm fs : Nat) (Q : AVal → za → Prop) (v1 v5 : AVal) : List AVal → za → (List AVal → za → Prop) → Prop
 | [v6], h, Y1 => keptD.k1 C n fk fm fs Q Y1 v1 v5 v6 h
 | _, _, _ => False
@[simp] def keptD.k3 (C : CSem) (n fk fm fs : Nat) (Q : AVal → za → Prop) (v0 v1 : AVal) (h : za) : Prop :=
 B.pv (V.zi v1) fun v14 =>
  B.pv (V.bin .add v14 (.int .i64 12)) fun v15 =>
  B.pv (V.zfs n v0 none (some v15)) fun v16 =>
  zg (keptD.l2 C n fk fm fs Q v1 v16) [(.int .i64 0)] h
def keptD (C : CSem) (n fk fm fs : Nat) (v0 v1 : AVal) (h : za) (Q : AVal → za → Prop) : Prop :=
 B.pv (V.zi v0) fun v8 =>
  B.pv (V.zi v1) fun v10 =>
  B.pv (V.bin .neq v8 v10) fun v11 =>
  B.cond v11
  (Q (.bool false) h)
  (keptD.k3 C n fk fm fs Q v0 v1 h)
theorem keptD_spec [DecidableEq T] {mk : Int → Int → T} {fk fm fs : Nat} (hmk : ∀ k i, K.ok (mk k i)) (sk : KeptE K C fk) (sm : MarkE K mk C fm) (ss : SameE K C fs) {y : AVal} {Q : AVal → za → Prop} (hx : zsw K mk h x L) (hy : Dl K h y M) (hlen : L.length ≤ 100000000)
  (hq : ∀ h', h.le h' → Q (.bool (decide (L = M))) h') : keptD C K.n fk fm fs x y h Q := by
 have hlx := hx.dl.zi
 have hly := hy.zi
 simp -dsimp [keptD, hlx, hly]
 refine B.ze (fun hb => ?_) (fun hb => ?_) <;> simp -dsimp at hb ⊢
 ·have hq := hq h (za.le_refl h)
  rw [decide_eq_false fun e => hb (by rw [e])] at hq
  exact hq
 ·obtain ⟨P, PM, rfl, hPM, s, a1, a0, a2⟩ := hx
  have hMl : PM.length = 12 := by have := congrArg List.length hPM; simpa [zt6] using this
  rw [List.length_map] at hb hlen
  have e1 : IntKind.i64.wrap ((M.length : Int) + 12) = ((M.length + 12 : Nat) : Int) := by rw [wrap_i64 (by omega) (by omega)]; omega
  obtain ⟨z, e2, e3, e4⟩ := s.slice K.pos (lo := 0) (hi := M.length + 12) (a := none) (b := some (.int .i64 ((M.length + 12 : Nat) : Int))) (.inl ⟨rfl, rfl⟩) (.inr ⟨_, rfl⟩) (by omega) (by simp; omega)
  have h1 : ((P.map K.cs ++ PM.map K.cs).take (M.length + 12)).drop 0 = (P ++ PM).map K.cs := by rw [List.drop_zero, List.take_of_length_le, List.map_append]; simp; omega
  rw [h1] at e3
  have hlz := e3.zi
  simp only [List.length_map, List.length_append, hMl] at hlz
  simp only [hly, V.zet, e1, e2, B.zf]
  refine zg.intro (fun n vs hh => ∃ k, k + n = P.length + 12 ∧ vs = [.int .i64 k] ∧ h.le hh ∧ (P.map (·.1)).take k = M.take k) (P.length + 12) ?_ ⟨0, by simp, by simp, za.le_refl h, by simp⟩
  rintro Y n vs hh ⟨k, hn, rfl, hle, he⟩ hY
  have e3 := e3.mono hle
  simp -dsimp [hlz]
  refine B.ze (fun hc => ?_) (fun hc => ?_) <;> simp -dsimp at hc ⊢
  ·by_cases hkL : k < P.length
   ·obtain ⟨p, hp⟩ := zc6 hkL
    have hkM : k < M.length := by omega
    obtain ⟨u, hu⟩ := zc6 hkM
    obtain ⟨b, eb⟩ := (hy.mono hle).get hu
    have hpz : ((P ++ PM).map K.cs)[k]? = some (K.cells p.1 p.2) := by rw [List.getElem?_map, List.getElem?_append_left hkL, hp]; rfl
    have hkz : k < ((P ++ PM).map K.cs).length := by simp; omega
    have e5 := e3.elem hpz
    have e6 := e3.idxN (k := .i64) hkz
    have hw : (P.map (·.1))[k]? = some p.1 := by rw [List.getElem?_map, hp]; rfl
    simp -dsimp only [hly, V.zrt, show ((k : Int) < (M.length : Int)) by omega, decide_true, B.gd_t, B.gdb_pure, B.zjh, gv_true, e6, e5, eb.idx, eb.ldn, B.zf, B.zij]
    refine sk _ _ _ _ _ _ (a0 p (List.mem_of_getElem? hp)) (zsx.mono (l := K.obs true p.1 p.2) (fun o ho => a1 o (List.mem_flatMap.2 ⟨p, List.mem_of_getElem? hp, ho⟩)) hle) eb.at_ ?_
    simp -dsimp only [B.gd_t, B.zjh, V.zp1, B.zf, B.pick_t]
    by_cases hwu : p.1 = u
    ·simp -dsimp only [hwu, decide_true, Bool.not_true, B.gd_f, Bool.not_false, B.zjh, hly, V.zru, show ¬ ((M.length : Int) ≤ (k : Int)) by omega, decide_false, B.gd_t, B.zuh, B.pick_f, B.zf, B.cond_false, V.zet, zhg (n := k) (by omega)]
     refine hY (P.length + 12 - (k + 1)) _ _ (by omega) ⟨k + 1, by omega, rfl, hle, ?_⟩
     rw [take_succ hw, take_succ hu, he, hwu]
    ·simp -dsimp only [hwu, decide_false, Bool.not_false, B.gd_f, Bool.not_true, B.zuh, B.pick_t, B.cond_true, B.gd_tup]
     have hq := hq hh hle
     rw [decide_eq_false fun e => by rw [e, hu] at hw; cases hw; exact hwu rfl] at hq
     exact hq
   ·have hkM : ¬ k < M.length := by omega
    obtain ⟨p, hp⟩ := zc6 (L := PM) (k := k - P.length) (by omega)
    have hpz : ((P ++ PM).map K.cs)[k]? = some (K.cells p.1 p.2) := by rw [List.getElem?_map, List.getElem?_append_right (by omega), hp]; rfl
    have hkz : k < ((P ++ PM).map K.cs).length := by simp; omega
    have e5 := e3.elem hpz
    have e6 := e3.idxN (k := .i64) hkz
    have hm : p.1 = mk 1 ((k - M.length : Nat) : Int) := by
     have : (PM.map (·.1))[k - P.length]? = some p.1 := by rw [List.getElem?_map, hp]; rfl
     rw [hPM, zt6, List.getElem?_map, List.getElem?_range (by omega)] at this
     simp only [Option.map_some, Option.some.injEq] at this
     rw [← this]; congr 2; omega
    have e7 : IntKind.i64.wrap ((k : Int) - M.length) = ((k - M.length : Nat) : Int) := by rw [wrap_i64 (by omega) (by omega)]; omega
    simp -dsimp only [hly, V.zrt, show ¬ ((k : Int) < (M.length : Int)) by omega, decide_false, B.gd_t, B.gdb_pure, B.zuh, gv_false, B.pick_f, B.gd_f, Bool.not_false, B.zjh, gv_true, V.zru, show ((M.length : Int) ≤ (k : Int)) by omega, decide_true, e6, e5, V.zi5, e7, B.zf, B.zij]
    refine sm _ _ _ _ fun a' h5 o5 => ⟨?_, ?_⟩
    ·intro q hq
     rw [List.mem_singleton.1 hq]
     exact ⟨_, e5, (e3.mono o5.le).elem hpz⟩
    ·simp -dsimp only [gv_true, B.gd_t, B.zjh, B.zf, decide_true]
     refine ss _ _ _ _ _ _ (K.mono (za.le_trans hle o5.le) (a2 p (List.mem_of_getElem? hp))) (K.zuy (hmk _ _) o5.is) ?_
     simp -dsimp only [hm, gv_true, decide_true, decide_false, V.zp1, Bool.not_true, Bool.not_false, B.gd_t, B.gd_f, B.zjh, B.pick_t, B.pick_f, B.zf, B.cond_false, V.zet, zhg (n := k) (by omega)]
     refine hY (P.length + 12 - (k + 1)) _ _ (by omega) ⟨k + 1, by omega, rfl, za.le_trans hle o5.le, ?_⟩
     rw [List.take_of_length_le (by simp; omega), List.take_of_length_le (by omega)] at he ⊢
     exact he
  ·have hq := hq hh hle
   rw [List.take_of_length_le (by simp; omega), List.take_of_length_le (by omega)] at he
   rw [decide_eq_true he] at hq
   exact hq
end
structure Itm where
 Code : List UInt8
 Life : Int
 zdd : List Part
 zck : List (List UInt8)
 deriving DecidableEq
def few : Nat := 100000000
abbrev Itm.ok (t : Itm) : Prop := t.zdd.length ≤ few ∧ t.zck.length ≤ few
def zrb (b : Bool) (x : AVal) (l : List Part) : Ob := .sl 2 x (l.map Part.cs) (bif b then zj0 else [])
def zq0 (b : Bool) (x : AVal) (l : List (List UInt8)) : Ob := .sl 1 x (l.map tc) (bif b then ziv else [])
def zd6 : DK Itm (AVal × AVal) where
 n := 4
 bytes := 72
 z := [.str [], .int .i64 0, .nils, .nils]
 pos := by omega
 small := by omega
 zlen := rfl
 cells t a := [.str t.Code, .int .i64 t.Life, a.1, a.2]
 len _ _ := rfl
 at_ h t a := (∃ R, SlX h 2 a.1 (t.zdd.map Part.cs) R) ∧ (∃ R, SlX h 1 a.2 (t.zck.map tc) R) ∧ t.ok
 mono hle ha := ⟨ha.1.imp fun _ r => r.mono hle, ha.2.1.imp fun _ r => r.mono hle, ha.2.2⟩
 ok := Itm.ok
 at_ok ha := ha.2.2
 obs b t a := [zrb b a.1 t.zdd, zq0 b a.2 t.zck]
 zuy {b h t a} hk ha := ⟨⟨_, show SlX h 2 a.1 (t.zdd.map Part.cs) (bif b then zj0 else []) from ha (zrb b a.1 t.zdd) (by simp)⟩, ⟨_, show SlX h 1 a.2 (t.zck.map tc) (bif b then ziv else []) from ha (zq0 b a.2 t.zck) (by simp)⟩, hk⟩
theorem Itm.eq_iff (t u : Itm) : t = u ↔ ((t.Code = u.Code ∧ t.Life = u.Life) ∧ t.zdd = u.zdd) ∧ t.zck = u.zck := by
 cases t; cases u; simp [Itm.mk.injEq, and_assoc]
def zc5.Spec (C : CSem) (N : Nat → Nat) : Prop := SameE zd6 C (N 110)
theorem zc5.spec (i : zc5.Imp C N) (s1 : zcn.Spec C N) (s2 : zcl.Spec C N) : zc5.Spec C N := by
 intro t u a b h Q ha hb hq
 obtain ⟨⟨R1, a1⟩, ⟨R2, a2⟩, a3, a4⟩ : (∃ R, SlX h 2 a.1 (t.zdd.map Part.cs) R) ∧ (∃ R, SlX h 1 a.2 (t.zck.map tc) R) ∧ t.ok := ha
 obtain ⟨⟨S1, b1⟩, ⟨S2, b2⟩, b3, b4⟩ : (∃ R, SlX h 2 b.1 (u.zdd.map Part.cs) R) ∧ (∃ R, SlX h 1 b.2 (u.zck.map tc) R) ∧ u.ok := hb
 unfold few at a3 a4
 apply i
 simp +contextual -dsimp [zd6]
 refine B.zea (v := .bool (decide (t.zdd = u.zdd))) (fun _ Q hq => s1 _ _ _ _ _ _ _ _ a1 b1 (by omega) hq) ?_
 simp +contextual -dsimp
 refine B.zea (v := .bool (decide (t.zck = u.zck))) (fun _ Q hq => s2 _ _ _ _ _ _ _ _ a2 b2 (by omega) hq) ?_
 simp -dsimp
 refine zj ?_
 have : decide (t = u) = (((decide (t.Code = u.Code) && decide (t.Life = u.Life)) && decide (t.zdd = u.zdd)) && decide (t.zck = u.zck)) := by
  rw [Bool.eq_iff_iff]
  simp only [decide_eq_true_eq, Bool.and_eq_true]
  exact Itm.eq_iff t u
 rw [this] at hq
 exact hq
def zdj.Spec (C : CSem) (N : Nat → Nat) : Prop := OneE zd6 true C (N 399)
theorem zdj.spec (i : zdj.Imp C N) (s1 : zcq.Spec C N) (s2 : zcp.Spec C N) : zdj.Spec C N := by
 intro t a h Q ha hq
 obtain ⟨⟨R1, a1⟩, ⟨R2, a2⟩, a3, a4⟩ : (∃ R, SlX h 2 a.1 (t.zdd.map Part.cs) R) ∧ (∃ R, SlX h 1 a.2 (t.zck.map tc) R) ∧ t.ok := ha
 apply i
 simp -dsimp [zd6]
 refine s1 _ _ _ _ _ a1 a3 fun x1 h1 o1 => ?_
 have c1 := (o1.slAt 0 rfl).zl
 simp -dsimp [c1]
 refine s2 _ _ _ _ _ (a2.mono o1.le) a4 fun x2 h2 o2 => ?_
 have c2 := (o2.slAt 0 rfl).zl
 simp -dsimp [c2]
 exact zj (hq (x1, x2) h2 (o1.join o2))
def zdk.Spec (C : CSem) (N : Nat → Nat) : Prop := KeptE zd6 C (N 400)
theorem zdk.spec (i : zdk.Imp C N) (s0 : zc5.Spec C N) (s1 : zca.Spec C N) (s2 : zb9.Spec C N) : zdk.Spec C N := by
 intro t u a b h Q hok ha hb hq
 apply i
 have ha' := zd6.zuy hok ha
 obtain ⟨⟨S1, b1⟩, ⟨S2, b2⟩, b3, b4⟩ : (∃ R, SlX h 2 b.1 (u.zdd.map Part.cs) R) ∧ (∃ R, SlX h 1 b.2 (u.zck.map tc) R) ∧ u.ok := hb
 have k1 : SlX h 2 a.1 (t.zdd.map Part.cs) zj0 := ha (zrb true a.1 t.zdd) (by simp [zd6])
 have k2 : SlX h 1 a.2 (t.zck.map tc) ziv := ha (zq0 true a.2 t.zck) (by simp [zd6])
 simp -dsimp [zd6]
 refine s0 t u a b h _ ha' ⟨⟨S1, b1⟩, ⟨S2, b2⟩, b3, b4⟩ ?_
 simp +contextual -dsimp
 refine B.zea (v := .bool (decide (t.zdd = u.zdd))) (fun _ Q hq => s1 _ _ _ _ _ _ _ k1 b1 hok.1 hq) ?_
 simp +contextual -dsimp
 refine B.zea (v := .bool (decide (t.zck = u.zck))) (fun _ Q hq => s2 _ _ _ _ _ _ _ k2 b2 hok.2 hq) ?_
 simp -dsimp
 refine zj ?_
 have : decide (t = u) = (decide (t = u) && decide (t.zdd = u.zdd) && decide (t.zck = u.zck)) := by
  by_cases h : t = u
  ·subst h; simp
  ·simp [h]
 rw [this] at hq
 exact hq
def zh8 (k i : Int) : Itm := ⟨[], mark k i, [], []⟩
theorem zt9 (k i : Int) : zd6.ok (zh8 k i) := ⟨by simp [zh8], by simp [zh8]⟩
def zc4.Spec (C : CSem) (N : Nat → Nat) : Prop := MarkE zd6 zh8 C (N 109)
theorem zc4.spec (i : zc4.Imp C N) (s1 : ze7.Spec C N) : zc4.Spec C N := by
 intro k j h Q hq
 apply i
 simp -dsimp
 refine s1 _ _ _ _ ?_
 simp -dsimp
 exact zj (hq (.nils, .nils) _ (by simpa [zd6, zh8, zrb, zq0] using ((Owns.start h).nils 2).nils 1))
def zbq.Spec (C : CSem) (N : Nat → Nat) : Prop := ∀ (x y : AVal) (L M : List Itm) (h : za) (Q : AVal → za → Prop), Dl zd6 h x L → Dl zd6 h y M → L.length < 4611686018427387904 → Q (.bool (decide (L = M))) h → C (N 134) [x, y] h Q
theorem zbq.spec (i : zbq.Imp C N) (s1 : zc5.Spec C N) : zbq.Spec C N := fun x y L M h Q hx hy hl hq =>
 i x y h Q (zu7 (K := zd6) s1 hx hy hl (zj hq))
def zbg.Spec (C : CSem) (N : Nat → Nat) : Prop := ∀ (x : AVal) (L : List Itm) (h : za) (Q : AVal → za → Prop), Dl zd6 h x L → L.length ≤ 100000000 →
 (∀ x' P PM h', P.map (·.1) = L → PM.map (·.1) = zt6 zh8 → Owns h h' (.sl 4 x' (P.map zd6.cs) (PM.map zd6.cs) :: (zd6.os true P ++ zd6.os false PM)) → Q x' h') → C (N 391) [x] h Q
theorem zbg.spec (i : zbg.Imp C N) (s1 : zc4.Spec C N) (s2 : zdj.Spec C N) : zbg.Spec C N := fun x L h Q hx hl hq =>
 i x h Q (lentD_spec (K := zd6) s1 s2 hx hl fun x' P PM h' e1 e2 ho => zj (hq x' P PM h' e1 e2 ho))
def zbl.Spec (C : CSem) (N : Nat → Nat) : Prop := ∀ (x y : AVal) (L M : List Itm) (h : za) (Q : AVal → za → Prop), zsw zd6 zh8 h x L → Dl zd6 h y M → L.length ≤ 100000000 →
 Q (.bool (decide (L = M))) h → C (N 392) [x, y] h Q
theorem zbl.spec (i : zbl.Imp C N) (s1 : zdk.Spec C N) (s2 : zc4.Spec C N) (s3 : zc5.Spec C N) : zbl.Spec C N := fun x y L M h Q hx hy hl hq =>
 i x y h Q (keptD_spec (K := zd6) zt9 s1 s2 s3 hx hy hl fun h' hle => zsu hle hq)
structure Row where
 Key : List UInt8
 Value : List UInt8
 deriving DecidableEq
def bOb (b : Bool) (x : AVal) (s : List UInt8) : Ob := .sl 1 x (s.map bc) (bif b then marksByte else [])
theorem bOb_at {b : Bool} {h : za} {x : AVal} {s : List UInt8} (hs : s.length ≤ far) (ha : (bOb b x s).at h) : Bs h x s := ⟨⟨_, ha⟩, hs⟩
abbrev Row.ok (r : Row) : Prop := r.Key.length ≤ far ∧ r.Value.length ≤ far
def rowK : DK Row (AVal × AVal) where
 n := 2
 bytes := 48
 z := [.nils, .nils]
 pos := by omega
 small := by omega
 zlen := rfl
 cells _ a := [a.1, a.2]
 len _ _ := rfl
 at_ h t a := Bs h a.1 t.Key ∧ Bs h a.2 t.Value
 mono hle ha := ⟨ha.1.mono hle, ha.2.mono hle⟩
 ok := Row.ok
 at_ok ha := ⟨ha.1.2, ha.2.2⟩
 obs b t a := [bOb b a.1 t.Key, bOb b a.2 t.Value]
 zuy {b h t a} hk ha := ⟨bOb_at (b := b) hk.1 (ha _ (by simp)), bOb_at (b := b) hk.2 (ha _ (by simp))⟩
def zci.SpecL (C : CSem) (N : Nat → Nat) : Prop := ∀ (x y : AVal) (s t : List UInt8) (h : za) (Q : AVal → za → Prop), Bs h x s → Bs h y t → Q (.bool (decide (s = t))) h → C (N 34) [x, y] h Q
theorem zci.spl (i : zci.Imp C N) : zci.SpecL C N := fun x y s t h Q ⟨⟨R, hx⟩, hs⟩ ⟨⟨S, hy⟩, ht⟩ hq =>
 i x y h Q (zu6 bS hx hy (by unfold far at hs; omega) (zj hq))
def zdw.Spec (C : CSem) (N : Nat → Nat) : Prop := SameE rowK C (N 118)
theorem zdw.spec (i : zdw.Imp C N) (s1 : zci.SpecL C N) : zdw.Spec C N := by
 intro t u a b h Q ha hb hq
 obtain ⟨a1, a2⟩ : Bs h a.1 t.Key ∧ Bs h a.2 t.Value := ha
 obtain ⟨b1, b2⟩ : Bs h b.1 u.Key ∧ Bs h b.2 u.Value := hb
 apply i
 simp -dsimp [rowK]
 refine s1 _ _ _ _ _ _ a1 b1 ?_
 simp +contextual -dsimp
 refine B.zea (v := .bool (decide (t.Value = u.Value))) (fun _ Q hq => s1 _ _ _ _ _ _ a2 b2 hq) ?_
 simp -dsimp
 refine zj ?_
 have : decide (t = u) = (decide (t.Key = u.Key) && decide (t.Value = u.Value)) := by
  cases t; cases u; simp [Row.mk.injEq]
 rw [this] at hq
 exact hq
def zt8 (k i : Int) : Row := ⟨[zg7 k i], []⟩
theorem markRow_ok (k i : Int) : rowK.ok (zt8 k i) := ⟨by simp [zt8, far], by simp [zt8]⟩
def zd5.Spec (C : CSem) (N : Nat → Nat) : Prop := MarkE rowK zt8 C (N 117)
theorem zd5.spec (i : zd5.Imp C N) (s1 : zc9.Spec C N) : zd5.Spec C N := by
 intro k j h Q hq
 apply i
 simp -dsimp
 refine s1 _ _ _ _ ?_
 simp -dsimp
 intro id hid
 simp -dsimp
 have o := (Owns.start h).zof hid (n := 1) (cp := 1) (es := 1) (cs := [.int .u8 ((zg7 k j).toNat : Int)]) (L := [zg7 k j].map bc) (R := []) (by simp) rfl (by simp) rfl
 exact zj (hq (.sl id 0 0 1 1 1, .nils) _ (by simpa [rowK, zt8, bOb] using o.nils 1))
def zb2.Spec (C : CSem) (N : Nat → Nat) : Prop := ∀ (x y : AVal) (L M : List Row) (h : za) (Q : AVal → za → Prop), Dl rowK h x L → Dl rowK h y M → L.length < 4611686018427387904 → Q (.bool (decide (L = M))) h → C (N 263) [x, y] h Q
theorem zb2.spec (i : zb2.Imp C N) (s1 : zdw.Spec C N) : zb2.Spec C N := fun x y L M h Q hx hy hl hq =>
 i x y h Q (zu7 (K := rowK) s1 hx hy hl (zj hq))
abbrev zrj : List UInt8 → List UInt8 → Bool := Op.bytesLess
abbrev cmpB := Lib.compareBytes
section
variable {V : Type}
variable (E : V → List V)
variable {E}
variable {K : List V} {D : V → Option Nat}
end
def ztx (x : Itm) : List (List UInt8) := x.zdd.map Part.Item
def zmx.right (w : zmx) : Bool := decide (0 ≤ w.From) && decide (w.From ≤ w.zog) && decide (w.zog ≤ 4001)
def zdf.Spec (C : CSem) (N : Nat → Nat) : Prop := ∀ (a b : Int) (h : za) (Q : AVal → za → Prop), Q (.bool (zmx.right ⟨a, b⟩)) h → C (N 5) [.agg [.int .i64 a, .int .i64 b]] h Q
theorem zdf.spec (i : zdf.Imp C N) : zdf.Spec C N := by
 intro a b h Q hq
 apply i
 simp +contextual -dsimp
 exact zj hq
end Go.Ab
