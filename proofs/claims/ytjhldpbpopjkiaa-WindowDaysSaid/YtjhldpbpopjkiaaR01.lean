/- What is told: residuals: what each function of the program does in the abstract memory, printed by a program of mine. Definitions alone. -/
import Derived.Test.YtjhldpbpopjkiaaAcA
set_option linter.unusedVariables false
namespace Go.Ab


@[simp] def law01_WindowTells.k1 (C : CSem) (N : Nat → Nat) (Q : AVal → AHeap → Prop) (v0 v1 v2 : AVal) (h : AHeap) : Prop :=
  B.pv (A.boxN 2 v0) fun c3 =>
    B.pv (A.boxN 2 v1) fun c4 =>
    B.call C (N 0) [] h fun v15 h =>
    B.pv (V.un .not v15) fun v16 =>
    B.cond v16
    (Q (.bool false) h)
    (B.pv (V.fieldN 0 2 c3) fun v18 =>
    B.pv (V.fieldN 0 2 c4) fun v19 =>
    B.call C (N 1) [v18, v19] h fun v20 h =>
    B.pv (V.ext 0 v20) fun v21 =>
    B.pv (V.ext 1 v20) fun v22 =>
    B.pv (V.setN 0 2 v21 (.agg [.int .i64 0, .int .i64 0])) fun c7 =>
    B.pv (V.fieldN 0 2 c3) fun v24 =>
    B.pv (V.fieldN 0 2 c4) fun v25 =>
    B.call C (N 2) [v24, v25] h fun v26 h =>
    B.pv (V.ext 0 v26) fun v27 =>
    B.pv (V.ext 1 v26) fun v28 =>
    B.pv (V.setN 0 2 v27 (.agg [.int .i64 0, .int .i64 0])) fun c9 =>
    B.pv (V.fieldN 0 2 c3) fun v30 =>
    B.call C (N 3) [v30, v2] h fun v32 h =>
    B.pv (V.ext 0 v32) fun v33 =>
    B.pv (V.ext 1 v32) fun v34 =>
    B.pv (V.setN 0 2 v33 (.agg [.int .i64 0, .int .i64 0])) fun c11 =>
    B.pv (V.fieldN 0 2 c3) fun v36 =>
    B.call C (N 4) [v36, v2] h fun v38 h =>
    B.pv (V.ext 0 v38) fun v39 =>
    B.pv (V.ext 1 v38) fun v40 =>
    B.pv (V.setN 0 2 v39 (.agg [.int .i64 0, .int .i64 0])) fun c13 =>
    B.pv (V.fieldN 0 2 c3) fun v41 =>
    B.pv (V.fieldN 0 2 c3) fun v43 =>
    B.al c3 (B.call C (N 5) [v41] h fun v42 h =>
    B.call C (N 6) [v43] h fun v44 h =>
    B.pv (V.eqBool .eql v42 v44) fun v45 =>
    B.gd h v45 true (fun K => B.pv (V.fieldN 0 2 c3) fun v => K v h) fun v47 h =>
    B.gd h v45 true (fun K => K v2 h) fun v48 h =>
    B.gd h v45 true (fun K => B.pv (V.fieldN 0 2 c3) fun v => K v h) fun v50 h =>
    B.gd h v45 true (fun K => K v2 h) fun v51 h =>
    B.al c3 (B.gd h v45 true (fun K => B.call C (N 7) [v47, v48] h K) fun v49 h =>
    B.gd h v45 true (fun K => B.call C (N 8) [v50, v51] h K) fun v52 h =>
    B.gd h v45 true (fun K => B.pv (V.eqBool .eql v49 v52) fun v => K v h) fun v53 h =>
    B.pick v45 v53 (.bool false) fun v54 =>
    B.gd h v54 true (fun K => B.pv (V.fieldN 0 2 c7) fun v => K v h) fun v56 h =>
    B.gd h v54 true (fun K => B.pv (V.fieldN 0 2 c9) fun v => K v h) fun v57 h =>
    B.gd h v54 true (fun K => B.pv (V.binAgg .eql [.i .i64, .i .i64] v56 v57) fun v => K v h) fun v58 h =>
    B.pick v54 v58 (.bool false) fun v59 =>
    B.gd h v59 true (fun K => K v22 h) fun v61 h =>
    B.gd h v59 true (fun K => K v28 h) fun v62 h =>
    B.gd h v59 true (fun K => B.pv (V.eqBool .eql v61 v62) fun v => K v h) fun v63 h =>
    B.pick v59 v63 (.bool false) fun v64 =>
    B.gd h v64 true (fun K => B.pv (V.fieldN 0 2 c11) fun v => K v h) fun v66 h =>
    B.gd h v64 true (fun K => B.pv (V.fieldN 0 2 c13) fun v => K v h) fun v67 h =>
    B.gd h v64 true (fun K => B.pv (V.binAgg .eql [.i .i64, .i .i64] v66 v67) fun v => K v h) fun v68 h =>
    B.pick v64 v68 (.bool false) fun v69 =>
    B.gd h v69 true (fun K => K v34 h) fun v71 h =>
    B.gd h v69 true (fun K => K v40 h) fun v72 h =>
    B.gd h v69 true (fun K => B.pv (V.eqBool .eql v71 v72) fun v => K v h) fun v73 h =>
    B.pick v69 v73 (.bool false) fun v74 =>
    Q v74 h)))
/-- storeman/storemanlaw01.WindowTells -/
@[simp] def law01_WindowTells.cps (C : CSem) (N : Nat → Nat) (v0 v1 v2 : AVal) (h : AHeap) (Q : AVal → AHeap → Prop) : Prop :=
  law01_WindowTells.k1 C N Q v0 v1 v2 h
def law01_WindowTells.Imp (C : CSem) (N : Nat → Nat) : Prop := ∀ (v0 v1 v2 : AVal) (h : AHeap) (Q : AVal → AHeap → Prop), law01_WindowTells.cps C N v0 v1 v2 h (dn Q) → C (N 21) [v0, v1, v2] h Q

@[simp] def law01_WindowMeets.k1 (C : CSem) (N : Nat → Nat) (Q : AVal → AHeap → Prop) (v0 v1 v2 v3 v4 : AVal) (h : AHeap) : Prop :=
  B.pv (A.boxN 2 v0) fun c5 =>
    B.pv (A.boxN 2 v1) fun c6 =>
    B.pv (A.boxN 2 v2) fun c7 =>
    B.call C (N 0) [] h fun v27 h =>
    B.pv (V.un .not v27) fun v28 =>
    B.cond v28
    (Q (.bool false) h)
    (B.pv (V.fieldN 0 2 c5) fun v30 =>
    B.pv (V.fieldN 0 2 c6) fun v31 =>
    B.call C (N 1) [v30, v31] h fun v32 h =>
    B.pv (V.ext 0 v32) fun v33 =>
    B.pv (V.ext 1 v32) fun v34 =>
    B.pv (V.setN 0 2 v33 (.agg [.int .i64 0, .int .i64 0])) fun c11 =>
    B.pv (V.fieldN 0 2 c6) fun v36 =>
    B.pv (V.fieldN 0 2 c5) fun v37 =>
    B.call C (N 1) [v36, v37] h fun v38 h =>
    B.pv (V.ext 0 v38) fun v39 =>
    B.pv (V.ext 1 v38) fun v40 =>
    B.pv (V.setN 0 2 v39 (.agg [.int .i64 0, .int .i64 0])) fun c13 =>
    B.pv (V.fieldN 0 2 c11) fun v42 =>
    B.pv (V.fieldN 0 2 c7) fun v43 =>
    B.call C (N 1) [v42, v43] h fun v44 h =>
    B.pv (V.ext 0 v44) fun v45 =>
    B.pv (V.ext 1 v44) fun v46 =>
    B.pv (V.setN 0 2 v45 (.agg [.int .i64 0, .int .i64 0])) fun c15 =>
    B.pv (V.fieldN 0 2 c6) fun v48 =>
    B.pv (V.fieldN 0 2 c7) fun v49 =>
    B.call C (N 1) [v48, v49] h fun v50 h =>
    B.pv (V.ext 0 v50) fun v51 =>
    B.pv (V.ext 1 v50) fun v52 =>
    B.pv (V.setN 0 2 v51 (.agg [.int .i64 0, .int .i64 0])) fun c17 =>
    B.pv (V.fieldN 0 2 c5) fun v54 =>
    B.pv (V.fieldN 0 2 c17) fun v55 =>
    B.call C (N 1) [v54, v55] h fun v56 h =>
    B.pv (V.ext 0 v56) fun v57 =>
    B.pv (V.ext 1 v56) fun v58 =>
    B.pv (V.setN 0 2 v57 (.agg [.int .i64 0, .int .i64 0])) fun c19 =>
    B.pv (V.fieldN 0 2 c11) fun v59 =>
    B.pv (V.fieldN 0 2 c13) fun v60 =>
    B.pv (V.binAgg .neq [.i .i64, .i .i64] v59 v60) fun v61 =>
    B.gd h v61 false (fun K => K v34 h) fun v63 h =>
    B.gd h v61 false (fun K => K v40 h) fun v64 h =>
    B.gd h v61 false (fun K => B.pv (V.eqBool .neq v63 v64) fun v => K v h) fun v65 h =>
    B.pick v61 (.bool true) v65 fun v66 =>
    B.gd h v66 false (fun K => K v34 h) fun v68 h =>
    B.gd h v66 false (fun K => K v68 h) fun v69 h =>
    B.gd h v69 true (fun K => K v46 h) fun v70 h =>
    B.gd h v66 false (fun K => B.pick v69 v70 (.bool false) fun v => K v h) fun v71 h =>
    B.gd h v66 false (fun K => K v52 h) fun v72 h =>
    B.gd h v66 false (fun K => K v72 h) fun v73 h =>
    B.gd h v73 true (fun K => K v58 h) fun v74 h =>
    B.gd h v66 false (fun K => B.pick v73 v74 (.bool false) fun v => K v h) fun v75 h =>
    B.gd h v66 false (fun K => B.pv (V.eqBool .neq v71 v75) fun v => K v h) fun v76 h =>
    B.pick v66 (.bool true) v76 fun v77 =>
    B.gd h v77 false (fun K => K v34 h) fun v79 h =>
    B.gd h v77 false (fun K => K v79 h) fun v80 h =>
    B.gd h v80 true (fun K => K v46 h) fun v81 h =>
    B.gd h v77 false (fun K => B.pick v80 v81 (.bool false) fun v => K v h) fun v82 h =>
    B.gd h v77 false (fun K => K v82 h) fun v83 h =>
    B.gd h v83 true (fun K => B.pv (V.fieldN 0 2 c15) fun v => K v h) fun v84 h =>
    B.gd h v83 true (fun K => B.pv (V.fieldN 0 2 c19) fun v => K v h) fun v85 h =>
    B.gd h v83 true (fun K => B.pv (V.binAgg .neq [.i .i64, .i .i64] v84 v85) fun v => K v h) fun v86 h =>
    B.gd h v77 false (fun K => B.pick v83 v86 (.bool false) fun v => K v h) fun v87 h =>
    B.pick v77 (.bool true) v87 fun v88 =>
    B.cond v88
    (Q (.bool false) h)
    (B.pv (V.fieldN 0 2 c5) fun v90 =>
    B.call C (N 3) [v90, v3] h fun v92 h =>
    B.pv (V.ext 0 v92) fun v93 =>
    B.pv (V.ext 1 v92) fun v94 =>
    B.pv (V.setN 0 2 v93 (.agg [.int .i64 0, .int .i64 0])) fun c21 =>
    B.pv (V.fieldN 0 2 c21) fun v96 =>
    B.call C (N 3) [v96, v4] h fun v98 h =>
    B.pv (V.ext 0 v98) fun v99 =>
    B.pv (V.ext 1 v98) fun v100 =>
    B.pv (V.setN 0 2 v99 (.agg [.int .i64 0, .int .i64 0])) fun c23 =>
    B.pv (V.fieldN 0 2 c5) fun v102 =>
    B.pv (V.max2 v3 v4) fun v105 =>
    B.call C (N 3) [v102, v105] h fun v106 h =>
    B.pv (V.ext 0 v106) fun v107 =>
    B.pv (V.ext 1 v106) fun v108 =>
    B.pv (V.setN 0 2 v107 (.agg [.int .i64 0, .int .i64 0])) fun c25 =>
    B.gd h v94 true (fun K => K v100 h) fun v111 h =>
    B.pick v94 v111 (.bool false) fun v112 =>
    B.pv (V.eqBool .eql v112 v108) fun v114 =>
    B.gd h v114 true (fun K => K v108 h) fun v116 h =>
    B.gd h v114 true (fun K => B.pv (V.un .not v116) fun v => K v h) fun v117 h =>
    B.gd h v114 true (fun K => K v117 h) fun v118 h =>
    B.gd h v118 false (fun K => B.pv (V.fieldN 0 2 c23) fun v => K v h) fun v119 h =>
    B.gd h v118 false (fun K => B.pv (V.fieldN 0 2 c25) fun v => K v h) fun v120 h =>
    B.gd h v118 false (fun K => B.pv (V.binAgg .eql [.i .i64, .i .i64] v119 v120) fun v => K v h) fun v121 h =>
    B.gd h v114 true (fun K => B.pick v118 (.bool true) v121 fun v => K v h) fun v122 h =>
    B.pick v114 v122 (.bool false) fun v123 =>
    Q v123 h))
/-- storeman/storemanlaw01.WindowMeets -/
@[simp] def law01_WindowMeets.cps (C : CSem) (N : Nat → Nat) (v0 v1 v2 v3 v4 : AVal) (h : AHeap) (Q : AVal → AHeap → Prop) : Prop :=
  law01_WindowMeets.k1 C N Q v0 v1 v2 v3 v4 h
def law01_WindowMeets.Imp (C : CSem) (N : Nat → Nat) : Prop := ∀ (v0 v1 v2 v3 v4 : AVal) (h : AHeap) (Q : AVal → AHeap → Prop), law01_WindowMeets.cps C N v0 v1 v2 v3 v4 h (dn Q) → C (N 22) [v0, v1, v2, v3, v4] h Q

@[simp] def law01_WindowRows.k1 (C : CSem) (N : Nat → Nat) (Q : AVal → AHeap → Prop) (v0 : AVal) (h : AHeap) : Prop :=
  B.call C (N 0) [] h fun v4 h =>
    B.pv (V.un .not v4) fun v5 =>
    B.cond v5
    (Q (.bool false) h)
    (B.pv (V.lenSl v0) fun v7 =>
    B.pv (V.bin .gtr v7 (.int .i64 300)) fun v8 =>
    B.cond v8
    (Q (.bool true) h)
    (B.call C (N 9) [v0] h fun v10 h =>
    B.call C (N 10) [v10] h fun v12 h =>
    B.call C (N 11) [v0] h fun v14 h =>
    B.call C (N 12) [v12, v14] h fun v15 h =>
    B.gd h v15 true (fun K => K v10 h) fun v17 h =>
    B.gd h v15 true (fun K => B.call C (N 13) [v17] h K) fun v18 h =>
    B.gd h v15 true (fun K => K v0 h) fun v19 h =>
    B.gd h v15 true (fun K => B.call C (N 14) [v19] h K) fun v20 h =>
    B.gd h v15 true (fun K => B.pv (V.bin .eql v18 v20) fun v => K v h) fun v21 h =>
    B.pick v15 v21 (.bool false) fun v22 =>
    B.gd h v22 true (fun K => K v10 h) fun v24 h =>
    B.gd h v22 true (fun K => K v0 h) fun v25 h =>
    B.gd h v22 true (fun K => B.call C (N 15) [v24, v25] h K) fun v26 h =>
    B.pick v22 v26 (.bool false) fun v27 =>
    Q v27 h))
/-- storeman/storemanlaw01.WindowRows -/
@[simp] def law01_WindowRows.cps (C : CSem) (N : Nat → Nat) (v0 : AVal) (h : AHeap) (Q : AVal → AHeap → Prop) : Prop :=
  law01_WindowRows.k1 C N Q v0 h
def law01_WindowRows.Imp (C : CSem) (N : Nat → Nat) : Prop := ∀ (v0 : AVal) (h : AHeap) (Q : AVal → AHeap → Prop), law01_WindowRows.cps C N v0 h (dn Q) → C (N 23) [v0] h Q

@[simp] def law01_WindowDays.k1 (C : CSem) (N : Nat → Nat) (Q : AVal → AHeap → Prop) (v0 v1 v9 v10 v11 v14 : AVal) (h : AHeap) : Prop :=
  B.appW h 2 16 .sz v0 fun v140 h =>
    B.appW h 2 16 v140 v1 fun v142 h =>
    B.pv (V.eqBool .eql v10 v11) fun v145 =>
    B.gd h v145 true (fun K => K v9 h) fun v147 h =>
    B.gd h v145 true (fun K => B.call C (N 10) [v147] h K) fun v148 h =>
    B.gd h v145 true (fun K => K v9 h) fun v149 h =>
    B.gd h v145 true (fun K => B.call C (N 12) [v148, v149] h K) fun v150 h =>
    B.pick v145 v150 (.bool false) fun v151 =>
    B.gd h v151 true (fun K => K v142 h) fun v153 h =>
    B.gd h v151 true (fun K => B.call C (N 13) [v153] h K) fun v154 h =>
    B.gd h v151 true (fun K => K v0 h) fun v155 h =>
    B.gd h v151 true (fun K => B.call C (N 13) [v155] h K) fun v156 h =>
    B.gd h v151 true (fun K => K v1 h) fun v157 h =>
    B.gd h v151 true (fun K => B.call C (N 13) [v157] h K) fun v158 h =>
    B.gd h v151 true (fun K => B.pv (V.bin .add v156 v158) fun v => K v h) fun v159 h =>
    B.gd h v151 true (fun K => K v14 h) fun v160 h =>
    B.gd h v151 true (fun K => B.call C (N 13) [v160] h K) fun v161 h =>
    B.gd h v151 true (fun K => B.pv (V.bin .sub v159 v161) fun v => K v h) fun v162 h =>
    B.gd h v151 true (fun K => B.pv (V.bin .eql v154 v162) fun v => K v h) fun v163 h =>
    B.pick v151 v163 (.bool false) fun v164 =>
    Q v164 h
@[simp] def law01_WindowDays.k4 (C : CSem) (N : Nat → Nat) (Q : AVal → AHeap → Prop) (Y1 : List AVal → AHeap → Prop) (Y2 : List AVal → AHeap → Prop) (v0 v1 v9 v10 v11 v14 v15 v16 : AVal) (h : AHeap) : Prop :=
  B.pv (V.lenSl v1) fun v117 =>
    B.pv (V.bin .lss v16 v117) fun v118 =>
    B.cond v118
    (B.pv (V.idxS 2 v0 v15) fun v124 =>
    B.ldn h v124 2 fun v125 =>
    B.pv (V.idxS 2 v1 v16) fun v128 =>
    B.ldn h v128 2 fun v129 =>
    B.call C (N 1) [v125, v129] h fun v130 h =>
    B.pv (V.ext 0 v130) fun v131 =>
    B.pv (V.ext 1 v130) fun v132 =>
    B.pv (V.setN 0 2 v131 (.agg [.int .i64 0, .int .i64 0])) fun c17 =>
    B.cond v132
    (B.pv (V.fieldN 0 2 c17) fun v135 =>
    B.newO h (fillL [(0, some 2, v135)] (repL 1 [.int .i64 0, .int .i64 0])) fun i136 h =>
    B.appW h 2 16 v14 (.sl i136 0 0 1 2 1) fun v137 h =>
    B.pv (V.bin .add v16 (.int .i64 1)) fun v120 =>
    Y2 [v137, v120] h)
    (B.pv (V.bin .add v16 (.int .i64 1)) fun v120 =>
    Y2 [v14, v120] h))
    (B.pv (V.bin .add v15 (.int .i64 1)) fun v114 =>
    Y1 [v14, v114] h)
@[simp] def law01_WindowDays.l6 (C : CSem) (N : Nat → Nat) (Q : AVal → AHeap → Prop) (Y1 : List AVal → AHeap → Prop) (v0 v1 v9 v10 v11 v15 : AVal) : List AVal → AHeap → (List AVal → AHeap → Prop) → Prop
  | [v14, v16], h, Y2 => law01_WindowDays.k4 C N Q Y1 Y2 v0 v1 v9 v10 v11 v14 v15 v16 h
  | _, _, _ => False
@[simp] def law01_WindowDays.k13 (C : CSem) (N : Nat → Nat) (Q : AVal → AHeap → Prop) (Y1 : List AVal → AHeap → Prop) (v0 v1 v9 v10 v11 v14 v15 : AVal) (h : AHeap) : Prop :=
  B.pv (V.lenSl v0) fun v111 =>
    B.pv (V.bin .lss v15 v111) fun v112 =>
    B.cond v112
    (LoopR (law01_WindowDays.l6 C N Q Y1 v0 v1 v9 v10 v11 v15) [v14, (.int .i64 0)] h)
    (law01_WindowDays.k1 C N Q v0 v1 v9 v10 v11 v14 h)
@[simp] def law01_WindowDays.l16 (C : CSem) (N : Nat → Nat) (Q : AVal → AHeap → Prop) (v0 v1 v9 v10 v11 : AVal) : List AVal → AHeap → (List AVal → AHeap → Prop) → Prop
  | [v14, v15], h, Y1 => law01_WindowDays.k13 C N Q Y1 v0 v1 v9 v10 v11 v14 v15 h
  | _, _, _ => False
@[simp] def law01_WindowDays.k24 (C : CSem) (N : Nat → Nat) (Q : AVal → AHeap → Prop) (Y3 : List AVal → AHeap → Prop) (v0 v1 v2 v9 v10 v11 v13 : AVal) (h : AHeap) : Prop :=
  B.pv (V.lenSl v9) fun v67 =>
    B.pv (V.bin .lss v13 v67) fun v68 =>
    B.cond v68
    (B.gd h v11 false (fun K => K v9 h) fun v73 h =>
    B.gd h v11 false (fun K => K v13 h) fun v74 h =>
    B.gd h v11 false (fun K => B.pv (V.idxS 2 v73 v74) fun v => K v h) fun v75 h =>
    B.gd h v11 false (fun K => B.ldn h v75 2 fun v => K v h) fun v76 h =>
    B.gd h v11 false (fun K => K v2 h) fun v77 h =>
    B.gd h v11 false (fun K => B.call C (N 7) [v76, v77] h K) fun v78 h =>
    B.pick v11 (.bool true) v78 fun v79 =>
    B.pv (V.idxS 2 v9 v13) fun v82 =>
    B.pv (V.fieldAddr 0 v82) fun v83 =>
    B.ld h v83 fun v84 =>
    B.pv (V.idxS 2 v9 v13) fun v87 =>
    B.pv (V.fieldAddr 1 v87) fun v88 =>
    B.ld h v88 fun v89 =>
    B.pv (V.bin .geq v84 v89) fun v90 =>
    B.gd h v90 false (fun K => K v13 h) fun v92 h =>
    B.gd h v90 false (fun K => B.pv (V.bin .gtr v92 (.int .i64 0)) fun v => K v h) fun v93 h =>
    B.gd h v90 false (fun K => K v93 h) fun v94 h =>
    B.gd h v94 true (fun K => K v9 h) fun v95 h =>
    B.gd h v94 true (fun K => K v13 h) fun v96 h =>
    B.gd h v94 true (fun K => B.pv (V.bin .sub v96 (.int .i64 1)) fun v => K v h) fun v97 h =>
    B.gd h v94 true (fun K => B.pv (V.idxS 2 v95 v97) fun v => K v h) fun v98 h =>
    B.gd h v94 true (fun K => B.pv (V.fieldAddr 1 v98) fun v => K v h) fun v99 h =>
    B.gd h v94 true (fun K => B.ld h v99 fun v => K v h) fun v100 h =>
    B.gd h v94 true (fun K => K v9 h) fun v101 h =>
    B.gd h v94 true (fun K => K v13 h) fun v102 h =>
    B.gd h v94 true (fun K => B.pv (V.idxS 2 v101 v102) fun v => K v h) fun v103 h =>
    B.gd h v94 true (fun K => B.pv (V.fieldAddr 0 v103) fun v => K v h) fun v104 h =>
    B.gd h v94 true (fun K => B.ld h v104 fun v => K v h) fun v105 h =>
    B.gd h v94 true (fun K => B.pv (V.bin .geq v100 v105) fun v => K v h) fun v106 h =>
    B.gd h v90 false (fun K => B.pick v94 v106 (.bool false) fun v => K v h) fun v107 h =>
    B.pick v90 (.bool true) v107 fun v108 =>
    B.cond v108
    (Q (.bool false) h)
    (B.pv (V.bin .add v13 (.int .i64 1)) fun v70 =>
    Y3 [v79, v70] h))
    (LoopR (law01_WindowDays.l16 C N Q v0 v1 v9 v10 v11) [.nils, (.int .i64 0)] h)
@[simp] def law01_WindowDays.l26 (C : CSem) (N : Nat → Nat) (Q : AVal → AHeap → Prop) (v0 v1 v2 v9 v10 : AVal) : List AVal → AHeap → (List AVal → AHeap → Prop) → Prop
  | [v11, v13], h, Y3 => law01_WindowDays.k24 C N Q Y3 v0 v1 v2 v9 v10 v11 v13 h
  | _, _, _ => False
@[simp] def law01_WindowDays.k32 (C : CSem) (N : Nat → Nat) (Q : AVal → AHeap → Prop) (Y4 : List AVal → AHeap → Prop) (v0 v1 v2 v9 v10 v11 v12 : AVal) (h : AHeap) : Prop :=
  B.pv (V.lenSl v0) fun v52 =>
    B.pv (V.bin .lss v12 v52) fun v53 =>
    B.cond v53
    (B.gd h v10 false (fun K => K v0 h) fun v58 h =>
    B.gd h v10 false (fun K => K v12 h) fun v59 h =>
    B.gd h v10 false (fun K => B.pv (V.idxS 2 v58 v59) fun v => K v h) fun v60 h =>
    B.gd h v10 false (fun K => B.ldn h v60 2 fun v => K v h) fun v61 h =>
    B.gd h v10 false (fun K => K v2 h) fun v62 h =>
    B.gd h v10 false (fun K => B.call C (N 7) [v61, v62] h K) fun v63 h =>
    B.pick v10 (.bool true) v63 fun v64 =>
    B.pv (V.bin .add v12 (.int .i64 1)) fun v55 =>
    Y4 [v64, v55] h)
    (LoopR (law01_WindowDays.l26 C N Q v0 v1 v2 v9 v10) [v11, (.int .i64 0)] h)
@[simp] def law01_WindowDays.l34 (C : CSem) (N : Nat → Nat) (Q : AVal → AHeap → Prop) (v0 v1 v2 v9 v11 : AVal) : List AVal → AHeap → (List AVal → AHeap → Prop) → Prop
  | [v10, v12], h, Y4 => law01_WindowDays.k32 C N Q Y4 v0 v1 v2 v9 v10 v11 v12 h
  | _, _, _ => False
@[simp] def law01_WindowDays.k44 (C : CSem) (N : Nat → Nat) (Q : AVal → AHeap → Prop) (Y5 : List AVal → AHeap → Prop) (v0 v1 v2 v7 : AVal) (h : AHeap) : Prop :=
  B.pv (V.lenSl v0) fun v30 =>
    B.pv (V.lenSl v1) fun v32 =>
    B.pv (V.bin .add v30 v32) fun v33 =>
    B.pv (V.bin .lss v7 v33) fun v34 =>
    B.cond v34
    (B.appW h 2 16 .sz v0 fun v39 h =>
    B.appW h 2 16 v39 v1 fun v41 h =>
    B.pv (V.idxS 2 v41 v7) fun v43 =>
    B.ldn h v43 2 fun v44 =>
    B.pv (V.setN 0 2 v44 (.agg [.int .i64 0, .int .i64 0])) fun c8 =>
    B.pv (V.fieldN 0 2 c8) fun v45 =>
    B.call C (N 5) [v45] h fun v46 h =>
    B.pv (V.un .not v46) fun v47 =>
    B.cond v47
    (Q (.bool true) h)
    (B.pv (V.bin .add v7 (.int .i64 1)) fun v36 =>
    Y5 [v36] h))
    (B.call C (N 10) [v0] h fun v49 h =>
    LoopR (law01_WindowDays.l34 C N Q v0 v1 v2 v49 (.bool false)) [(.bool false), (.int .i64 0)] h)
@[simp] def law01_WindowDays.l46 (C : CSem) (N : Nat → Nat) (Q : AVal → AHeap → Prop) (v0 v1 v2 : AVal) : List AVal → AHeap → (List AVal → AHeap → Prop) → Prop
  | [v7], h, Y5 => law01_WindowDays.k44 C N Q Y5 v0 v1 v2 v7 h
  | _, _, _ => False
@[simp] def law01_WindowDays.k52 (C : CSem) (N : Nat → Nat) (Q : AVal → AHeap → Prop) (v0 v1 v2 : AVal) (h : AHeap) : Prop :=
  B.pv (V.lenSl v0) fun v23 =>
    B.pv (V.lenSl v1) fun v25 =>
    B.pv (V.bin .add v23 v25) fun v26 =>
    B.pv (V.bin .gtr v26 (.int .i64 200)) fun v27 =>
    B.cond v27
    (Q (.bool true) h)
    (LoopR (law01_WindowDays.l46 C N Q v0 v1 v2) [(.int .i64 0)] h)
/-- storeman/storemanlaw01.WindowDays -/
@[simp] def law01_WindowDays.cps (C : CSem) (N : Nat → Nat) (v0 v1 v2 : AVal) (h : AHeap) (Q : AVal → AHeap → Prop) : Prop :=
  B.call C (N 0) [] h fun v20 h =>
    B.pv (V.un .not v20) fun v21 =>
    B.cond v21
    (Q (.bool false) h)
    (law01_WindowDays.k52 C N Q v0 v1 v2 h)
def law01_WindowDays.Imp (C : CSem) (N : Nat → Nat) : Prop := ∀ (v0 v1 v2 : AVal) (h : AHeap) (Q : AVal → AHeap → Prop), law01_WindowDays.cps C N v0 v1 v2 h (dn Q) → C (N 24) [v0, v1, v2] h Q

@[simp] def law01_awake.k1 (C : CSem) (N : Nat → Nat) (Q : AVal → AHeap → Prop) (h : AHeap) : Prop :=
  B.pv (A.bld [(0, none, (.int .i64 3)), (1, none, (.int .i64 5))] [.int .i64 0, .int .i64 0]) fun v4 =>
    B.pv (A.bld [(0, none, (.int .i64 5)), (1, none, (.int .i64 7))] [.int .i64 0, .int .i64 0]) fun v5 =>
    B.pv (A.bld [(0, none, (.int .i64 1)), (1, none, (.int .i64 4))] [.int .i64 0, .int .i64 0]) fun v6 =>
    B.newO h (fillL [(0, some 2, v4), (2, some 2, v5), (4, some 2, v6)] (repL 3 [.int .i64 0, .int .i64 0])) fun i7 h =>
    B.call C (N 10) [(.sl i7 0 0 3 2 3)] h fun v8 h =>
    B.pv (A.bld [(0, none, (.int .i64 3)), (1, none, (.int .i64 6))] [.int .i64 0, .int .i64 0]) fun v10 =>
    B.pv (A.bld [(0, none, (.int .i64 5)), (1, none, (.int .i64 9))] [.int .i64 0, .int .i64 0]) fun v11 =>
    B.call C (N 1) [v10, v11] h fun v12 h =>
    B.pv (V.ext 0 v12) fun v13 =>
    B.pv (V.ext 1 v12) fun v14 =>
    B.pv (V.setN 0 2 v13 (.agg [.int .i64 0, .int .i64 0])) fun c2 =>
    B.pv (V.lenSl v8) fun v16 =>
    B.pv (V.bin .eql v16 (.int .i64 1)) fun v17 =>
    B.gd h v17 true (fun K => K v8 h) fun v19 h =>
    B.gd h v17 true (fun K => B.pv (V.idxS 2 v19 (.int .i64 0)) fun v => K v h) fun v20 h =>
    B.gd h v17 true (fun K => B.ldn h v20 2 fun v => K v h) fun v21 h =>
    B.gd h v17 true (fun K => B.pv (A.bld [(0, none, (.int .i64 1)), (1, none, (.int .i64 7))] [.int .i64 0, .int .i64 0]) fun v => K v h) fun v22 h =>
    B.gd h v17 true (fun K => B.pv (V.binAgg .eql [.i .i64, .i .i64] v21 v22) fun v => K v h) fun v23 h =>
    B.pick v17 v23 (.bool false) fun v24 =>
    B.gd h v24 true (fun K => K v14 h) fun v26 h =>
    B.pick v24 v26 (.bool false) fun v27 =>
    B.gd h v27 true (fun K => B.pv (V.fieldN 0 2 c2) fun v => K v h) fun v29 h =>
    B.gd h v27 true (fun K => B.pv (A.bld [(0, none, (.int .i64 5)), (1, none, (.int .i64 6))] [.int .i64 0, .int .i64 0]) fun v => K v h) fun v30 h =>
    B.gd h v27 true (fun K => B.pv (V.binAgg .eql [.i .i64, .i .i64] v29 v30) fun v => K v h) fun v31 h =>
    B.pick v27 v31 (.bool false) fun v32 =>
    B.gd h v32 true (fun K => B.pv (V.fieldN 0 2 c2) fun v => K v h) fun v34 h =>
    B.gd h v32 true (fun K => B.call C (N 7) [v34, (.int .i64 5)] h K) fun v35 h =>
    B.pick v32 v35 (.bool false) fun v36 =>
    B.gd h v36 true (fun K => B.pv (V.fieldN 0 2 c2) fun v => K v h) fun v38 h =>
    B.gd h v36 true (fun K => B.call C (N 7) [v38, (.int .i64 6)] h K) fun v39 h =>
    B.gd h v36 true (fun K => B.pv (V.un .not v39) fun v => K v h) fun v40 h =>
    B.pick v36 v40 (.bool false) fun v41 =>
    Q v41 h
/-- storeman/storemanlaw01.awake -/
@[simp] def law01_awake.cps (C : CSem) (N : Nat → Nat) (h : AHeap) (Q : AVal → AHeap → Prop) : Prop :=
  law01_awake.k1 C N Q h
def law01_awake.Imp (C : CSem) (N : Nat → Nat) : Prop := ∀ (h : AHeap) (Q : AVal → AHeap → Prop), law01_awake.cps C N h (dn Q) → C (N 0) [] h Q

@[simp] def window_Meet.k1 (C : CSem) (N : Nat → Nat) (Q : AVal → AHeap → Prop) (v0 v1 : AVal) (h : AHeap) : Prop :=
  B.pv (A.boxN 2 v0) fun c2 =>
    B.pv (A.boxN 2 v1) fun c3 =>
    B.pv (V.fieldN 0 2 c2) fun v6 =>
    B.call C (N 5) [v6] h fun v7 h =>
    B.pv (V.un .not v7) fun v8 =>
    B.gd h v8 false (fun K => B.pv (V.fieldN 0 2 c3) fun v => K v h) fun v10 h =>
    B.gd h v8 false (fun K => B.call C (N 5) [v10] h K) fun v11 h =>
    B.gd h v8 false (fun K => B.pv (V.un .not v11) fun v => K v h) fun v12 h =>
    B.pick v8 (.bool true) v12 fun v13 =>
    B.cond v13
    (B.pv (A.bld [] [.int .i64 0, .int .i64 0]) fun v14 =>
    B.pv (V.setN 0 2 v14 (.agg [.int .i64 0, .int .i64 0])) fun c4 =>
    B.pv (oneOf (joinV (V.fieldN 0 2 c4) (joinV (some (.bool false)) (some [])))) fun v => Q v h)
    (B.al c2 (B.pv (V.field1 0 c2) fun v16 =>
    B.al c3 (B.pv (V.field1 0 c3) fun v18 =>
    B.pv (V.max2 v16 v18) fun v19 =>
    B.al c2 (B.pv (V.field1 1 c2) fun v21 =>
    B.al c3 (B.pv (V.field1 1 c3) fun v23 =>
    B.pv (V.min2 v21 v23) fun v24 =>
    B.call C (N 16) [v19, v24] h fun v25 h =>
    B.pv (V.ext 0 v25) fun v26 =>
    B.pv (V.ext 1 v25) fun v27 =>
    B.pv (V.setN 0 2 v26 (.agg [.int .i64 0, .int .i64 0])) fun c4 =>
    B.pv (oneOf (joinV (V.fieldN 0 2 c4) (joinV (some v27) (some [])))) fun v => Q v h)))))
/-- storeman/window.Meet -/
@[simp] def window_Meet.cps (C : CSem) (N : Nat → Nat) (v0 v1 : AVal) (h : AHeap) (Q : AVal → AHeap → Prop) : Prop :=
  window_Meet.k1 C N Q v0 v1 h
def window_Meet.Imp (C : CSem) (N : Nat → Nat) : Prop := ∀ (v0 v1 : AVal) (h : AHeap) (Q : AVal → AHeap → Prop), window_Meet.cps C N v0 v1 h (dn Q) → C (N 1) [v0, v1] h Q

@[simp] def ref01_Meet.k1 (C : CSem) (N : Nat → Nat) (Q : AVal → AHeap → Prop) (v0 v1 : AVal) (h : AHeap) : Prop :=
  B.pv (A.boxN 2 v0) fun c2 =>
    B.pv (A.boxN 2 v1) fun c3 =>
    B.pv (V.fieldN 0 2 c2) fun v6 =>
    B.pv (V.fieldN 0 2 c3) fun v7 =>
    B.newO h (fillL [(0, some 2, v6), (2, some 2, v7)] (repL 2 [.int .i64 0, .int .i64 0])) fun i8 h =>
    B.call C (N 17) [(.sl i8 0 0 2 2 2), (.int .i64 0)] h fun v9 h =>
    B.pv (V.ext 0 v9) fun v10 =>
    B.pv (V.ext 1 v9) fun v11 =>
    B.pv (V.setN 0 2 v10 (.agg [.int .i64 0, .int .i64 0])) fun c4 =>
    B.pv (oneOf (joinV (V.fieldN 0 2 c4) (joinV (some v11) (some [])))) fun v => Q v h
/-- storeman/storemanref01.Meet -/
@[simp] def ref01_Meet.cps (C : CSem) (N : Nat → Nat) (v0 v1 : AVal) (h : AHeap) (Q : AVal → AHeap → Prop) : Prop :=
  ref01_Meet.k1 C N Q v0 v1 h
def ref01_Meet.Imp (C : CSem) (N : Nat → Nat) : Prop := ∀ (v0 v1 : AVal) (h : AHeap) (Q : AVal → AHeap → Prop), ref01_Meet.cps C N v0 v1 h (dn Q) → C (N 2) [v0, v1] h Q

@[simp] def window_From.k1 (C : CSem) (N : Nat → Nat) (Q : AVal → AHeap → Prop) (v0 v1 : AVal) (h : AHeap) : Prop :=
  B.pv (A.boxN 2 v0) fun c2 =>
    B.pv (V.fieldN 0 2 c2) fun v6 =>
    B.call C (N 5) [v6] h fun v7 h =>
    B.pv (V.un .not v7) fun v8 =>
    B.cond v8
    (B.pv (A.bld [] [.int .i64 0, .int .i64 0]) fun v9 =>
    B.pv (V.setN 0 2 v9 (.agg [.int .i64 0, .int .i64 0])) fun c4 =>
    B.pv (oneOf (joinV (V.fieldN 0 2 c4) (joinV (some (.bool false)) (some [])))) fun v => Q v h)
    (B.al c2 (B.pv (V.field1 0 c2) fun v11 =>
    B.pv (V.max2 v11 v1) fun v13 =>
    B.al c2 (B.pv (V.field1 1 c2) fun v15 =>
    B.call C (N 16) [v13, v15] h fun v16 h =>
    B.pv (V.ext 0 v16) fun v17 =>
    B.pv (V.ext 1 v16) fun v18 =>
    B.pv (V.setN 0 2 v17 (.agg [.int .i64 0, .int .i64 0])) fun c4 =>
    B.pv (oneOf (joinV (V.fieldN 0 2 c4) (joinV (some v18) (some [])))) fun v => Q v h)))
/-- storeman/window.From -/
@[simp] def window_From.cps (C : CSem) (N : Nat → Nat) (v0 v1 : AVal) (h : AHeap) (Q : AVal → AHeap → Prop) : Prop :=
  window_From.k1 C N Q v0 v1 h
def window_From.Imp (C : CSem) (N : Nat → Nat) : Prop := ∀ (v0 v1 : AVal) (h : AHeap) (Q : AVal → AHeap → Prop), window_From.cps C N v0 v1 h (dn Q) → C (N 3) [v0, v1] h Q

@[simp] def ref01_From.k1 (C : CSem) (N : Nat → Nat) (Q : AVal → AHeap → Prop) (v0 v1 : AVal) (h : AHeap) : Prop :=
  B.pv (A.boxN 2 v0) fun c2 =>
    B.pv (V.fieldN 0 2 c2) fun v6 =>
    B.newO h (fillL [(0, some 2, v6)] (repL 1 [.int .i64 0, .int .i64 0])) fun i7 h =>
    B.call C (N 17) [(.sl i7 0 0 1 2 1), v1] h fun v9 h =>
    B.pv (V.ext 0 v9) fun v10 =>
    B.pv (V.ext 1 v9) fun v11 =>
    B.pv (V.setN 0 2 v10 (.agg [.int .i64 0, .int .i64 0])) fun c4 =>
    B.pv (oneOf (joinV (V.fieldN 0 2 c4) (joinV (some v11) (some [])))) fun v => Q v h
/-- storeman/storemanref01.From -/
@[simp] def ref01_From.cps (C : CSem) (N : Nat → Nat) (v0 v1 : AVal) (h : AHeap) (Q : AVal → AHeap → Prop) : Prop :=
  ref01_From.k1 C N Q v0 v1 h
def ref01_From.Imp (C : CSem) (N : Nat → Nat) : Prop := ∀ (v0 v1 : AVal) (h : AHeap) (Q : AVal → AHeap → Prop), ref01_From.cps C N v0 v1 h (dn Q) → C (N 4) [v0, v1] h Q

@[simp] def window_Right.k1 (C : CSem) (N : Nat → Nat) (Q : AVal → AHeap → Prop) (v0 : AVal) (h : AHeap) : Prop :=
  B.pv (A.boxN 2 v0) fun c1 =>
    B.al c1 (B.pv (V.field1 0 c1) fun v4 =>
    B.pv (V.bin .leq (.int .i64 0) v4) fun v5 =>
    B.al c1 (B.gd h v5 true (fun K => K .undef h) fun _ h =>
    B.gd h v5 true (fun K => B.pv (V.field1 0 c1) fun v => K v h) fun v8 h =>
    B.al c1 (B.gd h v5 true (fun K => K .undef h) fun _ h =>
    B.gd h v5 true (fun K => B.pv (V.field1 1 c1) fun v => K v h) fun v10 h =>
    B.gd h v5 true (fun K => B.pv (V.bin .leq v8 v10) fun v => K v h) fun v11 h =>
    B.pick v5 v11 (.bool false) fun v12 =>
    B.al c1 (B.gd h v12 true (fun K => K .undef h) fun _ h =>
    B.gd h v12 true (fun K => B.pv (V.field1 1 c1) fun v => K v h) fun v15 h =>
    B.gd h v12 true (fun K => B.pv (V.bin .leq v15 (.int .i64 4001)) fun v => K v h) fun v16 h =>
    B.pick v12 v16 (.bool false) fun v17 =>
    Q v17 h))))
/-- storeman/window.Right -/
@[simp] def window_Right.cps (C : CSem) (N : Nat → Nat) (v0 : AVal) (h : AHeap) (Q : AVal → AHeap → Prop) : Prop :=
  window_Right.k1 C N Q v0 h
def window_Right.Imp (C : CSem) (N : Nat → Nat) : Prop := ∀ (v0 : AVal) (h : AHeap) (Q : AVal → AHeap → Prop), window_Right.cps C N v0 h (dn Q) → C (N 5) [v0] h Q

@[simp] def ref01_Right.k1 (C : CSem) (N : Nat → Nat) (Q : AVal → AHeap → Prop) (v0 : AVal) (h : AHeap) : Prop :=
  B.pv (A.boxN 2 v0) fun c1 =>
    B.al c1 (B.pv (V.field1 0 c1) fun v4 =>
    B.pv (V.bin .geq v4 (.int .i64 0)) fun v5 =>
    B.al c1 (B.gd h v5 true (fun K => K .undef h) fun _ h =>
    B.gd h v5 true (fun K => B.pv (V.field1 1 c1) fun v => K v h) fun v8 h =>
    B.al c1 (B.gd h v5 true (fun K => K .undef h) fun _ h =>
    B.gd h v5 true (fun K => B.pv (V.field1 0 c1) fun v => K v h) fun v10 h =>
    B.gd h v5 true (fun K => B.pv (V.bin .geq v8 v10) fun v => K v h) fun v11 h =>
    B.pick v5 v11 (.bool false) fun v12 =>
    B.al c1 (B.gd h v12 true (fun K => K .undef h) fun _ h =>
    B.gd h v12 true (fun K => B.pv (V.field1 1 c1) fun v => K v h) fun v15 h =>
    B.gd h v12 true (fun K => B.pv (V.bin .leq v15 (.int .i64 4001)) fun v => K v h) fun v16 h =>
    B.pick v12 v16 (.bool false) fun v17 =>
    Q v17 h))))
/-- storeman/storemanref01.Right -/
@[simp] def ref01_Right.cps (C : CSem) (N : Nat → Nat) (v0 : AVal) (h : AHeap) (Q : AVal → AHeap → Prop) : Prop :=
  ref01_Right.k1 C N Q v0 h
def ref01_Right.Imp (C : CSem) (N : Nat → Nat) : Prop := ∀ (v0 : AVal) (h : AHeap) (Q : AVal → AHeap → Prop), ref01_Right.cps C N v0 h (dn Q) → C (N 6) [v0] h Q

@[simp] def window_Has.k1 (C : CSem) (N : Nat → Nat) (Q : AVal → AHeap → Prop) (v0 v1 : AVal) (h : AHeap) : Prop :=
  B.pv (A.boxN 2 v0) fun c2 =>
    B.pv (V.fieldN 0 2 c2) fun v5 =>
    B.call C (N 5) [v5] h fun v6 h =>
    B.al c2 (B.gd h v6 true (fun K => K .undef h) fun _ h =>
    B.gd h v6 true (fun K => B.pv (V.field1 0 c2) fun v => K v h) fun v9 h =>
    B.gd h v6 true (fun K => K v1 h) fun v10 h =>
    B.gd h v6 true (fun K => B.pv (V.bin .leq v9 v10) fun v => K v h) fun v11 h =>
    B.pick v6 v11 (.bool false) fun v12 =>
    B.gd h v12 true (fun K => K v1 h) fun v14 h =>
    B.al c2 (B.gd h v12 true (fun K => K .undef h) fun _ h =>
    B.gd h v12 true (fun K => B.pv (V.field1 1 c2) fun v => K v h) fun v16 h =>
    B.gd h v12 true (fun K => B.pv (V.bin .lss v14 v16) fun v => K v h) fun v17 h =>
    B.pick v12 v17 (.bool false) fun v18 =>
    Q v18 h))
/-- storeman/window.Has -/
@[simp] def window_Has.cps (C : CSem) (N : Nat → Nat) (v0 v1 : AVal) (h : AHeap) (Q : AVal → AHeap → Prop) : Prop :=
  window_Has.k1 C N Q v0 v1 h
def window_Has.Imp (C : CSem) (N : Nat → Nat) : Prop := ∀ (v0 v1 : AVal) (h : AHeap) (Q : AVal → AHeap → Prop), window_Has.cps C N v0 v1 h (dn Q) → C (N 7) [v0, v1] h Q

@[simp] def ref01_Has.k1 (C : CSem) (N : Nat → Nat) (Q : AVal → AHeap → Prop) (v0 v1 : AVal) (h : AHeap) : Prop :=
  B.pv (A.boxN 2 v0) fun c2 =>
    B.pv (V.fieldN 0 2 c2) fun v5 =>
    B.call C (N 6) [v5] h fun v6 h =>
    B.gd h v6 true (fun K => K v1 h) fun v8 h =>
    B.al c2 (B.gd h v6 true (fun K => K .undef h) fun _ h =>
    B.gd h v6 true (fun K => B.pv (V.field1 0 c2) fun v => K v h) fun v10 h =>
    B.gd h v6 true (fun K => B.pv (V.bin .geq v8 v10) fun v => K v h) fun v11 h =>
    B.pick v6 v11 (.bool false) fun v12 =>
    B.gd h v12 true (fun K => K v1 h) fun v14 h =>
    B.al c2 (B.gd h v12 true (fun K => K .undef h) fun _ h =>
    B.gd h v12 true (fun K => B.pv (V.field1 1 c2) fun v => K v h) fun v16 h =>
    B.gd h v12 true (fun K => B.pv (V.bin .lss v14 v16) fun v => K v h) fun v17 h =>
    B.pick v12 v17 (.bool false) fun v18 =>
    Q v18 h))
/-- storeman/storemanref01.Has -/
@[simp] def ref01_Has.cps (C : CSem) (N : Nat → Nat) (v0 v1 : AVal) (h : AHeap) (Q : AVal → AHeap → Prop) : Prop :=
  ref01_Has.k1 C N Q v0 v1 h
def ref01_Has.Imp (C : CSem) (N : Nat → Nat) : Prop := ∀ (v0 v1 : AVal) (h : AHeap) (Q : AVal → AHeap → Prop), ref01_Has.cps C N v0 v1 h (dn Q) → C (N 8) [v0, v1] h Q

@[simp] def kit_LentWindows.k2 (C : CSem) (N : Nat → Nat) (Q : AVal → AHeap → Prop) (Y1 : List AVal → AHeap → Prop) (v0 v3 v4 : AVal) (h : AHeap) : Prop :=
  B.pv (V.bin .lss v4 (.int .i64 12)) fun v13 =>
    B.cond v13
    (B.call C (N 18) [(.int .i64 1), v4] h fun v18 h =>
    B.newO h (fillL [(0, some 2, v18)] (repL 1 [.int .i64 0, .int .i64 0])) fun i19 h =>
    B.appW h 2 16 v3 (.sl i19 0 0 1 2 1) fun v20 h =>
    B.pv (V.bin .add v4 (.int .i64 1)) fun v15 =>
    Y1 [v20, v15] h)
    (B.pv (V.lenSl v0) fun v23 =>
    B.pv (V.cutSl 2 v3 none (some v23)) fun v24 =>
    Q v24 h)
@[simp] def kit_LentWindows.l4 (C : CSem) (N : Nat → Nat) (Q : AVal → AHeap → Prop) (v0 : AVal) : List AVal → AHeap → (List AVal → AHeap → Prop) → Prop
  | [v3, v4], h, Y1 => kit_LentWindows.k2 C N Q Y1 v0 v3 v4 h
  | _, _, _ => False
@[simp] def kit_LentWindows.k12 (C : CSem) (N : Nat → Nat) (Q : AVal → AHeap → Prop) (v0 : AVal) (h : AHeap) : Prop :=
  B.pv (V.lenSl v0) fun v6 =>
    B.pv (V.bin .add v6 (.int .i64 12)) fun v7 =>
    0 < 2 ∧ B.mks h 16 (some [.int .i64 0, .int .i64 0]) (.int .i64 0) v7 fun v8 h =>
    B.appW h 2 16 v8 v0 fun v11 h =>
    LoopR (kit_LentWindows.l4 C N Q v0) [v11, (.int .i64 0)] h
/-- storeman/storemankit.LentWindows -/
@[simp] def kit_LentWindows.cps (C : CSem) (N : Nat → Nat) (v0 : AVal) (h : AHeap) (Q : AVal → AHeap → Prop) : Prop :=
  kit_LentWindows.k12 C N Q v0 h
def kit_LentWindows.Imp (C : CSem) (N : Nat → Nat) : Prop := ∀ (v0 : AVal) (h : AHeap) (Q : AVal → AHeap → Prop), kit_LentWindows.cps C N v0 h (dn Q) → C (N 9) [v0] h Q

@[simp] def kit_SameWindows.k2 (C : CSem) (N : Nat → Nat) (Q : AVal → AHeap → Prop) (Y1 : List AVal → AHeap → Prop) (v0 v1 v5 : AVal) (h : AHeap) : Prop :=
  B.pv (V.lenSl v0) fun v13 =>
    B.pv (V.bin .lss v5 v13) fun v14 =>
    B.cond v14
    (B.pv (V.idxS 2 v0 v5) fun v19 =>
    B.ldn h v19 2 fun v20 =>
    B.pv (V.idxS 2 v1 v5) fun v23 =>
    B.ldn h v23 2 fun v24 =>
    B.pv (V.binAgg .neq [.i .i64, .i .i64] v20 v24) fun v25 =>
    B.cond v25
    (Q (.bool false) h)
    (B.pv (V.bin .add v5 (.int .i64 1)) fun v16 =>
    Y1 [v16] h))
    (Q (.bool true) h)
@[simp] def kit_SameWindows.l4 (C : CSem) (N : Nat → Nat) (Q : AVal → AHeap → Prop) (v0 v1 : AVal) : List AVal → AHeap → (List AVal → AHeap → Prop) → Prop
  | [v5], h, Y1 => kit_SameWindows.k2 C N Q Y1 v0 v1 v5 h
  | _, _, _ => False
@[simp] def kit_SameWindows.k10 (C : CSem) (N : Nat → Nat) (Q : AVal → AHeap → Prop) (v0 v1 : AVal) (h : AHeap) : Prop :=
  B.pv (V.lenSl v0) fun v7 =>
    B.pv (V.lenSl v1) fun v9 =>
    B.pv (V.bin .neq v7 v9) fun v10 =>
    B.cond v10
    (Q (.bool false) h)
    (LoopR (kit_SameWindows.l4 C N Q v0 v1) [(.int .i64 0)] h)
/-- storeman/storemankit.SameWindows -/
@[simp] def kit_SameWindows.cps (C : CSem) (N : Nat → Nat) (v0 v1 : AVal) (h : AHeap) (Q : AVal → AHeap → Prop) : Prop :=
  kit_SameWindows.k10 C N Q v0 v1 h
def kit_SameWindows.Imp (C : CSem) (N : Nat → Nat) : Prop := ∀ (v0 v1 : AVal) (h : AHeap) (Q : AVal → AHeap → Prop), kit_SameWindows.cps C N v0 v1 h (dn Q) → C (N 12) [v0, v1] h Q

@[simp] def window_Rows.k2 (C : CSem) (N : Nat → Nat) (Q : AVal → AHeap → Prop) (Y1 : List AVal → AHeap → Prop) (v3 v6 v7 v32 : AVal) (h : AHeap) : Prop :=
  B.pv (V.bin .lss v32 (.int .i64 4002)) fun v33 =>
    B.cond v33
    (B.pv (V.idxA 4002 1 v3 v32) fun v38 =>
    B.ld h v38 fun v39 =>
    B.pv (V.bin .add v7 v39) fun v40 =>
    B.pv (V.bin .eql v7 (.int .i64 0)) fun v43 =>
    B.gd h v43 true (fun K => K v40 h) fun v45 h =>
    B.gd h v43 true (fun K => B.pv (V.bin .gtr v45 (.int .i64 0)) fun v => K v h) fun v46 h =>
    B.pick v43 v46 (.bool false) fun v47 =>
    B.cond v47
    (B.pv (A.bld [(0, none, v32)] [.int .i64 0, .int .i64 0]) fun v50 =>
    B.newO h (fillL [(0, some 2, v50)] (repL 1 [.int .i64 0, .int .i64 0])) fun i51 h =>
    B.appW h 2 16 v6 (.sl i51 0 0 1 2 1) fun v52 h =>
    B.pv (V.bin .add v32 (.int .i64 1)) fun v67 =>
    Y1 [v52, v40, v67] h)
    (B.pv (V.bin .gtr v7 (.int .i64 0)) fun v55 =>
    B.gd h v55 true (fun K => K v40 h) fun v57 h =>
    B.gd h v55 true (fun K => B.pv (V.bin .eql v57 (.int .i64 0)) fun v => K v h) fun v58 h =>
    B.pick v55 v58 (.bool false) fun v59 =>
    B.cond v59
    (B.pv (V.lenSl v6) fun v62 =>
    B.pv (V.bin .sub v62 (.int .i64 1)) fun v63 =>
    B.pv (V.idxS 2 v6 v63) fun v65 =>
    B.pv (V.fieldAddr 1 v65) fun v66 =>
    B.st h v66 v32 fun h =>
    B.pv (V.bin .add v32 (.int .i64 1)) fun v67 =>
    Y1 [v6, v40, v67] h)
    (B.pv (V.bin .add v32 (.int .i64 1)) fun v67 =>
    Y1 [v6, v40, v67] h)))
    (Q v6 h)
@[simp] def window_Rows.l4 (C : CSem) (N : Nat → Nat) (Q : AVal → AHeap → Prop) (v3 : AVal) : List AVal → AHeap → (List AVal → AHeap → Prop) → Prop
  | [v6, v7, v32], h, Y1 => window_Rows.k2 C N Q Y1 v3 v6 v7 v32 h
  | _, _, _ => False
@[simp] def window_Rows.k14 (C : CSem) (N : Nat → Nat) (Q : AVal → AHeap → Prop) (Y2 : List AVal → AHeap → Prop) (v3 v10 v11 v12 : AVal) (h : AHeap) : Prop :=
  B.pv (V.bin .lss v12 v11) fun v13 =>
    B.cond v13
    (B.pv (V.idxS 2 v10 v12) fun v14 =>
    B.ldn h v14 2 fun v15 =>
    B.pv (V.setN 0 2 v15 (.agg [.int .i64 0, .int .i64 0])) fun c5 =>
    B.pv (V.fieldN 0 2 c5) fun v16 =>
    B.call C (N 5) [v16] h fun v17 h =>
    B.pv (V.un .not v17) fun v18 =>
    B.cond v18
    (Q .nils h)
    (B.al c5 (B.pv (V.field1 0 c5) fun v20 =>
    B.pv (V.idxA 4002 1 v3 v20) fun v21 =>
    B.ld h v21 fun v22 =>
    B.pv (V.bin .add v22 (.int .i64 1)) fun v23 =>
    B.pv (V.idxA 4002 1 v3 v20) fun v24 =>
    B.st h v24 v23 fun h =>
    B.al c5 (B.pv (V.field1 1 c5) fun v26 =>
    B.pv (V.idxA 4002 1 v3 v26) fun v27 =>
    B.ld h v27 fun v28 =>
    B.pv (V.bin .sub v28 (.int .i64 1)) fun v29 =>
    B.pv (V.idxA 4002 1 v3 v26) fun v30 =>
    B.st h v30 v29 fun h =>
    B.pv (V.bin .add v12 (.int .i64 1)) fun v31 =>
    Y2 [v31] h))))
    (LoopR (window_Rows.l4 C N Q v3) [.nils, (.int .i64 0), (.int .i64 0)] h)
@[simp] def window_Rows.l16 (C : CSem) (N : Nat → Nat) (Q : AVal → AHeap → Prop) (v3 v10 v11 : AVal) : List AVal → AHeap → (List AVal → AHeap → Prop) → Prop
  | [v12], h, Y2 => window_Rows.k14 C N Q Y2 v3 v10 v11 v12 h
  | _, _, _ => False
/-- storeman/window.Rows -/
@[simp] def window_Rows.cps (C : CSem) (N : Nat → Nat) (v0 : AVal) (h : AHeap) (Q : AVal → AHeap → Prop) : Prop :=
  B.newO h (some (zrep 4002 (.int .i64 0))) fun i3 h =>
    B.pv (V.lenSl v0) fun v11 =>
    LoopR (window_Rows.l16 C N Q (.ptr i3 0 0) v0 v11) [(.int .i64 0)] h
def window_Rows.Imp (C : CSem) (N : Nat → Nat) : Prop := ∀ (v0 : AVal) (h : AHeap) (Q : AVal → AHeap → Prop), window_Rows.cps C N v0 h (dn Q) → C (N 10) [v0] h Q

@[simp] def ref01_Rows.k3 (C : CSem) (N : Nat → Nat) (Q : AVal → AHeap → Prop) (Y1 : List AVal → AHeap → Prop) (Y2 : List AVal → AHeap → Prop) (v0 v3 v4 v5 : AVal) (h : AHeap) : Prop :=
  B.pv (V.idxS 2 v0 v4) fun v27 =>
    B.pv (V.fieldAddr 1 v27) fun v28 =>
    B.ld h v28 fun v29 =>
    B.pv (V.bin .lss v5 v29) fun v30 =>
    B.cond v30
    (B.pv (V.idxS 1 v3 v5) fun v35 =>
    B.st h v35 (.bool true) fun h =>
    B.pv (V.bin .add v5 (.int .i64 1)) fun v32 =>
    Y2 [v32] h)
    (B.pv (V.bin .add v4 (.int .i64 1)) fun v12 =>
    Y1 [v12] h)
@[simp] def ref01_Rows.l5 (C : CSem) (N : Nat → Nat) (Q : AVal → AHeap → Prop) (Y1 : List AVal → AHeap → Prop) (v0 v3 v4 : AVal) : List AVal → AHeap → (List AVal → AHeap → Prop) → Prop
  | [v5], h, Y2 => ref01_Rows.k3 C N Q Y1 Y2 v0 v3 v4 v5 h
  | _, _, _ => False
@[simp] def ref01_Rows.k10 (C : CSem) (N : Nat → Nat) (Q : AVal → AHeap → Prop) (Y1 : List AVal → AHeap → Prop) (v0 v3 v4 : AVal) (h : AHeap) : Prop :=
  B.pv (V.idxS 2 v0 v4) fun v15 =>
    B.ldn h v15 2 fun v16 =>
    B.call C (N 6) [v16] h fun v17 h =>
    B.pv (V.un .not v17) fun v18 =>
    B.cond v18
    (Q .nils h)
    (B.pv (V.idxS 2 v0 v4) fun v21 =>
    B.pv (V.fieldAddr 0 v21) fun v22 =>
    B.ld h v22 fun v23 =>
    LoopR (ref01_Rows.l5 C N Q Y1 v0 v3 v4) [v23] h)
@[simp] def ref01_Rows.k15 (C : CSem) (N : Nat → Nat) (Q : AVal → AHeap → Prop) (Y1 : List AVal → AHeap → Prop) (v0 v3 v4 : AVal) (h : AHeap) : Prop :=
  B.pv (V.lenSl v0) fun v9 =>
    B.pv (V.bin .lss v4 v9) fun v10 =>
    B.cond v10
    (ref01_Rows.k10 C N Q Y1 v0 v3 v4 h)
    (B.call C (N 19) [v3] h fun v37 h =>
    Q v37 h)
@[simp] def ref01_Rows.l18 (C : CSem) (N : Nat → Nat) (Q : AVal → AHeap → Prop) (v0 v3 : AVal) : List AVal → AHeap → (List AVal → AHeap → Prop) → Prop
  | [v4], h, Y1 => ref01_Rows.k15 C N Q Y1 v0 v3 v4 h
  | _, _, _ => False
/-- storeman/storemanref01.Rows -/
@[simp] def ref01_Rows.cps (C : CSem) (N : Nat → Nat) (v0 : AVal) (h : AHeap) (Q : AVal → AHeap → Prop) : Prop :=
  0 < 1 ∧ B.mks h 1 (some [.bool false]) (.int .i64 4001) (.int .i64 4001) fun v6 h =>
    LoopR (ref01_Rows.l18 C N Q v0 v6) [(.int .i64 0)] h
def ref01_Rows.Imp (C : CSem) (N : Nat → Nat) : Prop := ∀ (v0 : AVal) (h : AHeap) (Q : AVal → AHeap → Prop), ref01_Rows.cps C N v0 h (dn Q) → C (N 11) [v0] h Q

@[simp] def window_Count.k2 (C : CSem) (N : Nat → Nat) (Q : AVal → AHeap → Prop) (Y1 : List AVal → AHeap → Prop) (v3 v7 v8 v9 : AVal) (h : AHeap) : Prop :=
  B.pv (V.bin .lss v9 v8) fun v10 =>
    B.cond v10
    (B.pv (V.idxS 2 v7 v9) fun v11 =>
    B.ldn h v11 2 fun v12 =>
    B.pv (V.setN 0 2 v12 (.agg [.int .i64 0, .int .i64 0])) fun c5 =>
    B.al c5 (B.pv (V.field1 1 c5) fun v15 =>
    B.al c5 (B.pv (V.field1 0 c5) fun v17 =>
    B.pv (V.bin .sub v15 v17) fun v18 =>
    B.pv (V.bin .add v3 v18) fun v19 =>
    B.pv (V.bin .add v9 (.int .i64 1)) fun v20 =>
    Y1 [v19, v20] h)))
    (Q v3 h)
@[simp] def window_Count.l4 (C : CSem) (N : Nat → Nat) (Q : AVal → AHeap → Prop) (v7 v8 : AVal) : List AVal → AHeap → (List AVal → AHeap → Prop) → Prop
  | [v3, v9], h, Y1 => window_Count.k2 C N Q Y1 v3 v7 v8 v9 h
  | _, _, _ => False
/-- storeman/window.Count -/
@[simp] def window_Count.cps (C : CSem) (N : Nat → Nat) (v0 : AVal) (h : AHeap) (Q : AVal → AHeap → Prop) : Prop :=
  B.call C (N 10) [v0] h fun v7 h =>
    B.pv (V.lenSl v7) fun v8 =>
    LoopR (window_Count.l4 C N Q v7 v8) [(.int .i64 0), (.int .i64 0)] h
def window_Count.Imp (C : CSem) (N : Nat → Nat) : Prop := ∀ (v0 : AVal) (h : AHeap) (Q : AVal → AHeap → Prop), window_Count.cps C N v0 h (dn Q) → C (N 13) [v0] h Q

@[simp] def ref01_Count.k2 (C : CSem) (N : Nat → Nat) (Q : AVal → AHeap → Prop) (Y1 : List AVal → AHeap → Prop) (v3 v4 v5 : AVal) (h : AHeap) : Prop :=
  B.pv (V.lenSl v4) fun v10 =>
    B.pv (V.bin .lss v5 v10) fun v11 =>
    B.cond v11
    (B.pv (V.idxS 2 v4 v5) fun v17 =>
    B.pv (V.fieldAddr 1 v17) fun v18 =>
    B.ld h v18 fun v19 =>
    B.pv (V.bin .add v3 v19) fun v20 =>
    B.pv (V.idxS 2 v4 v5) fun v23 =>
    B.pv (V.fieldAddr 0 v23) fun v24 =>
    B.ld h v24 fun v25 =>
    B.pv (V.bin .sub v20 v25) fun v26 =>
    B.pv (V.bin .add v5 (.int .i64 1)) fun v13 =>
    Y1 [v26, v13] h)
    (Q v3 h)
@[simp] def ref01_Count.l4 (C : CSem) (N : Nat → Nat) (Q : AVal → AHeap → Prop) (v4 : AVal) : List AVal → AHeap → (List AVal → AHeap → Prop) → Prop
  | [v3, v5], h, Y1 => ref01_Count.k2 C N Q Y1 v3 v4 v5 h
  | _, _, _ => False
/-- storeman/storemanref01.Count -/
@[simp] def ref01_Count.cps (C : CSem) (N : Nat → Nat) (v0 : AVal) (h : AHeap) (Q : AVal → AHeap → Prop) : Prop :=
  B.call C (N 11) [v0] h fun v7 h =>
    LoopR (ref01_Count.l4 C N Q v7) [(.int .i64 0), (.int .i64 0)] h
def ref01_Count.Imp (C : CSem) (N : Nat → Nat) : Prop := ∀ (v0 : AVal) (h : AHeap) (Q : AVal → AHeap → Prop), ref01_Count.cps C N v0 h (dn Q) → C (N 14) [v0] h Q

@[simp] def kit_KeptWindows.k2 (C : CSem) (N : Nat → Nat) (Q : AVal → AHeap → Prop) (Y1 : List AVal → AHeap → Prop) (v1 v5 v6 : AVal) (h : AHeap) : Prop :=
  B.pv (V.lenSl v5) fun v19 =>
    B.pv (V.bin .lss v6 v19) fun v20 =>
    B.cond v20
    (B.pv (V.lenSl v1) fun v25 =>
    B.pv (V.bin .lss v6 v25) fun v26 =>
    B.gd h v26 true (fun K => K v5 h) fun v28 h =>
    B.gd h v26 true (fun K => K v6 h) fun v29 h =>
    B.gd h v26 true (fun K => B.pv (V.idxS 2 v28 v29) fun v => K v h) fun v30 h =>
    B.gd h v26 true (fun K => B.ldn h v30 2 fun v => K v h) fun v31 h =>
    B.gd h v26 true (fun K => K v1 h) fun v32 h =>
    B.gd h v26 true (fun K => K v6 h) fun v33 h =>
    B.gd h v26 true (fun K => B.pv (V.idxS 2 v32 v33) fun v => K v h) fun v34 h =>
    B.gd h v26 true (fun K => B.ldn h v34 2 fun v => K v h) fun v35 h =>
    B.gd h v26 true (fun K => B.pv (V.binAgg .eql [.i .i64, .i .i64] v31 v35) fun v => K v h) fun v36 h =>
    B.gd h v26 true (fun K => B.pv (V.un .not v36) fun v => K v h) fun v37 h =>
    B.pick v26 v37 (.bool false) fun v38 =>
    B.gd h v38 false (fun K => K v6 h) fun v40 h =>
    B.gd h v38 false (fun K => K v1 h) fun v41 h =>
    B.gd h v38 false (fun K => B.pv (V.lenSl v41) fun v => K v h) fun v42 h =>
    B.gd h v38 false (fun K => B.pv (V.bin .geq v40 v42) fun v => K v h) fun v43 h =>
    B.gd h v38 false (fun K => K v43 h) fun v44 h =>
    B.gd h v44 true (fun K => K v5 h) fun v45 h =>
    B.gd h v44 true (fun K => K v6 h) fun v46 h =>
    B.gd h v44 true (fun K => B.pv (V.idxS 2 v45 v46) fun v => K v h) fun v47 h =>
    B.gd h v44 true (fun K => B.ldn h v47 2 fun v => K v h) fun v48 h =>
    B.gd h v44 true (fun K => K v6 h) fun v49 h =>
    B.gd h v44 true (fun K => K v1 h) fun v50 h =>
    B.gd h v44 true (fun K => B.pv (V.lenSl v50) fun v => K v h) fun v51 h =>
    B.gd h v44 true (fun K => B.pv (V.bin .sub v49 v51) fun v => K v h) fun v52 h =>
    B.gd h v44 true (fun K => B.call C (N 18) [(.int .i64 1), v52] h (B.keepS h [(v47, some 2)] K)) fun v53 h =>
    B.gd h v44 true (fun K => B.pv (V.binAgg .eql [.i .i64, .i .i64] v48 v53) fun v => K v h) fun v54 h =>
    B.gd h v44 true (fun K => B.pv (V.un .not v54) fun v => K v h) fun v55 h =>
    B.gd h v38 false (fun K => B.pick v44 v55 (.bool false) fun v => K v h) fun v56 h =>
    B.pick v38 (.bool true) v56 fun v57 =>
    B.cond v57
    (Q (.bool false) h)
    (B.pv (V.bin .add v6 (.int .i64 1)) fun v22 =>
    Y1 [v22] h))
    (Q (.bool true) h)
@[simp] def kit_KeptWindows.l4 (C : CSem) (N : Nat → Nat) (Q : AVal → AHeap → Prop) (v1 v5 : AVal) : List AVal → AHeap → (List AVal → AHeap → Prop) → Prop
  | [v6], h, Y1 => kit_KeptWindows.k2 C N Q Y1 v1 v5 v6 h
  | _, _, _ => False
@[simp] def kit_KeptWindows.k10 (C : CSem) (N : Nat → Nat) (Q : AVal → AHeap → Prop) (v0 v1 : AVal) (h : AHeap) : Prop :=
  B.pv (V.lenSl v1) fun v14 =>
    B.pv (V.bin .add v14 (.int .i64 12)) fun v15 =>
    B.pv (V.cutSl 2 v0 none (some v15)) fun v16 =>
    LoopR (kit_KeptWindows.l4 C N Q v1 v16) [(.int .i64 0)] h
@[simp] def kit_KeptWindows.k13 (C : CSem) (N : Nat → Nat) (Q : AVal → AHeap → Prop) (v0 v1 : AVal) (h : AHeap) : Prop :=
  B.pv (V.lenSl v0) fun v8 =>
    B.pv (V.lenSl v1) fun v10 =>
    B.pv (V.bin .neq v8 v10) fun v11 =>
    B.cond v11
    (Q (.bool false) h)
    (kit_KeptWindows.k10 C N Q v0 v1 h)
/-- storeman/storemankit.KeptWindows -/
@[simp] def kit_KeptWindows.cps (C : CSem) (N : Nat → Nat) (v0 v1 : AVal) (h : AHeap) (Q : AVal → AHeap → Prop) : Prop :=
  kit_KeptWindows.k13 C N Q v0 v1 h
def kit_KeptWindows.Imp (C : CSem) (N : Nat → Nat) : Prop := ∀ (v0 v1 : AVal) (h : AHeap) (Q : AVal → AHeap → Prop), kit_KeptWindows.cps C N v0 v1 h (dn Q) → C (N 15) [v0, v1] h Q

@[simp] def window_within.k1 (C : CSem) (N : Nat → Nat) (Q : AVal → AHeap → Prop) (v0 v1 : AVal) (h : AHeap) : Prop :=
  B.pv (V.bin .geq v0 v1) fun v8 =>
    B.cond v8
    (B.pv (A.bld [] [.int .i64 0, .int .i64 0]) fun v9 =>
    B.pv (V.setN 0 2 v9 (.agg [.int .i64 0, .int .i64 0])) fun c4 =>
    B.pv (oneOf (joinV (V.fieldN 0 2 c4) (joinV (some (.bool false)) (some [])))) fun v => Q v h)
    (B.pv (A.bld [(0, none, v0), (1, none, v1)] [.int .i64 0, .int .i64 0]) fun v12 =>
    B.pv (V.setN 0 2 v12 (.agg [.int .i64 0, .int .i64 0])) fun c4 =>
    B.pv (oneOf (joinV (V.fieldN 0 2 c4) (joinV (some (.bool true)) (some [])))) fun v => Q v h)
/-- storeman/window.within -/
@[simp] def window_within.cps (C : CSem) (N : Nat → Nat) (v0 v1 : AVal) (h : AHeap) (Q : AVal → AHeap → Prop) : Prop :=
  window_within.k1 C N Q v0 v1 h
def window_within.Imp (C : CSem) (N : Nat → Nat) : Prop := ∀ (v0 v1 : AVal) (h : AHeap) (Q : AVal → AHeap → Prop), window_within.cps C N v0 v1 h (dn Q) → C (N 16) [v0, v1] h Q

@[simp] def ref01_one.k1 (C : CSem) (N : Nat → Nat) (Q : AVal → AHeap → Prop) (v6 c4 : AVal) (h : AHeap) : Prop :=
  B.call C (N 19) [v6] h fun v43 h =>
    B.pv (V.lenSl v43) fun v45 =>
    B.pv (V.bin .neq v45 (.int .i64 1)) fun v46 =>
    B.cond v46
    (B.pv (A.bld [] [.int .i64 0, .int .i64 0]) fun v47 =>
    B.pv (V.setN 0 2 v47 c4) fun c4 =>
    B.pv (oneOf (joinV (V.fieldN 0 2 c4) (joinV (some (.bool false)) (some [])))) fun v => Q v h)
    (B.pv (V.idxS 2 v43 (.int .i64 0)) fun v49 =>
    B.ldn h v49 2 fun v50 =>
    B.pv (V.setN 0 2 v50 c4) fun c4 =>
    B.pv (oneOf (joinV (V.fieldN 0 2 c4) (joinV (some (.bool true)) (some [])))) fun v => Q v h)
@[simp] def ref01_one.k4 (C : CSem) (N : Nat → Nat) (Q : AVal → AHeap → Prop) (Y1 : List AVal → AHeap → Prop) (Y2 : List AVal → AHeap → Prop) (v0 v1 v6 v7 v8 c4 : AVal) (h : AHeap) : Prop :=
  B.pv (V.lenSl v0) fun v23 =>
    B.pv (V.bin .lss v8 v23) fun v24 =>
    B.cond v24
    (B.pv (V.idxS 1 v6 v7) fun v31 =>
    B.ld h v31 fun v32 =>
    B.gd h v32 true (fun K => K v0 h) fun v34 h =>
    B.gd h v32 true (fun K => K v8 h) fun v35 h =>
    B.gd h v32 true (fun K => B.pv (V.idxS 2 v34 v35) fun v => K v h) fun v36 h =>
    B.gd h v32 true (fun K => B.ldn h v36 2 fun v => K v h) fun v37 h =>
    B.gd h v32 true (fun K => K v7 h) fun v38 h =>
    B.gd h v32 true (fun K => B.call C (N 8) [v37, v38] h K) fun v39 h =>
    B.pick v32 v39 (.bool false) fun v40 =>
    B.pv (V.idxS 1 v6 v7) fun v41 =>
    B.st h v41 v40 fun h =>
    B.pv (V.bin .add v8 (.int .i64 1)) fun v26 =>
    Y2 [v26] h)
    (B.pv (V.bin .add v7 (.int .i64 1)) fun v14 =>
    Y1 [v14] h)
@[simp] def ref01_one.l6 (C : CSem) (N : Nat → Nat) (Q : AVal → AHeap → Prop) (Y1 : List AVal → AHeap → Prop) (v0 v1 v6 v7 c4 : AVal) : List AVal → AHeap → (List AVal → AHeap → Prop) → Prop
  | [v8], h, Y2 => ref01_one.k4 C N Q Y1 Y2 v0 v1 v6 v7 v8 c4 h
  | _, _, _ => False
@[simp] def ref01_one.k11 (C : CSem) (N : Nat → Nat) (Q : AVal → AHeap → Prop) (Y1 : List AVal → AHeap → Prop) (v0 v1 v6 v7 c4 : AVal) (h : AHeap) : Prop :=
  B.pv (V.bin .geq v7 v1) fun v19 =>
    B.pv (V.idxS 1 v6 v7) fun v20 =>
    B.st h v20 v19 fun h =>
    LoopR (ref01_one.l6 C N Q Y1 v0 v1 v6 v7 c4) [(.int .i64 0)] h
@[simp] def ref01_one.l18 (C : CSem) (N : Nat → Nat) (Q : AVal → AHeap → Prop) (v0 v1 v6 c4 : AVal) : List AVal → AHeap → (List AVal → AHeap → Prop) → Prop
  | [v7], h, Y1 => B.pv (V.bin .leq v7 (.int .i64 4000)) fun v12 =>
    B.cond v12
    (ref01_one.k11 C N Q Y1 v0 v1 v6 v7 c4 h)
    (ref01_one.k1 C N Q v6 c4 h)
  | _, _, _ => False
@[simp] def ref01_one.k26 (C : CSem) (N : Nat → Nat) (Q : AVal → AHeap → Prop) (v0 v1 : AVal) (h : AHeap) : Prop :=
  0 < 1 ∧ B.mks h 1 (some [.bool false]) (.int .i64 4001) (.int .i64 4001) fun v10 h =>
    LoopR (ref01_one.l18 C N Q v0 v1 v10 (.agg [.int .i64 0, .int .i64 0])) [(.int .i64 0)] h
/-- storeman/storemanref01.one -/
@[simp] def ref01_one.cps (C : CSem) (N : Nat → Nat) (v0 v1 : AVal) (h : AHeap) (Q : AVal → AHeap → Prop) : Prop :=
  ref01_one.k26 C N Q v0 v1 h
def ref01_one.Imp (C : CSem) (N : Nat → Nat) : Prop := ∀ (v0 v1 : AVal) (h : AHeap) (Q : AVal → AHeap → Prop), ref01_one.cps C N v0 v1 h (dn Q) → C (N 17) [v0, v1] h Q

@[simp] def kit_markWindow.k1 (C : CSem) (N : Nat → Nat) (Q : AVal → AHeap → Prop) (v0 v1 : AVal) (h : AHeap) : Prop :=
  B.call C (N 20) [v0, v1] h fun v7 h =>
    B.pv (A.bld [(0, none, v7)] [.int .i64 0, .int .i64 0]) fun v8 =>
    B.pv (V.setN 0 2 v8 (.agg [.int .i64 0, .int .i64 0])) fun c4 =>
    B.pv (oneOf (joinV (V.fieldN 0 2 c4) (some []))) fun v => Q v h
/-- storeman/storemankit.markWindow -/
@[simp] def kit_markWindow.cps (C : CSem) (N : Nat → Nat) (v0 v1 : AVal) (h : AHeap) (Q : AVal → AHeap → Prop) : Prop :=
  kit_markWindow.k1 C N Q v0 v1 h
def kit_markWindow.Imp (C : CSem) (N : Nat → Nat) : Prop := ∀ (v0 v1 : AVal) (h : AHeap) (Q : AVal → AHeap → Prop), kit_markWindow.cps C N v0 v1 h (dn Q) → C (N 18) [v0, v1] h Q

@[simp] def ref01_Of.k2 (C : CSem) (N : Nat → Nat) (Q : AVal → AHeap → Prop) (Y1 : List AVal → AHeap → Prop) (v0 v3 v4 : AVal) (h : AHeap) : Prop :=
  B.pv (V.lenSl v0) fun v7 =>
    B.pv (V.bin .lss v4 v7) fun v8 =>
    B.cond v8
    (B.pv (V.idxS 1 v0 v4) fun v13 =>
    B.ld h v13 fun v14 =>
    B.pv (V.un .not v14) fun v15 =>
    B.cond v15
    (B.pv (V.bin .add v4 (.int .i64 1)) fun v10 =>
    Y1 [v3, v10] h)
    (B.pv (V.lenSl v3) fun v17 =>
    B.pv (V.bin .gtr v17 (.int .i64 0)) fun v18 =>
    B.gd h v18 true (fun K => K v3 h) fun v20 h =>
    B.gd h v18 true (fun K => K v3 h) fun v21 h =>
    B.gd h v18 true (fun K => B.pv (V.lenSl v21) fun v => K v h) fun v22 h =>
    B.gd h v18 true (fun K => B.pv (V.bin .sub v22 (.int .i64 1)) fun v => K v h) fun v23 h =>
    B.gd h v18 true (fun K => B.pv (V.idxS 2 v20 v23) fun v => K v h) fun v24 h =>
    B.gd h v18 true (fun K => B.pv (V.fieldAddr 1 v24) fun v => K v h) fun v25 h =>
    B.gd h v18 true (fun K => B.ld h v25 fun v => K v h) fun v26 h =>
    B.gd h v18 true (fun K => K v4 h) fun v27 h =>
    B.gd h v18 true (fun K => B.pv (V.bin .eql v26 v27) fun v => K v h) fun v28 h =>
    B.pick v18 v28 (.bool false) fun v29 =>
    B.cond v29
    (B.pv (V.lenSl v3) fun v32 =>
    B.pv (V.bin .sub v32 (.int .i64 1)) fun v33 =>
    B.pv (V.bin .add v4 (.int .i64 1)) fun v35 =>
    B.pv (V.idxS 2 v3 v33) fun v36 =>
    B.pv (V.fieldAddr 1 v36) fun v37 =>
    B.st h v37 v35 fun h =>
    B.pv (V.bin .add v4 (.int .i64 1)) fun v10 =>
    Y1 [v3, v10] h)
    (B.pv (V.bin .add v4 (.int .i64 1)) fun v41 =>
    B.pv (A.bld [(0, none, v4), (1, none, v41)] [.int .i64 0, .int .i64 0]) fun v42 =>
    B.newO h (fillL [(0, some 2, v42)] (repL 1 [.int .i64 0, .int .i64 0])) fun i43 h =>
    B.appW h 2 16 v3 (.sl i43 0 0 1 2 1) fun v44 h =>
    B.pv (V.bin .add v4 (.int .i64 1)) fun v10 =>
    Y1 [v44, v10] h)))
    (Q v3 h)
@[simp] def ref01_Of.l4 (C : CSem) (N : Nat → Nat) (Q : AVal → AHeap → Prop) (v0 : AVal) : List AVal → AHeap → (List AVal → AHeap → Prop) → Prop
  | [v3, v4], h, Y1 => ref01_Of.k2 C N Q Y1 v0 v3 v4 h
  | _, _, _ => False
/-- storeman/storemanref01.Of -/
@[simp] def ref01_Of.cps (C : CSem) (N : Nat → Nat) (v0 : AVal) (h : AHeap) (Q : AVal → AHeap → Prop) : Prop :=
  LoopR (ref01_Of.l4 C N Q v0) [.nils, (.int .i64 0)] h
def ref01_Of.Imp (C : CSem) (N : Nat → Nat) : Prop := ∀ (v0 : AVal) (h : AHeap) (Q : AVal → AHeap → Prop), ref01_Of.cps C N v0 h (dn Q) → C (N 19) [v0] h Q

/-- storeman/storemankit.mark -/
@[simp] def kit_mark.cps (C : CSem) (N : Nat → Nat) (v0 v1 : AVal) (h : AHeap) (Q : AVal → AHeap → Prop) : Prop :=
  B.pv (V.bin .add v0 (.int .i64 7)) fun v6 =>
    B.pv (V.bin .mul (.int .i64 1000003) v6) fun v7 =>
    B.pv (V.bin .add v7 v1) fun v9 =>
    Q v9 h
def kit_mark.Imp (C : CSem) (N : Nat → Nat) : Prop := ∀ (v0 v1 : AVal) (h : AHeap) (Q : AVal → AHeap → Prop), kit_mark.cps C N v0 v1 h (dn Q) → C (N 20) [v0, v1] h Q
end Go.Ab
