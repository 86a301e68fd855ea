/- What is proved: a part of the way to the statement: Rslices, Rswap, L08z, DbA, Ckit, DiA, DbB, Pdelta, Ccode. No conditions. -/
import Derived.Test.YtmabmeiangoepaaGreatQ6
import Derived.Test.YtmabmeiangoepaaGreatQ3
import Derived.Test.YtmabmeiangoepaaGreatRows
import Derived.Lib.Bytealg
set_option linter.unusedVariables false
set_option linter.unusedSimpArgs false
namespace Go.Ab
@[simp] def zcl.k1 (C : CSem) (N : Nat → Nat) (Q : AVal → zb → Prop) (v0 : AVal) (h : zb) : Prop :=
 B.nilCheck v0 fun v4 =>
  B.ld h v4 fun v5 =>
  B.nilCheck v0 fun v7 =>
  B.ld h v7 fun v8 =>
  B.pv (V.bin .shl v8 (.int .u64 13)) fun v9 =>
  B.pv (V.bin .xor v5 v9) fun v10 =>
  B.nilCheck v0 fun v11 =>
  B.st h v11 v10 fun h =>
  B.nilCheck v0 fun v13 =>
  B.ld h v13 fun v14 =>
  B.nilCheck v0 fun v16 =>
  B.ld h v16 fun v17 =>
  B.pv (V.bin .shr v17 (.int .u64 7)) fun v18 =>
  B.pv (V.bin .xor v14 v18) fun v19 =>
  B.nilCheck v0 fun v20 =>
  B.st h v20 v19 fun h =>
  B.nilCheck v0 fun v22 =>
  B.ld h v22 fun v23 =>
  B.nilCheck v0 fun v25 =>
  B.ld h v25 fun v26 =>
  B.pv (V.bin .shl v26 (.int .u64 17)) fun v27 =>
  B.pv (V.bin .xor v23 v27) fun v28 =>
  B.nilCheck v0 fun v29 =>
  B.st h v29 v28 fun h =>
  B.nilCheck v0 fun v31 =>
  B.ld h v31 fun v32 =>
  Q v32 h
@[simp] def zcl.cps (C : CSem) (N : Nat → Nat) (v0 : AVal) (h : zb) (Q : AVal → zb → Prop) : Prop :=
 zcl.k1 C N Q v0 h
def zcl.Imp (C : CSem) (N : Nat → Nat) : Prop := ∀ (v0 : AVal) (h : zb) (Q : AVal → zb → Prop), zcl.cps C N v0 h (dn Q) → C (N 298) [v0] h Q
@[simp] def zct.cps (C : CSem) (N : Nat → Nat) (v0 : AVal) (h : zb) (Q : AVal → zb → Prop) : Prop :=
 B.pv (V.toInt .u64 v0) fun v4 =>
  B.call C (N 287) [v4] h fun v5 h =>
  B.pv (V.bin .shl (.int .u64 1) v5) fun v6 =>
  Q v6 h
def zct.Imp (C : CSem) (N : Nat → Nat) : Prop := ∀ (v0 : AVal) (h : zb) (Q : AVal → zb → Prop), zct.cps C N v0 h (dn Q) → C (N 299) [v0] h Q
def zbx.cps (C : CSem) (N : Nat → Nat) (v0 : AVal) (h : zb) (Q : AVal → zb → Prop) : Prop :=
 zgy.cps C (opsS 16 (.str []) 0) (N 287) (N 375) v0 h Q
def zbx.Imp (C : CSem) (N : Nat → Nat) : Prop := ∀ (v0 : AVal) (h : zb) (Q : AVal → zb → Prop), zbx.cps C N v0 h (dn Q) → C (N 364) [v0] h Q
def zbm.cps (C : CSem) (N : Nat → Nat) (v0 : AVal) (h : zb) (Q : AVal → zb → Prop) : Prop :=
 zcd.cps C (opsS 16 (.str []) 0) v0 h Q
def zbm.Imp (C : CSem) (N : Nat → Nat) : Prop := ∀ (v0 : AVal) (h : zb) (Q : AVal → zb → Prop), zbm.cps C N v0 h (dn Q) → C (N 365) [v0] h Q
def zp.cps (C : CSem) (N : Nat → Nat) (v0 v1 : AVal) (h : zb) (Q : AVal → zb → Prop) : Prop :=
 zd1.cps C (opsF 4 72 [.str [], .int .i64 0, .nils, .nils] 0 []) v0 v1 h Q
def zp.Imp (C : CSem) (N : Nat → Nat) : Prop := ∀ (v0 v1 : AVal) (h : zb) (Q : AVal → zb → Prop), zp.cps C N v0 v1 h (dn Q) → C (N 367) [v0, v1] h Q
def zbl.cps (C : CSem) (N : Nat → Nat) (v0 : AVal) (h : zb) (Q : AVal → zb → Prop) : Prop :=
 zcz.cps C (opsS 24 (.nils) 0) (N 376) v0 h Q
def zbl.Imp (C : CSem) (N : Nat → Nat) : Prop := ∀ (v0 : AVal) (h : zb) (Q : AVal → zb → Prop), zbl.cps C N v0 h (dn Q) → C (N 373) [v0] h Q
def zcm.cps (C : CSem) (N : Nat → Nat) (v0 v1 v2 v3 : AVal) (h : zb) (Q : AVal → zb → Prop) : Prop :=
 zr.cps C (opsS 16 (.str []) 0) (N 377) (N 378) (N 379) (N 375) (N 380) (N 381) (N 382) (N 383) (N 384) (N 385) v0 v1 v2 v3 h Q
def zcm.Imp (C : CSem) (N : Nat → Nat) : Prop := ∀ (v0 v1 v2 v3 : AVal) (h : zb) (Q : AVal → zb → Prop), zcm.cps C N v0 v1 v2 v3 h (dn Q) → C (N 375) [v0, v1, v2, v3] h Q
def zbt.cps (C : CSem) (N : Nat → Nat) (v0 v1 : AVal) (h : zb) (Q : AVal → zb → Prop) : Prop :=
 zf7.cps C (opsS 16 (.str []) 0) v0 v1 h Q
def zbt.Imp (C : CSem) (N : Nat → Nat) : Prop := ∀ (v0 v1 : AVal) (h : zb) (Q : AVal → zb → Prop), zbt.cps C N v0 v1 h (dn Q) → C (N 376) [v0, v1] h Q
def zbz.cps (C : CSem) (N : Nat → Nat) (v0 v1 v2 v3 : AVal) (h : zb) (Q : AVal → zb → Prop) : Prop :=
 zo.cps C (opsS 16 (.str []) 0) (N 377) v0 v1 v2 v3 h Q
def zbz.Imp (C : CSem) (N : Nat → Nat) : Prop := ∀ (v0 v1 v2 v3 : AVal) (h : zb) (Q : AVal → zb → Prop), zbz.cps C N v0 v1 v2 v3 h (dn Q) → C (N 378) [v0, v1, v2, v3] h Q
def zce.cps (C : CSem) (N : Nat → Nat) (v0 v1 v2 v3 : AVal) (h : zb) (Q : AVal → zb → Prop) : Prop :=
 zi.cps C (opsS 16 (.str []) 0) (N 377) v0 v1 v2 v3 h Q
def zce.Imp (C : CSem) (N : Nat → Nat) : Prop := ∀ (v0 v1 v2 v3 : AVal) (h : zb) (Q : AVal → zb → Prop), zce.cps C N v0 v1 v2 v3 h (dn Q) → C (N 379) [v0, v1, v2, v3] h Q
def zbk.cps (C : CSem) (N : Nat → Nat) (v0 v1 v2 : AVal) (h : zb) (Q : AVal → zb → Prop) : Prop :=
 zf.cps C (opsS 16 (.str []) 0) (N 377) v0 v1 v2 h Q
def zbk.Imp (C : CSem) (N : Nat → Nat) : Prop := ∀ (v0 v1 v2 : AVal) (h : zb) (Q : AVal → zb → Prop), zbk.cps C N v0 v1 v2 h (dn Q) → C (N 380) [v0, v1, v2] h Q
def zb6.cps (C : CSem) (N : Nat → Nat) (v0 v1 v2 : AVal) (h : zb) (Q : AVal → zb → Prop) : Prop :=
 zcu.cps C (opsS 16 (.str []) 0) v0 v1 v2 h Q
def zb6.Imp (C : CSem) (N : Nat → Nat) : Prop := ∀ (v0 v1 v2 : AVal) (h : zb) (Q : AVal → zb → Prop), zb6.cps C N v0 v1 v2 h (dn Q) → C (N 381) [v0, v1, v2] h Q
def zb9.cps (C : CSem) (N : Nat → Nat) (v0 v1 v2 : AVal) (h : zb) (Q : AVal → zb → Prop) : Prop :=
 z5.cps C (opsS 16 (.str []) 0) (N 387) (N 388) v0 v1 v2 h Q
def zb9.Imp (C : CSem) (N : Nat → Nat) : Prop := ∀ (v0 v1 v2 : AVal) (h : zb) (Q : AVal → zb → Prop), zb9.cps C N v0 v1 v2 h (dn Q) → C (N 382) [v0, v1, v2] h Q
def zb4.cps (C : CSem) (N : Nat → Nat) (v0 v1 v2 : AVal) (h : zb) (Q : AVal → zb → Prop) : Prop :=
 zn.cps C (opsS 16 (.str []) 0) (N 298) (N 299) v0 v1 v2 h Q
def zb4.Imp (C : CSem) (N : Nat → Nat) : Prop := ∀ (v0 v1 v2 : AVal) (h : zb) (Q : AVal → zb → Prop), zb4.cps C N v0 v1 v2 h (dn Q) → C (N 383) [v0, v1, v2] h Q
def zci.cps (C : CSem) (N : Nat → Nat) (v0 v1 v2 : AVal) (h : zb) (Q : AVal → zb → Prop) : Prop :=
 zbp.cps C (opsS 16 (.str []) 0) (N 386) v0 v1 v2 h Q
def zci.Imp (C : CSem) (N : Nat → Nat) : Prop := ∀ (v0 v1 v2 : AVal) (h : zb) (Q : AVal → zb → Prop), zci.cps C N v0 v1 v2 h (dn Q) → C (N 384) [v0, v1, v2] h Q
def zb3.cps (C : CSem) (N : Nat → Nat) (v0 v1 v2 : AVal) (h : zb) (Q : AVal → zb → Prop) : Prop :=
 zb2.cps C (opsS 16 (.str []) 0) (N 377) v0 v1 v2 h Q
def zb3.Imp (C : CSem) (N : Nat → Nat) : Prop := ∀ (v0 v1 v2 : AVal) (h : zb) (Q : AVal → zb → Prop), zb3.cps C N v0 v1 v2 h (dn Q) → C (N 385) [v0, v1, v2] h Q
def zch.cps (C : CSem) (N : Nat → Nat) (v0 v1 v2 v3 : AVal) (h : zb) (Q : AVal → zb → Prop) : Prop :=
 zb5.cps C (opsS 16 (.str []) 0) (N 377) v0 v1 v2 v3 h Q
def zch.Imp (C : CSem) (N : Nat → Nat) : Prop := ∀ (v0 v1 v2 v3 : AVal) (h : zb) (Q : AVal → zb → Prop), zch.cps C N v0 v1 v2 v3 h (dn Q) → C (N 386) [v0, v1, v2, v3] h Q
def zb0.cps (C : CSem) (N : Nat → Nat) (v0 v1 v2 : AVal) (h : zb) (Q : AVal → zb → Prop) : Prop :=
 ze1.cps C (opsS 16 (.str []) 0) (N 388) v0 v1 v2 h Q
def zb0.Imp (C : CSem) (N : Nat → Nat) : Prop := ∀ (v0 v1 v2 : AVal) (h : zb) (Q : AVal → zb → Prop), zb0.cps C N v0 v1 v2 h (dn Q) → C (N 387) [v0, v1, v2] h Q
def zcq.cps (C : CSem) (N : Nat → Nat) (v0 v1 v2 v3 v4 : AVal) (h : zb) (Q : AVal → zb → Prop) : Prop :=
 zew.cps C (opsS 16 (.str []) 0) (N 390) v0 v1 v2 v3 v4 h Q
def zcq.Imp (C : CSem) (N : Nat → Nat) : Prop := ∀ (v0 v1 v2 v3 v4 : AVal) (h : zb) (Q : AVal → zb → Prop), zcq.cps C N v0 v1 v2 v3 v4 h (dn Q) → C (N 388) [v0, v1, v2, v3, v4] h Q
def zcp.cps (C : CSem) (N : Nat → Nat) (v0 v1 v2 v3 : AVal) (h : zb) (Q : AVal → zb → Prop) : Prop :=
 zev.cps C (opsS 16 (.str []) 0) (N 377) v0 v1 v2 v3 h Q
def zcp.Imp (C : CSem) (N : Nat → Nat) : Prop := ∀ (v0 v1 v2 v3 : AVal) (h : zb) (Q : AVal → zb → Prop), zcp.cps C N v0 v1 v2 v3 h (dn Q) → C (N 390) [v0, v1, v2, v3] h Q
end Go.Ab
namespace Go.Ab
@[simp] def zb1.k1 (C : CSem) (N : Nat → Nat) (Q : AVal → zb → Prop) (Y1 : List AVal → zb → Prop) (Y2 : List AVal → zb → Prop) (v4 v50 v51 v52 v57 v58 v59 : AVal) (h : zb) : Prop :=
 B.pv (V.bin .lss v59 v58) fun v60 =>
  B.cond v60
  (B.pv (V.idxS 1 v57 v59) fun v61 =>
  B.ld h v61 fun v62 =>
  B.pv (A.lkp h (some .s) (some (.int .i64 0)) false v4 v62) fun v65 =>
  B.pv (V.bin .eql v65 (.int .i64 0)) fun v66 =>
  B.cond v66
  (Q (.int .i64 150) h)
  (B.pv (V.bin .add v59 (.int .i64 1)) fun v67 =>
  Y2 [v67] h))
  (B.pv (V.bin .add v52 (.int .i64 1)) fun v68 =>
  Y1 [v68] h)
@[simp] def zb1.l2 (C : CSem) (N : Nat → Nat) (Q : AVal → zb → Prop) (Y1 : List AVal → zb → Prop) (v4 v50 v51 v52 v57 v58 : AVal) : List AVal → zb → (List AVal → zb → Prop) → Prop
 | [v59], h, Y2 => zb1.k1 C N Q Y1 Y2 v4 v50 v51 v52 v57 v58 v59 h
 | _, _, _ => False
@[simp] def zb1.k3 (C : CSem) (N : Nat → Nat) (Q : AVal → zb → Prop) (Y1 : List AVal → zb → Prop) (v4 v50 v51 v52 : AVal) (h : zb) : Prop :=
 B.pv (V.idxS 4 v50 v52) fun v54 =>
  B.ldn h v54 4 fun v55 =>
  B.pv (V.setN 0 4 v55 (.agg [.str [], .int .i64 0, .nils, .nils])) fun c9 =>
  B.al c9 (B.pv (V.zc6 3 c9) fun v57 =>
  B.pv (V.zx v57) fun v58 =>
  zd (zb1.l2 C N Q Y1 v4 v50 v51 v52 v57 v58) [(.int .i64 0)] h)
@[simp] def zb1.l4 (C : CSem) (N : Nat → Nat) (Q : AVal → zb → Prop) (v4 v50 v51 : AVal) : List AVal → zb → (List AVal → zb → Prop) → Prop
 | [v52], h, Y1 => B.pv (V.bin .lss v52 v51) fun v53 =>
  B.cond v53
  (zb1.k3 C N Q Y1 v4 v50 v51 v52 h)
  (Q (.int .i64 0) h)
 | _, _, _ => False
@[simp] def zb1.k5 (C : CSem) (N : Nat → Nat) (Q : AVal → zb → Prop) (Y3 : List AVal → zb → Prop) (v0 v4 v18 v19 v20 : AVal) (h : zb) : Prop :=
 B.pv (V.bin .lss v20 v19) fun v21 =>
  B.cond v21
  (B.pv (V.idxS 4 v18 v20) fun v22 =>
  B.ldn h v22 4 fun v23 =>
  B.pv (V.setN 0 4 v23 (.agg [.str [], .int .i64 0, .nils, .nils])) fun c6 =>
  B.al c6 (B.pv (V.zc6 0 c6) fun v26 =>
  B.pv (A.lkp h (some .s) (some (.int .i64 0)) false v4 v26) fun v27 =>
  B.pv (V.bin .add v27 (.int .i64 1)) fun v28 =>
  B.mset h .s v4 v26 v28 fun h =>
  B.al c6 (B.pv (V.zc6 0 c6) fun v30 =>
  B.al c6 (B.pv (V.zc6 3 c6) fun v32 =>
  B.call C (N 363) [v30, v32] h fun v33 h =>
  B.call C (N 364) [v33] h fun v35 h =>
  B.pv (V.zx v33) fun v37 =>
  B.pv (V.bin .gtr v37 (.int .i64 5)) fun v38 =>
  B.gd h v38 false (fun K => K v33 h) fun v40 h =>
  B.al c6 (B.gd h v38 false (fun K => K .undef h) fun _ h =>
  B.gd h v38 false (fun K => B.pv (V.zc6 3 c6) fun v => K v h) fun v44 h =>
  B.gd h v38 false (fun K => B.pv (V.zx v44) fun v => K v h) fun v45 h =>
  B.gd h v38 false (fun K => B.pv (V.bin .add (.int .i64 1) v45) fun v => K v h) fun v46 h =>
  B.gd h v38 false (fun K => B.call C (N 365) [v40] h K) fun v41 h =>
  B.gd h v38 false (fun K => B.pv (V.zx v41) fun v => K v h) fun v42 h =>
  B.gd h v38 false (fun K => B.pv (V.bin .neq v42 v46) fun v => K v h) fun v47 h =>
  B.pick v38 (.bool true) v47 fun v48 =>
  B.cond v48
  (Q (.int .i64 4) h)
  (B.pv (V.bin .add v20 (.int .i64 1)) fun v49 =>
  Y3 [v49] h))))))
  (B.pv (V.zx v0) fun v51 =>
  zd (zb1.l4 C N Q v4 v0 v51) [(.int .i64 0)] h)
@[simp] def zb1.l6 (C : CSem) (N : Nat → Nat) (Q : AVal → zb → Prop) (v0 v4 v18 v19 : AVal) : List AVal → zb → (List AVal → zb → Prop) → Prop
 | [v20], h, Y3 => zb1.k5 C N Q Y3 v0 v4 v18 v19 v20 h
 | _, _, _ => False
@[simp] def zb1.k7 (C : CSem) (N : Nat → Nat) (Q : AVal → zb → Prop) (v0 : AVal) (h : zb) : Prop :=
 B.call C (N 356) [v0] h fun v13 h =>
  B.pv (V.bin .neq v13 (.int .i64 0)) fun v15 =>
  B.cond v15
  (Q v13 h)
  (B.zjl h fun v17 h =>
  B.pv (V.zx v0) fun v19 =>
  zd (zb1.l6 C N Q v0 v17 v0 v19) [(.int .i64 0)] h)
@[simp] def zb1.cps (C : CSem) (N : Nat → Nat) (v0 : AVal) (h : zb) (Q : AVal → zb → Prop) : Prop :=
 zb1.k7 C N Q v0 h
def zb1.Imp (C : CSem) (N : Nat → Nat) : Prop := ∀ (v0 : AVal) (h : zb) (Q : AVal → zb → Prop), zb1.cps C N v0 h (dn Q) → C (N 353) [v0] h Q
@[simp] def ze0.k1 (C : CSem) (N : Nat → Nat) (Q : AVal → zb → Prop) (v0 v1 : AVal) (h : zb) : Prop :=
 B.newO h (A.znt v1) fun i3 h =>
  B.call C (N 367) [v0, (.fn (N 366) [] [(.ptr i3 0 0)])] h fun v8 h =>
  B.pv (V.bin .lss v8 (.int .i64 0)) fun v10 =>
  B.cond v10
  (Q .nils h)
  (B.ld h (.ptr i3 0 0) fun v11 =>
  B.pv (V.idxS 4 v0 v8) fun v14 =>
  B.pv (V.fieldAddr 3 v14) fun v15 =>
  B.ld h v15 fun v16 =>
  B.call C (N 363) [v11, v16] h fun v17 h =>
  Q v17 h)
@[simp] def ze0.cps (C : CSem) (N : Nat → Nat) (v0 v1 : AVal) (h : zb) (Q : AVal → zb → Prop) : Prop :=
 ze0.k1 C N Q v0 v1 h
def ze0.Imp (C : CSem) (N : Nat → Nat) : Prop := ∀ (v0 v1 : AVal) (h : zb) (Q : AVal → zb → Prop), ze0.cps C N v0 v1 h (dn Q) → C (N 355) [v0, v1] h Q
@[simp] def zez.k1 (C : CSem) (N : Nat → Nat) (Q : AVal → zb → Prop) (v0 v1 : AVal) (h : zb) : Prop :=
 B.newO h (zfr [(0, none, v0)] (repL 1 [.str []])) fun i6 h =>
  B.newO h (zfr [(0, none, (.sl i6 0 0 1 1 1)), (1, none, v1)] (repL 2 [.nils])) fun i8 h =>
  B.call C (N 373) [(.sl i8 0 0 2 1 2)] h fun v9 h =>
  Q v9 h
@[simp] def zez.cps (C : CSem) (N : Nat → Nat) (v0 v1 : AVal) (h : zb) (Q : AVal → zb → Prop) : Prop :=
 zez.k1 C N Q v0 v1 h
def zez.Imp (C : CSem) (N : Nat → Nat) : Prop := ∀ (v0 v1 : AVal) (h : zb) (Q : AVal → zb → Prop), zez.cps C N v0 v1 h (dn Q) → C (N 363) [v0, v1] h Q
@[simp] def zek.cps (C : CSem) (N : Nat → Nat) (v0 v1 : AVal) (h : zb) (Q : AVal → zb → Prop) : Prop :=
 B.pv (A.boxN 4 v0) fun c2 =>
  B.al c2 (B.pv (V.zc6 0 c2) fun v5 =>
  B.ld h v1 fun v6 =>
  B.pv (V.bin .eql v5 v6) fun v7 =>
  Q v7 h)
def zek.Imp (C : CSem) (N : Nat → Nat) : Prop := ∀ (v0 v1 : AVal) (h : zb) (Q : AVal → zb → Prop), zek.cps C N v0 v1 h (dn Q) → C (N 366) [v0, v1] h Q
end Go.Ab
set_option maxRecDepth 100000
namespace Go.Ab.S08z
open Go.Ab Go.Proofs
noncomputable abbrev P : Program := Tryz.prog
def lkz : List (Nat × List Nat) → Nat → List Nat
 | [], _ => []
 | (a, b) :: r, k => bif Nat.beq a k then b else lkz r k
def pz (e : List (Nat × List Nat)) : Nat → List (Nat × List Nat)
 | 0 => []
 | n + 1 => pz e n ++ [(n, lkz e n)]
@[reducible] def LkT (P : Program) (I : Bx) (f : Func) (F : CSem → (AVal → zb → Prop) → zca → zb → Prop) : Prop := ∀ {C : CSem} (hC : zmz C) (Q : AVal → zb → Prop) (s : zca) (h : zb), F C Q s h → bwp P C I (f.body.getD .skip) (retB P I f.results.toList Q) s h
@[reducible] def on1 (F : AVal → List AVal → zb → (List AVal → zb → Prop) → Prop) : List AVal → List AVal → zb → (List AVal → zb → Prop) → Prop
 | [a], u, v, w => F a u v w
 | _, _, _, _ => False
@[reducible] def on2 (F : AVal → AVal → List AVal → zb → (List AVal → zb → Prop) → Prop) : List AVal → List AVal → zb → (List AVal → zb → Prop) → Prop
 | [a, b], u, v, w => F a b u v w
 | _, _, _, _ => False
@[reducible] def on3 (F : AVal → AVal → AVal → List AVal → zb → (List AVal → zb → Prop) → Prop) : List AVal → List AVal → zb → (List AVal → zb → Prop) → Prop
 | [a, b, c], u, v, w => F a b c u v w
 | _, _, _, _ => False
@[reducible] def on4 (F : AVal → AVal → AVal → AVal → List AVal → zb → (List AVal → zb → Prop) → Prop) : List AVal → List AVal → zb → (List AVal → zb → Prop) → Prop
 | [a, b, c, d], u, v, w => F a b c d u v w
 | _, _, _, _ => False
@[reducible] def on5 (F : AVal → AVal → AVal → AVal → AVal → List AVal → zb → (List AVal → zb → Prop) → Prop) : List AVal → List AVal → zb → (List AVal → zb → Prop) → Prop
 | [a, b, c, d, e], u, v, w => F a b c d e u v w
 | _, _, _, _ => False
@[reducible] def on6 (F : AVal → AVal → AVal → AVal → AVal → AVal → List AVal → zb → (List AVal → zb → Prop) → Prop) : List AVal → List AVal → zb → (List AVal → zb → Prop) → Prop
 | [a, b, c, d, e, f], u, v, w => F a b c d e f u v w
 | _, _, _, _ => False
def N (k : Nat) : Nat := [0, 0, 0, 0, 0, 0, 0, 0, 0, 0, 0, 0, 0, 0, 0, 0, 0, 0, 90, 0, 35, 0, 0, 0, 0, 0, 0, 0, 0, 0, 0, 0, 0, 0, 125, 0, 0, 0, 0, 0, 0, 0, 98, 0, 0, 0, 0, 0, 0, 0, 0, 0, 0, 73, 0, 0, 0, 0, 0, 0, 0, 45, 32, 0, 89, 0, 0, 0, 0, 0, 0, 0, 0, 0, 121, 122, 0, 91, 93, 0, 48, 49, 50, 51, 52, 53, 54, 55, 56, 57, 58, 59, 60, 61, 62, 63, 64, 65, 66, 67, 68, 69, 70, 0, 0, 0, 72, 92, 71, 18, 26, 94, 95, 96, 97, 99, 100, 101, 102, 103, 104, 105, 106, 107, 108, 109, 110, 111, 112, 113, 0, 0, 42, 13, 123, 124, 126, 127, 128, 0, 0, 0, 0, 0, 0, 0, 0, 0, 0, 0, 0, 0, 0, 0, 0, 0, 0, 0, 0, 0, 0, 0, 0, 0, 0, 0, 0, 0, 0, 0, 0, 0, 0, 0, 0, 0, 0, 0, 0, 0, 0, 0, 0, 0, 0, 0, 0, 0, 0, 0, 0, 0, 0, 0, 0, 0, 0, 0, 0, 0, 0, 0, 0, 0, 0, 0, 0, 0, 0, 0, 0, 0, 0, 0, 0, 0, 0, 0, 0, 0, 0, 0, 0, 0, 0, 0, 0, 0, 0, 0, 0, 0, 0, 0, 0, 0, 0, 0, 0, 0, 0, 0, 0, 0, 0, 0, 0, 0, 0, 0, 0, 0, 0, 0, 0, 0, 0, 0, 0, 0, 0, 0, 0, 0, 0, 0, 0, 0, 0, 0, 0, 0, 0, 0, 0, 0, 0, 0, 0, 0, 0, 0, 0, 0, 0, 0, 0, 39, 0, 0, 0, 0, 0, 0, 0, 0, 0, 0, 117, 116, 0, 0, 0, 0, 87, 88, 0, 0, 0, 0, 0, 0, 0, 0, 0, 0, 0, 0, 0, 33, 0, 0, 0, 0, 40, 0, 0, 0, 0, 0, 0, 0, 0, 0, 0, 0, 0, 0, 0, 0, 0, 0, 0, 0, 0, 0, 0, 0, 0, 0, 0, 0, 0, 8, 0, 9, 19, 5, 6, 0, 16, 0, 36, 20, 21, 22, 24, 23, 0, 0, 76, 75, 74, 37, 114, 38, 77, 84, 85, 86, 83, 82, 81, 80, 79, 78, 115, 118, 119, 120, 129, 7, 10, 11, 12, 14, 15, 3, 4, 17, 25, 27, 30, 29, 28, 31, 34, 41, 43, 44, 47, 46].getD k 0
theorem mixed : P.follows .mixedOrders = true := by kernel_rfl
def zc0.I : Bx := ⟨[], [], 53, []⟩
theorem zc0.L : LkT P zc0.I Tryz.f3 fun C Q s h => zc0.cps C N (s 0) (s 1) h Q := fun {C} hC Q s h hR =>
 e1 hR
theorem zc0.imp : zc0.Imp (AC P) N := fun v0 v1 h Q hR => eF mixed (fn := Tryz.f3) (fun hC => zc0.L hC (dn Q) (zck [v0, v1]) h hR)
def z6.I : Bx := ⟨[], [], 101, [(5, pz [] 25)]⟩
theorem z6.L : LkT P z6.I Tryz.f5 fun C Q s h => z6.cps C N (s 0) h Q := fun {C} hC Q s h hR =>
 eS hC (fun s h => zd (z6.l8 C N Q (s 0)) [(.int .i64 0), (.int .i64 0)] h) (e1 hR) (fun s h hR => eS hC (fun s h => zd (z6.l8 C N Q (s 0)) [(s 3), (.int .i64 0)] h) (e1 hR) (fun s h hR => eS hC (fun s h => z6.k1 C N Q (s 0) (s 3) h) (eS hC (fun s h => zd (z6.l8 C N Q (s 0)) [(s 3), (s 4)] h) (e1 hR) (fun s h hR => eK (eL hC [0] [3, 4] (on1 (z6.l8 C N Q)) hR (fun Y1 s h hR => eS hC (fun s h => z6.k6 C N Q Y1 (s 0) (s 3) (s 4) h) (e1 hR) (fun s h hR => eS hC (fun s h => B.pv (V.bin .add (s 4) (.int .i64 1)) fun v16 =>
  Y1 [(s 3), v16] h) (eK (eS hC (fun s h => zd (z6.l5 C N Q Y1 (s 0) (s 4)) [(s 3), (.int .i64 0)] h) (e1 hR) (fun s h hR => eS hC (fun s h => zd (z6.l3 C N Q Y1 (s 0) (s 4)) [(s 3), (.int .i64 0)] h) (eS hC (fun s h => zd (z6.l5 C N Q Y1 (s 0) (s 4)) [(s 3), (s 5)] h) (e1 hR) (fun s h hR => eK (eL hC [0, 4] [3, 5] (on2 (z6.l5 C N Q Y1)) hR (fun Y3 s h hR => e1 hR)))) (fun s h hR => eS hC (fun s h => zd (z6.l3 C N Q Y1 (s 0) (s 4)) [(s 3), (s 6)] h) (e1 hR) (fun s h hR => eK (eL hC [0, 4] [3, 6] (on2 (z6.l3 C N Q Y1)) hR (fun Y2 s h hR => e1 hR))))))) (fun s h hR => e1 hR)))))) (fun s h hR => e1 hR)))
theorem z6.imp : z6.Imp (AC P) N := fun v0 h Q hR => eF mixed (fn := Tryz.f5) (fun hC => z6.L hC (dn Q) (zck [v0]) h hR)
def zd5.I : Bx := ⟨[], [], 30, []⟩
theorem zd5.L : LkT P zd5.I Tryz.f6 fun C Q s h => zd5.cps C N h Q := fun {C} hC Q s h hR =>
 e1 hR
theorem zd5.imp : zd5.Imp (AC P) N := fun h Q hR => eF mixed (fn := Tryz.f6) (fun hC => zd5.L hC (dn Q) (zck []) h hR)
def zb8.I : Bx := ⟨[5], [], 39, []⟩
theorem zb8.L : LkT P zb8.I Tryz.f7 fun C Q s h => zb8.cps C N (s 0) h Q := fun {C} hC Q s h hR =>
 eS hC (fun s h => zb8.k5 C N Q (s 0) h) (e1 hR) (fun s h hR => eS hC (fun s h => zd (zb8.l4 C N Q (s 0)) [(s 3), (.int .i64 0)] h) (e1 hR) (fun s h hR => eS hC (fun s h => zd (zb8.l2 C N Q (s 0)) [(s 3), (.int .i64 0)] h) (eS hC (fun s h => zd (zb8.l4 C N Q (s 0)) [(s 3), (s 4)] h) (e1 hR) (fun s h hR => eK (eL hC [0] [3, 4] (on1 (zb8.l4 C N Q)) hR (fun Y2 s h hR => e1 hR)))) (fun s h hR => eS hC (fun s h => B.pv (V.zx (s 0)) fun v37 =>
  B.pv (V.zfj 4 (s 3) none (some v37)) fun v38 =>
  Q v38 h) (eS hC (fun s h => zd (zb8.l2 C N Q (s 0)) [(s 3), (s 6)] h) (e1 hR) (fun s h hR => eK (eL hC [0] [3, 6] (on1 (zb8.l2 C N Q)) hR (fun Y1 s h hR => e1 hR)))) (fun s h hR => e1 hR))))
theorem zb8.imp : zb8.Imp (AC P) N := fun v0 h Q hR => eF mixed (fn := Tryz.f7) (fun hC => zb8.L hC (dn Q) (zck [v0]) h hR)
def zb1.I : Bx := ⟨[6, 9], [25, 29, 31, 43, 56], 69, [(11, [(0, []), (1, []), (2, []), (3, []), (4, []), (7, []), (8, []), (9, []), (10, []), (5, [8]), (6, []), (11, []), (12, [])])]⟩
theorem zb1.L : LkT P zb1.I Tryz.f8 fun C Q s h => zb1.cps C N (s 0) h Q := fun {C} hC Q s h hR =>
 eS hC (fun s h => zb1.k7 C N Q (s 0) h) (e1 hR) (fun s h hR => eS hC (fun s h => B.zjl h fun v17 h =>
  B.pv (V.zx (s 0)) fun v19 =>
  zd (zb1.l6 C N Q (s 0) v17 (s 0) v19) [(.int .i64 0)] h) (e1 hR) (fun s h hR => eS hC (fun s h => B.pv (V.zx (s 0)) fun v19 =>
  zd (zb1.l6 C N Q (s 0) (s 4) (s 0) v19) [(.int .i64 0)] h) (e1 hR) (fun s h hR => eS hC (fun s h => B.pv (V.zx (s 0)) fun v51 =>
  zd (zb1.l4 C N Q (s 4) (s 0) v51) [(.int .i64 0)] h) (eS hC (fun s h => zd (zb1.l6 C N Q (s 0) (s 4) (s 18) (s 19)) [(s 20)] h) (e1 hR) (fun s h hR => eK (eL hC [0, 4, 18, 19] [20] (on4 (zb1.l6 C N Q)) hR (fun Y3 s h hR => e1 hR)))) (fun s h hR => eS hC (fun s h => Q (.int .i64 0) h) (eS hC (fun s h => zd (zb1.l4 C N Q (s 4) (s 50) (s 51)) [(s 52)] h) (e1 hR) (fun s h hR => eK (eL hC [4, 50, 51] [52] (on3 (zb1.l4 C N Q)) hR (fun Y1 s h hR => eS hC (fun s h => B.cond (s 53)
  (zb1.k3 C N Q Y1 (s 4) (s 50) (s 51) (s 52) h)
  (Q (.int .i64 0) h)) (e1 hR) (fun s h hR => eS hC (fun s h => zb1.k3 C N Q Y1 (s 4) (s 50) (s 51) (s 52) h) (e1 hR) (fun s h hR => eS hC (fun s h => B.pv (V.bin .add (s 52) (.int .i64 1)) fun v68 =>
  Y1 [v68] h) (eK (eS hC (fun s h => B.al (s 78) (B.pv (V.zc6 3 (s 78)) fun v57 =>
  B.pv (V.zx v57) fun v58 =>
  zd (zb1.l2 C N Q Y1 (s 4) (s 50) (s 51) (s 52) v57 v58) [(.int .i64 0)] h)) (e1 hR) (fun s h hR => eS hC (fun s h => zd (zb1.l2 C N Q Y1 (s 4) (s 50) (s 51) (s 52) (s 57) (s 58)) [(s 59)] h) (e1 hR) (fun s h hR => eK (eL hC [4, 50, 51, 52, 57, 58] [59] (on6 (zb1.l2 C N Q Y1)) hR (fun Y2 s h hR => e1 hR)))))) (fun s h hR => e1 hR))))))) (fun s h hR => e1 hR)))))
theorem zb1.imp : zb1.Imp (AC P) N := fun v0 h Q hR => eF mixed (fn := Tryz.f8) (fun hC => zb1.L hC (dn Q) (zck [v0]) h hR)
def ze0.I : Bx := ⟨[], [], 18, [(4, pz [] 8)]⟩
theorem ze0.L : LkT P ze0.I Tryz.f9 fun C Q s h => ze0.cps C N (s 0) (s 1) h Q := fun {C} hC Q s h hR =>
 e1 hR
theorem ze0.imp : ze0.Imp (AC P) N := fun v0 v1 h Q hR => eF mixed (fn := Tryz.f9) (fun hC => ze0.L hC (dn Q) (zck [v0, v1]) h hR)
def zcj.I : Bx := ⟨[], [], 58, [(7, pz [(30, [25])] 35)]⟩
theorem zcj.L : LkT P zcj.I Tryz.f10 fun C Q s h => zcj.cps C N (s 0) (s 1) h Q := fun {C} hC Q s h hR =>
 eS hC (fun s h => zcj.k4 C N Q (s 0) (s 1) h) (e1 hR) (fun s h hR => eS hC (fun s h => zcj.k3 C N Q (s 0) (s 1) h) (e1 hR) (fun s h hR => eS hC (fun s h => zd (zcj.l2 C N Q (s 1) (s 5)) [(.int .i64 0)] h) (e1 hR) (fun s h hR => eS hC (fun s h => Q (.bool true) h) (eS hC (fun s h => zd (zcj.l2 C N Q (s 1) (s 5)) [(s 6)] h) (e1 hR) (fun s h hR => eK (eL hC [1, 5] [6] (on2 (zcj.l2 C N Q)) hR (fun Y1 s h hR => e1 hR)))) (fun s h hR => e1 hR))))
theorem zcj.imp : zcj.Imp (AC P) N := fun v0 v1 h Q hR => eF mixed (fn := Tryz.f10) (fun hC => zcj.L hC (dn Q) (zck [v0, v1]) h hR)
def zcc.I : Bx := ⟨[], [], 32, []⟩
theorem zcc.L : LkT P zcc.I Tryz.f11 fun C Q s h => zcc.cps C N (s 0) h Q := fun {C} hC Q s h hR =>
 eS hC (fun s h => zcc.k3 C N Q (s 0) h) (eS hC (fun s h => zd (zcc.l5 C N Q (s 0)) [(s 2)] h) (e1 hR) (fun s h hR => eK (eL hC [0] [2] (on1 (zcc.l5 C N Q)) hR (fun Y2 s h hR => e1 hR)))) (fun s h hR => eS hC (fun s h => zd (zcc.l2 C N Q (s 3)) [(.int .i64 0)] h) (e1 hR) (fun s h hR => eS hC (fun s h => zd (zcc.l2 C N Q (s 3)) [(s 4)] h) (e1 hR) (fun s h hR => eK (eL hC [3] [4] (on1 (zcc.l2 C N Q)) hR (fun Y1 s h hR => e1 hR)))))
theorem zcc.imp : zcc.Imp (AC P) N := fun v0 h Q hR => eF mixed (fn := Tryz.f11) (fun hC => zcc.L hC (dn Q) (zck [v0]) h hR)
def zbw.I : Bx := ⟨[], [], 51, []⟩
theorem zbw.L : LkT P zbw.I Tryz.f12 fun C Q s h => zbw.cps C N (s 0) h Q := fun {C} hC Q s h hR =>
 eS hC (fun s h => zbw.k7 C N Q (s 0) h) (e1 hR) (fun s h hR => eS hC (fun s h => B.pv (V.bin .neq (s 3) (.int .i64 0)) fun v10 =>
  B.cond v10
  (Q (s 3) h)
  (zd (zbw.l6 C N Q (s 0)) [(.int .i64 0)] h)) (e1 hR) (fun s h hR => eS hC (fun s h => zd (zbw.l6 C N Q (s 0)) [(.int .i64 0)] h) (e1 hR) (fun s h hR => eS hC (fun s h => zd (zbw.l4 C N Q (s 0)) [(.int .i64 0)] h) (eS hC (fun s h => zd (zbw.l6 C N Q (s 0)) [(s 4)] h) (e1 hR) (fun s h hR => eK (eL hC [0] [4] (on1 (zbw.l6 C N Q)) hR (fun Y3 s h hR => e1 hR)))) (fun s h hR => eS hC (fun s h => Q (.int .i64 0) h) (eS hC (fun s h => zd (zbw.l4 C N Q (s 0)) [(s 5)] h) (e1 hR) (fun s h hR => eK (eL hC [0] [5] (on1 (zbw.l4 C N Q)) hR (fun Y1 s h hR => eS hC (fun s h => zd (zbw.l2 C N Q Y1 (s 0) (s 5)) [(.int .i64 0)] h) (e1 hR) (fun s h hR => eS hC (fun s h => B.pv (V.bin .add (s 5) (.int .i64 1)) fun v29 =>
  Y1 [v29] h) (eK (eS hC (fun s h => zd (zbw.l2 C N Q Y1 (s 0) (s 5)) [(s 6)] h) (e1 hR) (fun s h hR => eK (eL hC [0, 5] [6] (on2 (zbw.l2 C N Q Y1)) hR (fun Y2 s h hR => e1 hR))))) (fun s h hR => e1 hR)))))) (fun s h hR => e1 hR)))))
theorem zbw.imp : zbw.Imp (AC P) N := fun v0 h Q hR => eF mixed (fn := Tryz.f12) (fun hC => zbw.L hC (dn Q) (zck [v0]) h hR)
def zc7.I : Bx := ⟨[], [], 26, [(6, pz [] 9)]⟩
theorem zc7.L : LkT P zc7.I Tryz.f13 fun C Q s h => zc7.cps C N (s 0) (s 1) h Q := fun {C} hC Q s h hR =>
 eS hC (fun s h => zc7.k3 C N Q (s 0) (s 1) h) (e1 hR) (fun s h hR => eS hC (fun s h => zd (zra.l4  Q (s 0) (s 1)) [(.int .i64 0)] h) (e1 hR) (fun s h hR => eS hC (fun s h => Q (.bool true) h) (eS hC (fun s h => zd (zra.l4  Q (s 0) (s 1)) [(s 5)] h) (e1 hR) (fun s h hR => eK (eL hC [0, 1] [5] (on2 (zra.l4  Q)) hR (fun Y1 s h hR => e1 hR)))) (fun s h hR => e1 hR)))
theorem zc7.imp : zc7.Imp (AC P) N := fun v0 v1 h Q hR => eF mixed (fn := Tryz.f13) (fun hC => zc7.L hC (dn Q) (zck [v0, v1]) h hR)
def zen.I : Bx := ⟨[], [], 19, []⟩
theorem zen.L : LkT P zen.I Tryz.f14 fun C Q s h => zen.cps C N (s 0) (s 1) h Q := fun {C} hC Q s h hR =>
 e1 hR
theorem zen.imp : zen.Imp (AC P) N := fun v0 v1 h Q hR => eF mixed (fn := Tryz.f14) (fun hC => zen.L hC (dn Q) (zck [v0, v1]) h hR)
def zcv.I : Bx := ⟨[], [], 21, []⟩
theorem zcv.L : LkT P zcv.I Tryz.f15 fun C Q s h => zcv.cps C N (s 0) h Q := fun {C} hC Q s h hR =>
 eS hC (fun s h => zcv.k3 C N Q (s 0) h) (e1 hR) (fun s h hR => eS hC (fun s h => zd (zcv.l2 C N Q (s 0) (s 3)) [(.int .i64 0)] h) (e1 hR) (fun s h hR => eS hC (fun s h => B.call C (N 62) [(s 3)] h fun v20 h =>
  Q v20 h) (eS hC (fun s h => zd (zcv.l2 C N Q (s 0) (s 3)) [(s 4)] h) (e1 hR) (fun s h hR => eK (eL hC [0, 3] [4] (on2 (zcv.l2 C N Q)) hR (fun Y1 s h hR => e1 hR)))) (fun s h hR => e1 hR)))
theorem zcv.imp : zcv.Imp (AC P) N := fun v0 h Q hR => eF mixed (fn := Tryz.f15) (fun hC => zcv.L hC (dn Q) (zck [v0]) h hR)
def zd4.I : Bx := ⟨[], [], 8, []⟩
theorem zd4.L : LkT P zd4.I Tryz.f16 fun C Q s h => zd4.cps C N (s 0) h Q := fun {C} hC Q s h hR =>
 e1 hR
theorem zd4.imp : zd4.Imp (AC P) N := fun v0 h Q hR => eF mixed (fn := Tryz.f16) (fun hC => zd4.L hC (dn Q) (zck [v0]) h hR)
def zdx.I : Bx := ⟨[1, 2], [3, 6, 7, 10], 12, []⟩
theorem zdx.L : LkT P zdx.I Tryz.f17 fun C Q s h => zdx.cps C N (s 0) h Q := fun {C} hC Q s h hR =>
 e1 hR
theorem zdx.imp : zdx.Imp (AC P) N := fun v0 h Q hR => eF mixed (fn := Tryz.f17) (fun hC => zdx.L hC (dn Q) (zck [v0]) h hR)
def zdo.I : Bx := ⟨[4], [], 9, []⟩
theorem zdo.L : LkT P zdo.I Tryz.f18 fun C Q s h => zdo.cps C N (s 0) (s 1) h Q := fun {C} hC Q s h hR =>
 e1 hR
theorem zdo.imp : zdo.Imp (AC P) N := fun v0 v1 h Q hR => eF mixed (fn := Tryz.f18) (fun hC => zdo.L hC (dn Q) (zck [v0, v1]) h hR)
def zex.I : Bx := ⟨[], [], 13, []⟩
theorem zex.L : LkT P zex.I Tryz.f19 fun C Q s h => zex.cps C N (s 0) h Q := fun {C} hC Q s h hR =>
 e1 hR
theorem zex.imp : zex.Imp (AC P) N := fun v0 h Q hR => eF mixed (fn := Tryz.f19) (fun hC => zex.L hC (dn Q) (zck [v0]) h hR)
def zez.I : Bx := ⟨[], [], 10, []⟩
theorem zez.L : LkT P zez.I Tryz.f20 fun C Q s h => zez.cps C N (s 0) (s 1) h Q := fun {C} hC Q s h hR =>
 e1 hR
theorem zez.imp : zez.Imp (AC P) N := fun v0 v1 h Q hR => eF mixed (fn := Tryz.f20) (fun hC => zez.L hC (dn Q) (zck [v0, v1]) h hR)
def zbx.I : Bx := ⟨[], [], 11, []⟩
theorem zbx.L : LkT P zbx.I Tryz.f21 fun C Q s h => zbx.cps C N (s 0) h Q := fun {C} hC Q s h hR =>
 e1 hR
theorem zbx.imp : zbx.Imp (AC P) N := fun v0 h Q hR => eF mixed (fn := Tryz.f21) (fun hC => zbx.L hC (dn Q) (zck [v0]) h hR)
def zbm.I : Bx := ⟨[], [], 61, [(6, pz [] 10), (11, pz [] 10)]⟩
theorem zbm.L : LkT P zbm.I Tryz.f22 fun C Q s h => zbm.cps C N (s 0) h Q := fun {C} hC Q s h hR =>
 eS hC (fun s h => zcd.k5 C (opsS 16 (.str []) 0) Q (s 0) h) (e1 hR) (fun s h hR => eS hC (fun s h => zd (zcd.l4 C (opsS 16 (.str []) 0) Q (s 0)) [(.int .i64 1)] h) (e1 hR) (fun s h hR => eS hC (fun s h => Q (s 0) h) (eS hC (fun s h => zd (zcd.l4 C (opsS 16 (.str []) 0) Q (s 0)) [(s 3)] h) (e1 hR) (fun s h hR => eK (eL hC [0] [3] (on1 (zcd.l4 C (opsS 16 (.str []) 0) Q)) hR (fun Y1 s h hR => eS hC (fun s h => zcd.k3 C (opsS 16 (.str []) 0) Q Y1 (s 0) (s 3) h) (e1 hR) (fun s h hR => eS hC (fun s h => B.pv (V.bin .add (s 3) (.int .i64 1)) fun v15 =>
  Y1 [v15] h) (eK (eS hC (fun s h => B.cond (s 25) (B.pv (V.zfj (opsS 16 (.str []) 0).es (s 0) (some (s 3)) none) fun v28 =>
  zd (zcd.l2 C (opsS 16 (.str []) 0) Q Y1 (s 0) v28) [(s 3), (.int .i64 1)] h) (B.pv (V.bin .add (s 3) (.int .i64 1)) fun v15 =>
  Y1 [v15] h)) (e1 hR) (fun s h hR => eC 25 hR (fun hR => eS hC (fun s h => zd (zcd.l2 C (opsS 16 (.str []) 0) Q Y1 (s 0) (s 4)) [(s 3), (.int .i64 1)] h) (e1 hR) (fun s h hR => eS hC (fun s h => B.pv (V.zfj (opsS 16 (.str []) 0).es (s 0) (some (s 3)) none) fun v56 =>
  B.clr h (opsS 16 (.str []) 0).z v56 fun _ h =>
  B.pv (V.zfj (opsS 16 (.str []) 0).es (s 0) none (some (s 3))) fun v59 =>
  Q v59 h) (eS hC (fun s h => zd (zcd.l2 C (opsS 16 (.str []) 0) Q Y1 (s 0) (s 4)) [(s 3), (s 5)] h) (e1 hR) (fun s h hR => eK (eL hC [0, 4] [3, 5] (on2 (zcd.l2 C (opsS 16 (.str []) 0) Q Y1)) hR (fun Y2 s h hR => e1 hR)))) (fun s h hR => e1 hR))) (fun hR => e1 hR)))) (fun s h hR => e1 hR)))))) (fun s h hR => e1 hR)))
theorem zbm.imp : zbm.Imp (AC P) N := fun v0 h Q hR => eF mixed (fn := Tryz.f22) (fun hC => zbm.L hC (dn Q) (zck [v0]) h hR)
def zp.I : Bx := ⟨[], [], 19, []⟩
abbrev zp.E : z4 := opsF 4 72 [.str [], .int .i64 0, .nils, .nils] 0 []
theorem zp.L : LkT P zp.I Tryz.f23 fun C Q s h => zp.cps C N (s 0) (s 1) h Q := fun {C} hC Q s h hR =>
 eS hC (fun s h => B.pv (V.zx (s 0)) fun v7 =>
  zd (zd1.l2 C zp.E Q (s 0) (s 1) v7) [(.int .i64 0)] h) (e1 hR) (fun s h hR => eS hC (fun s h => Q (.int .i64 (-1)) h) (eS hC (fun s h => zd (zd1.l2 C zp.E Q (s 0) (s 1) (s 7)) [(s 8)] h) (e1 hR) (fun s h hR => eK (eL hC [0, 1, 7] [8] (on3 (zd1.l2 C zp.E Q)) hR (fun Y1 s h hR => e1 hR)))) (fun s h hR => e1 hR))
theorem zp.imp : zp.Imp (AC P) N := fun v0 v1 h Q hR => eF mixed (fn := Tryz.f23) (fun hC => zp.L hC (dn Q) (zck [v0, v1]) h hR)
def zek.I : Bx := ⟨[2], [4], 8, []⟩
theorem zek.L : LkT P zek.I Tryz.f24 fun C Q s h => zek.cps C N (s 0) (s 1) h Q := fun {C} hC Q s h hR =>
 e1 hR
theorem zek.imp : zek.Imp (AC P) N := fun v0 v1 h Q hR => eF mixed (fn := Tryz.f24) (fun hC => zek.L hC (dn Q) (zck [v0, v1]) h hR)
def zdy.I : Bx := ⟨[2, 3], [9, 11, 16, 18], 22, []⟩
theorem zdy.L : LkT P zdy.I Tryz.f25 fun C Q s h => zdy.cps C N (s 0) (s 1) h Q := fun {C} hC Q s h hR =>
 e1 hR
theorem zdy.imp : zdy.Imp (AC P) N := fun v0 v1 h Q hR => eF mixed (fn := Tryz.f25) (fun hC => zdy.L hC (dn Q) (zck [v0, v1]) h hR)
def zds.I : Bx := ⟨[2, 3], [5, 7, 11, 13, 18, 20, 25, 27], 31, []⟩
theorem zds.L : LkT P zds.I Tryz.f26 fun C Q s h => zds.cps C N (s 0) (s 1) h Q := fun {C} hC Q s h hR =>
 e1 hR
theorem zds.imp : zds.Imp (AC P) N := fun v0 v1 h Q hR => eF mixed (fn := Tryz.f26) (fun hC => zds.L hC (dn Q) (zck [v0, v1]) h hR)
def zdw.I : Bx := ⟨[1], [2, 5], 8, []⟩
theorem zdw.L : LkT P zdw.I Tryz.f27 fun C Q s h => zdw.cps C N (s 0) h Q := fun {C} hC Q s h hR =>
 e1 hR
theorem zdw.imp : zdw.Imp (AC P) N := fun v0 h Q hR => eF mixed (fn := Tryz.f27) (fun hC => zdw.L hC (dn Q) (zck [v0]) h hR)
def z0.I : Bx := ⟨[], [], 103, [(6, pz [] 33)]⟩
theorem z0.L : LkT P z0.I Tryz.f28 fun C Q s h => z0.cps C N (s 0) h Q := fun {C} hC Q s h hR =>
 eS hC (fun s h => z0.k11 C N Q (s 0) h) (e1 hR) (fun s h hR => eS hC (fun s h => zd (z0.l10 C N Q (s 0)) [(.int .i64 0)] h) (e1 hR) (fun s h hR => eS hC (fun s h => zd (z0.l8 C N Q (s 0)) [(.int .i64 0)] h) (eS hC (fun s h => zd (z0.l10 C N Q (s 0)) [(s 3)] h) (e1 hR) (fun s h hR => eK (eL hC [0] [3] (on1 (z0.l10 C N Q)) hR (fun Y5 s h hR => e1 hR)))) (fun s h hR => eS hC (fun s h => B.call C (N 410) [(s 0)] h fun v80 h =>
  zd (z0.l4 C N Q v80) [(.int .i64 0)] h) (eS hC (fun s h => zd (z0.l8 C N Q (s 0)) [(s 4)] h) (e1 hR) (fun s h hR => eK (eL hC [0] [4] (on1 (z0.l8 C N Q)) hR (fun Y3 s h hR => eS hC (fun s h => zd (z0.l6 C N Q Y3 (s 0) (s 4)) [(.int .i64 0)] h) (e1 hR) (fun s h hR => eS hC (fun s h => B.pv (V.bin .add (s 4) (.int .i64 1)) fun v56 =>
  Y3 [v56] h) (eK (eS hC (fun s h => zd (z0.l6 C N Q Y3 (s 0) (s 4)) [(s 5)] h) (e1 hR) (fun s h hR => eK (eL hC [0, 4] [5] (on2 (z0.l6 C N Q Y3)) hR (fun Y4 s h hR => e1 hR))))) (fun s h hR => e1 hR)))))) (fun s h hR => eS hC (fun s h => zd (z0.l4 C N Q (s 6)) [(.int .i64 0)] h) (e1 hR) (fun s h hR => eS hC (fun s h => zd (z0.l2 C N Q (s 6)) [(.int .i64 0)] h) (eS hC (fun s h => zd (z0.l4 C N Q (s 6)) [(s 7)] h) (e1 hR) (fun s h hR => eK (eL hC [6] [7] (on1 (z0.l4 C N Q)) hR (fun Y2 s h hR => e1 hR)))) (fun s h hR => eS hC (fun s h => Q (.int .i64 0) h) (eS hC (fun s h => zd (z0.l2 C N Q (s 6)) [(s 8)] h) (e1 hR) (fun s h hR => eK (eL hC [6] [8] (on1 (z0.l2 C N Q)) hR (fun Y1 s h hR => e1 hR)))) (fun s h hR => e1 hR)))))))
theorem z0.imp : z0.Imp (AC P) N := fun v0 h Q hR => eF mixed (fn := Tryz.f28) (fun hC => z0.L hC (dn Q) (zck [v0]) h hR)
def zcn.I : Bx := ⟨[1], [6, 12, 17, 25, 30, 36], 40, [(4, pz [] 8), (9, pz [] 11)]⟩
theorem zcn.L : LkT P zcn.I Tryz.f29 fun C Q s h => zcn.cps C N (s 0) h Q := fun {C} hC Q s h hR =>
 eS hC (fun s h => zd (zcn.l5 C N Q (s 41)) [(.int .i64 0)] h) (e1 hR) (fun s h hR => eS hC (fun s h => B.al (s 41) (B.pv (V.zc6 3 (s 41)) fun v37 =>
  B.pv (V.zx v37) fun v38 =>
  B.pv (V.bin .leq v38 (.int .i64 4)) fun v39 =>
  Q v39 h)) (eS hC (fun s h => zd (zcn.l5 C N Q (s 41)) [(s 3)] h) (e1 hR) (fun s h hR => eK (eL hC [41] [3] (on1 (zcn.l5 C N Q)) hR (fun Y1 s h hR => eS hC (fun s h => zcn.k3 C N Q Y1 (s 3) (s 41) h) (e1 hR) (fun s h hR => eS hC (fun s h => B.pv (V.bin .add (s 3) (.int .i64 1)) fun v11 =>
  Y1 [v11] h) (eK (eS hC (fun s h => zd (zcn.l2 C N Q Y1 (s 3) (s 41)) [(.int .i64 0)] h) (e1 hR) (fun s h hR => eS hC (fun s h => zd (zcn.l2 C N Q Y1 (s 3) (s 41)) [(s 4)] h) (e1 hR) (fun s h hR => eK (eL hC [3, 41] [4] (on2 (zcn.l2 C N Q Y1)) hR (fun Y2 s h hR => e1 hR)))))) (fun s h hR => e1 hR)))))) (fun s h hR => e1 hR))
theorem zcn.imp : zcn.Imp (AC P) N := fun v0 h Q hR => eF mixed (fn := Tryz.f29) (fun hC => zcn.L hC (dn Q) (zck [v0]) h hR)
def zdc.I : Bx := ⟨[], [], 20, []⟩
theorem zdc.L : LkT P zdc.I Tryz.f30 fun C Q s h => zdc.cps C N (s 0) (s 1) h Q := fun {C} hC Q s h hR =>
 eS hC (fun s h => zd (zdc.l2 C N Q (s 0) (s 1)) [(.int .i64 0)] h) (e1 hR) (fun s h hR => eS hC (fun s h => Q (.int .i64 (-1)) h) (eS hC (fun s h => zd (zdc.l2 C N Q (s 0) (s 1)) [(s 5)] h) (e1 hR) (fun s h hR => eK (eL hC [0, 1] [5] (on2 (zdc.l2 C N Q)) hR (fun Y1 s h hR => e1 hR)))) (fun s h hR => e1 hR))
theorem zdc.imp : zdc.Imp (AC P) N := fun v0 v1 h Q hR => eF mixed (fn := Tryz.f30) (fun hC => zdc.L hC (dn Q) (zck [v0, v1]) h hR)
def zdg.I : Bx := ⟨[], [], 14, []⟩
theorem zdg.L : LkT P zdg.I Tryz.f31 fun C Q s h => zdg.cps C N (s 0) (s 1) h Q := fun {C} hC Q s h hR =>
 e1 hR
theorem zdg.imp : zdg.Imp (AC P) N := fun v0 v1 h Q hR => eF mixed (fn := Tryz.f31) (fun hC => zdg.L hC (dn Q) (zck [v0, v1]) h hR)
def zd0.I : Bx := ⟨[], [], 162, []⟩
theorem zd0.L : LkT P zd0.I Tryz.f32 fun C Q s h => zd0.cps C N (s 0) h Q := fun {C} hC Q s h hR =>
 e1 hR
theorem zd0.imp : zd0.Imp (AC P) N := fun v0 h Q hR => eF mixed (fn := Tryz.f32) (fun hC => zd0.L hC (dn Q) (zck [v0]) h hR)
def zdf.I : Bx := ⟨[], [], 25, []⟩
theorem zdf.L : LkT P zdf.I Tryz.f33 fun C Q s h => zdf.cps C N (s 0) h Q := fun {C} hC Q s h hR =>
 eS hC (fun s h => zdf.k3 C N Q (s 0) h) (e1 hR) (fun s h hR => eS hC (fun s h => B.appW h 2 24 (s 3) (s 0) fun v11 h =>
  zd (zqq.l4 C 2 24 (N 108) [.str [], .int .i64 0] 1 Q (s 0)) [v11, (.int .i64 0)] h) (e1 hR) (fun s h hR => eS hC (fun s h => zd (zqq.l4 C 2 24 (N 108) [.str [], .int .i64 0] 1 Q (s 0)) [(s 3), (.int .i64 0)] h) (e1 hR) (fun s h hR => eS hC (fun s h => B.pv (V.zx (s 0)) fun v23 =>
  B.pv (V.zfj 2 (s 3) none (some v23)) fun v24 =>
  Q v24 h) (eS hC (fun s h => zd (zqq.l4 C 2 24 (N 108) [.str [], .int .i64 0] 1 Q (s 0)) [(s 3), (s 4)] h) (e1 hR) (fun s h hR => eK (eL hC [0] [3, 4] (on1 (zqq.l4 C 2 24 (N 108) [.str [], .int .i64 0] 1 Q)) hR (fun Y1 s h hR => e1 hR)))) (fun s h hR => e1 hR))))
theorem zdf.imp : zdf.Imp (AC P) N := fun v0 h Q hR => eF mixed (fn := Tryz.f33) (fun hC => zdf.L hC (dn Q) (zck [v0]) h hR)
def zde.I : Bx := ⟨[], [], 25, []⟩
theorem zde.L : LkT P zde.I Tryz.f34 fun C Q s h => zde.cps C N (s 0) h Q := fun {C} hC Q s h hR =>
 eS hC (fun s h => zde.k3 C N Q (s 0) h) (e1 hR) (fun s h hR => eS hC (fun s h => B.appW h 1 16 (s 3) (s 0) fun v11 h =>
  zd (zpf.l4 C 16 (N 106) (.str []) 1 Q (s 0)) [v11, (.int .i64 0)] h) (e1 hR) (fun s h hR => eS hC (fun s h => zd (zpf.l4 C 16 (N 106) (.str []) 1 Q (s 0)) [(s 3), (.int .i64 0)] h) (e1 hR) (fun s h hR => eS hC (fun s h => B.pv (V.zx (s 0)) fun v23 =>
  B.pv (V.zfj 1 (s 3) none (some v23)) fun v24 =>
  Q v24 h) (eS hC (fun s h => zd (zpf.l4 C 16 (N 106) (.str []) 1 Q (s 0)) [(s 3), (s 4)] h) (e1 hR) (fun s h hR => eK (eL hC [0] [3, 4] (on1 (zpf.l4 C 16 (N 106) (.str []) 1 Q)) hR (fun Y1 s h hR => e1 hR)))) (fun s h hR => e1 hR))))
theorem zde.imp : zde.Imp (AC P) N := fun v0 h Q hR => eF mixed (fn := Tryz.f34) (fun hC => zde.L hC (dn Q) (zck [v0]) h hR)
def zfc.I : Bx := ⟨[], [], 10, []⟩
theorem zfc.L : LkT P zfc.I Tryz.f35 fun C Q s h => zfc.cps C N (s 0) (s 1) h Q := fun {C} hC Q s h hR =>
 e1 hR
theorem zfc.imp : zfc.Imp (AC P) N := fun v0 v1 h Q hR => eF mixed (fn := Tryz.f35) (fun hC => zfc.L hC (dn Q) (zck [v0, v1]) h hR)
def zbv.I : Bx := ⟨[6, 9, 11], [26, 40, 59, 67], 91, [(6, pz [] 24)]⟩
theorem zbv.L : LkT P zbv.I Tryz.f36 fun C Q s h => zbv.cps C N (s 0) h Q := fun {C} hC Q s h hR =>
 eS hC (fun s h => zbv.k11 C N Q (s 0) h) (e1 hR) (fun s h hR => eS hC (fun s h => B.pv (V.zx (s 0)) fun v20 =>
  zd (zbv.l10 C N Q (s 0) (s 0) v20) [(.int .i64 0)] h) (e1 hR) (fun s h hR => eS hC (fun s h => B.call C (N 371) [(s 0)] h fun v52 h =>
  B.pv (V.zx (s 0)) fun v54 =>
  zd (zbv.l8 C N Q v52 (s 0) v54) [(.int .i64 0)] h) (eS hC (fun s h => zd (zbv.l10 C N Q (s 0) (s 19) (s 20)) [(s 21)] h) (e1 hR) (fun s h hR => eK (eL hC [0, 19, 20] [21] (on3 (zbv.l10 C N Q)) hR (fun Y4 s h hR => e1 hR)))) (fun s h hR => eS hC (fun s h => B.pv (V.zx (s 0)) fun v54 =>
  zd (zbv.l8 C N Q (s 7) (s 0) v54) [(.int .i64 0)] h) (e1 hR) (fun s h hR => eS hC (fun s h => B.call C (N 370) [(s 7)] h fun v76 h =>
  B.pv (V.ext 0 v76) fun v77 =>
  B.pv (V.ext 1 v76) fun v78 =>
  zbv.k3 C N Q (s 7) v77 v78 h) (eS hC (fun s h => zd (zbv.l8 C N Q (s 7) (s 53) (s 54)) [(s 55)] h) (e1 hR) (fun s h hR => eK (eL hC [7, 53, 54] [55] (on3 (zbv.l8 C N Q)) hR (fun Y2 s h hR => eS hC (fun s h => zbv.k7 C N Q Y2 (s 7) (s 53) (s 54) (s 55) (s 56) h) (e1 hR) (fun s h hR => eS hC (fun s h => zbv.k6 C N Q Y2 (s 7) (s 53) (s 54) (s 55) h) (e1 hR) (fun s h hR => eS hC (fun s h => B.pv (V.bin .add (s 55) (.int .i64 1)) fun v73 =>
  Y2 [v73] h) (eK (eS hC (fun s h => B.al (s 100) (B.pv (V.zc6 2 (s 100)) fun v60 =>
  B.pv (V.zx v60) fun v61 =>
  zd (zbv.l5 C N Q Y2 (s 7) (s 53) (s 54) (s 55) v60 v61) [(.int .i64 0)] h)) (e1 hR) (fun s h hR => eS hC (fun s h => zd (zbv.l5 C N Q Y2 (s 7) (s 53) (s 54) (s 55) (s 60) (s 61)) [(s 62)] h) (e1 hR) (fun s h hR => eK (eL hC [7, 53, 54, 55, 60, 61] [62] (on6 (zbv.l5 C N Q Y2)) hR (fun Y3 s h hR => e1 hR)))))) (fun s h hR => e1 hR))))))) (fun s h hR => eS hC (fun s h => zbv.k3 C N Q (s 7) (s 12) (s 13) h) (e1 hR) (fun s h hR => eS hC (fun s h => B.rangeMap h (s 12) fun v82 h =>
  zd (zbv.l2 C N Q (s 7) (s 12) v82) [] h) (e1 hR) (fun s h hR => eS hC (fun s h => Q (.tup [(s 7), (s 12), (.int .i64 0)]) h) (eS hC (fun s h => zd (zbv.l2 C N Q (s 7) (s 12) (s 82)) [] h) (e1 hR) (fun s h hR => eK (eL hC [7, 12, 82] [] (on3 (zbv.l2 C N Q)) hR (fun Y1 s h hR => e1 hR)))) (fun s h hR => e1 hR))))))))
theorem zbv.imp : zbv.Imp (AC P) N := fun v0 h Q hR => eF mixed (fn := Tryz.f36) (fun hC => zbv.L hC (dn Q) (zck [v0]) h hR)
def zbl.I : Bx := ⟨[], [], 36, []⟩
theorem zbl.L : LkT P zbl.I Tryz.f37 fun C Q s h => zbl.cps C N (s 0) h Q := fun {C} hC Q s h hR =>
 eS hC (fun s h => B.pv (V.zx (s 0)) fun v10 =>
  zd (zcz.l4 C (opsS 24 (.nils) 0) (N 376) Q (s 0) (s 0) v10) [(.int .i64 0), (.int .i64 0)] h) (e1 hR) (fun s h hR => eS hC (fun s h => B.pv (V.zx (s 0)) fun v10 =>
  zd (zcz.l4 C (opsS 24 (.nils) 0) (N 376) Q (s 0) (s 0) v10) [(s 3), (.int .i64 0)] h) (e1 hR) (fun s h hR => eS hC (fun s h => B.call C (N 376) [.nils, (s 3)] h fun v24 h =>
  B.pv (V.zx (s 0)) fun v26 =>
  zd (zcz.l2 C (opsS 24 (.nils) 0) (N 376) Q (s 0) v26) [v24, (.int .i64 0)] h) (eS hC (fun s h => zd (zcz.l4 C (opsS 24 (.nils) 0) (N 376) Q (s 0) (s 9) (s 10)) [(s 3), (s 11)] h) (e1 hR) (fun s h hR => eK (eL hC [0, 9, 10] [3, 11] (on3 (zcz.l4 C (opsS 24 (.nils) 0) (N 376) Q)) hR (fun Y2 s h hR => e1 hR)))) (fun s h hR => eS hC (fun s h => B.pv (V.zx (s 0)) fun v26 =>
  zd (zcz.l2 C (opsS 24 (.nils) 0) (N 376) Q (s 0) v26) [(s 6), (.int .i64 0)] h) (e1 hR) (fun s h hR => eS hC (fun s h => Q (s 6) h) (eS hC (fun s h => zd (zcz.l2 C (opsS 24 (.nils) 0) (N 376) Q (s 25) (s 26)) [(s 6), (s 27)] h) (e1 hR) (fun s h hR => eK (eL hC [25, 26] [6, 27] (on2 (zcz.l2 C (opsS 24 (.nils) 0) (N 376) Q)) hR (fun Y1 s h hR => e1 hR)))) (fun s h hR => e1 hR)))))
theorem zbl.imp : zbl.Imp (AC P) N := fun v0 h Q hR => eF mixed (fn := Tryz.f37) (fun hC => zbl.L hC (dn Q) (zck [v0]) h hR)
def zcm.I : Bx := ⟨[], [], 134, [(17, pz [] 15)]⟩
theorem zcm.L : LkT P zcm.I Tryz.f38 fun C Q s h => zcm.cps C N (s 0) (s 1) (s 2) (s 3) h Q := fun {C} hC Q s h hR =>
 eS hC (fun s h => zd (zr.l8 C (opsS 16 (.str []) 0) (N 377) (N 378) (N 379) (N 375) (N 380) (N 381) (N 382) (N 383) (N 384) (N 385) Q (s 0)) [(s 1), (s 2), (s 3), (s 8), (.bool true)] h) (e1 hR) (fun s h hR => eS hC (fun s h => zd (zr.l8 C (opsS 16 (.str []) 0) (N 377) (N 378) (N 379) (N 375) (N 380) (N 381) (N 382) (N 383) (N 384) (N 385) Q (s 0)) [(s 1), (s 2), (s 3), (s 8), (s 9)] h) (e1 hR) (fun s h hR => eK (eL hC [0] [1, 2, 3, 8, 9] (on1 (zr.l8 C (opsS 16 (.str []) 0) (N 377) (N 378) (N 379) (N 375) (N 380) (N 381) (N 382) (N 383) (N 384) (N 385) Q)) hR (fun Y1 s h hR => eK (eS hC (fun s h => zr.k7 C (opsS 16 (.str []) 0) (N 377) (N 378) (N 379) (N 375) (N 380) (N 381) (N 382) (N 383) (N 384) (N 385) Q Y1 (s 0) (s 1) (s 2) (s 3) (s 8) (s 9) (s 10) h) (e1 hR) (fun s h hR => eS hC (fun s h => zr.k6 C (opsS 16 (.str []) 0) (N 377) (N 378) (N 379) (N 375) (N 380) (N 381) (N 382) (N 383) (N 384) (N 385) Q Y1 (s 0) (s 1) (s 2) (s 3) (s 8) (s 9) (s 10) h) (e1 hR) (fun s h hR => eS hC (fun s h => zr.k5 C (opsS 16 (.str []) 0) (N 377) (N 378) (N 379) (N 375) (N 380) (N 381) (N 382) (N 383) (N 384) (N 385) Q Y1 (s 0) (s 1) (s 2) (s 3) (s 8) (s 9) (s 10) h) (e1 hR) (fun s h hR => eS hC (fun s h => zr.k4 C (opsS 16 (.str []) 0) (N 377) (N 378) (N 379) (N 375) (N 380) (N 381) (N 382) (N 383) (N 384) (N 385) Q Y1 (s 0) (s 1) (s 2) (s 3) (s 8) (s 9) (s 10) h) (e1 hR) (fun s h hR => eS hC (fun s h => zr.k3 C (opsS 16 (.str []) 0) (N 377) (N 378) (N 379) (N 375) (N 380) (N 381) (N 382) (N 383) (N 384) (N 385) Q Y1 (s 0) (s 1) (s 2) (s 3) (s 8) (s 9) (s 10) (s 11) (s 12) h) (e1 hR) (fun s h hR => eS hC (fun s h => zr.k2 C (opsS 16 (.str []) 0) (N 377) (N 378) (N 379) (N 375) (N 380) (N 381) (N 382) (N 383) (N 384) (N 385) Q Y1 (s 0) (s 1) (s 2) (s 3) (s 8) (s 9) (s 10) (s 11) (s 12) h) (e1 hR) (fun s h hR => eS hC (fun s h => zr.k1 C (opsS 16 (.str []) 0) (N 377) (N 378) (N 379) (N 375) (N 380) (N 381) (N 382) (N 383) (N 384) (N 385) Q Y1 (s 0) (s 1) (s 2) (s 3) (s 8) (s 9) (s 10) (s 11) h) (e1 hR) (fun s h hR => e1 hR))))))))))))
theorem zcm.imp : zcm.Imp (AC P) N := fun v0 v1 v2 v3 h Q hR => eF mixed (fn := Tryz.f38) (fun hC => zcm.L hC (dn Q) (zck [v0, v1, v2, v3]) h hR)
def zdr.I : Bx := ⟨[], [], 8, []⟩
theorem zdr.L : LkT P zdr.I Tryz.f39 fun C Q s h => zdr.cps C N (s 0) h Q := fun {C} hC Q s h hR =>
 e1 hR
theorem zdr.imp : zdr.Imp (AC P) N := fun v0 h Q hR => eF mixed (fn := Tryz.f39) (fun hC => zdr.L hC (dn Q) (zck [v0]) h hR)
def zc2.I : Bx := ⟨[], [], 58, [(7, pz [(30, [25])] 35)]⟩
theorem zc2.L : LkT P zc2.I Tryz.f40 fun C Q s h => zc2.cps C N (s 0) (s 1) h Q := fun {C} hC Q s h hR =>
 eS hC (fun s h => zc2.k4 C N Q (s 0) (s 1) h) (e1 hR) (fun s h hR => eS hC (fun s h => zc2.k3 C N Q (s 0) (s 1) h) (e1 hR) (fun s h hR => eS hC (fun s h => zd (zrf.l4 C 2 (N 108) [.s, .i .i64] 1 Q (s 1) (s 5)) [(.int .i64 0)] h) (e1 hR) (fun s h hR => eS hC (fun s h => Q (.bool true) h) (eS hC (fun s h => zd (zrf.l4 C 2 (N 108) [.s, .i .i64] 1 Q (s 1) (s 5)) [(s 6)] h) (e1 hR) (fun s h hR => eK (eL hC [1, 5] [6] (on2 (zrf.l4 C 2 (N 108) [.s, .i .i64] 1 Q)) hR (fun Y1 s h hR => e1 hR)))) (fun s h hR => e1 hR))))
theorem zc2.imp : zc2.Imp (AC P) N := fun v0 v1 h Q hR => eF mixed (fn := Tryz.f40) (fun hC => zc2.L hC (dn Q) (zck [v0, v1]) h hR)
def zc1.I : Bx := ⟨[], [], 58, [(7, pz [(30, [25])] 35)]⟩
theorem zc1.L : LkT P zc1.I Tryz.f41 fun C Q s h => zc1.cps C N (s 0) (s 1) h Q := fun {C} hC Q s h hR =>
 eS hC (fun s h => zc1.k4 C N Q (s 0) (s 1) h) (e1 hR) (fun s h hR => eS hC (fun s h => zc1.k3 C N Q (s 0) (s 1) h) (e1 hR) (fun s h hR => eS hC (fun s h => zd (zqu.l4 C (N 106) 1 Q (s 1) (s 5)) [(.int .i64 0)] h) (e1 hR) (fun s h hR => eS hC (fun s h => Q (.bool true) h) (eS hC (fun s h => zd (zqu.l4 C (N 106) 1 Q (s 1) (s 5)) [(s 6)] h) (e1 hR) (fun s h hR => eK (eL hC [1, 5] [6] (on2 (zqu.l4 C (N 106) 1 Q)) hR (fun Y1 s h hR => e1 hR)))) (fun s h hR => e1 hR))))
theorem zc1.imp : zc1.Imp (AC P) N := fun v0 v1 h Q hR => eF mixed (fn := Tryz.f41) (fun hC => zc1.L hC (dn Q) (zck [v0, v1]) h hR)
def zdd.I : Bx := ⟨[], [], 26, [(6, pz [] 9)]⟩
theorem zdd.L : LkT P zdd.I Tryz.f42 fun C Q s h => zdd.cps C N (s 0) (s 1) h Q := fun {C} hC Q s h hR =>
 eS hC (fun s h => zdd.k3 C N Q (s 0) (s 1) h) (e1 hR) (fun s h hR => eS hC (fun s h => zd (zrb.l4 2 [.s, .i .i64] Q (s 0) (s 1)) [(.int .i64 0)] h) (e1 hR) (fun s h hR => eS hC (fun s h => Q (.bool true) h) (eS hC (fun s h => zd (zrb.l4 2 [.s, .i .i64] Q (s 0) (s 1)) [(s 5)] h) (e1 hR) (fun s h hR => eK (eL hC [0, 1] [5] (on2 (zrb.l4 2 [.s, .i .i64] Q)) hR (fun Y1 s h hR => e1 hR)))) (fun s h hR => e1 hR)))
theorem zdd.imp : zdd.Imp (AC P) N := fun v0 v1 h Q hR => eF mixed (fn := Tryz.f42) (fun hC => zdd.L hC (dn Q) (zck [v0, v1]) h hR)
def zdm.I : Bx := ⟨[], [], 20, []⟩
theorem zdm.L : LkT P zdm.I Tryz.f43 fun C Q s h => zdm.cps C N (s 0) h Q := fun {C} hC Q s h hR =>
 eS hC (fun s h => zd (zmn.l3 C 2 (N 108) (fun h p v K => B.stn h p 2 v K) 2 Q (s 2)) [(.int .i64 0)] h) (e1 hR) (fun s h hR => eS hC (fun s h => zd (zmn.l3 C 2 (N 108) (fun h p v K => B.stn h p 2 v K) 2 Q (s 2)) [(s 3)] h) (e1 hR) (fun s h hR => eK (eL hC [2] [3] (fun kv lv h Y1 => match kv with | [v2] => zmn.l3 C 2 (N 108) (fun h p v K => B.stn h p 2 v K) 2 Q v2 lv h Y1 | _ => False) hR (fun Y1 s h hR => e1 hR))))
theorem zdm.imp : zdm.Imp (AC P) N := fun v0 h Q hR => eF mixed (fn := Tryz.f43) (fun hC => zdm.L hC (dn Q) (zck [v0]) h hR)
def zdl.I : Bx := ⟨[], [], 20, []⟩
theorem zdl.L : LkT P zdl.I Tryz.f44 fun C Q s h => zdl.cps C N (s 0) h Q := fun {C} hC Q s h hR =>
 eS hC (fun s h => zd (zmn.l3 C 1 (N 106) (fun h p v K => B.st h p v K) 2 Q (s 2)) [(.int .i64 0)] h) (e1 hR) (fun s h hR => eS hC (fun s h => zd (zmn.l3 C 1 (N 106) (fun h p v K => B.st h p v K) 2 Q (s 2)) [(s 3)] h) (e1 hR) (fun s h hR => eK (eL hC [2] [3] (fun kv lv h Y1 => match kv with | [v2] => zmn.l3 C 1 (N 106) (fun h p v K => B.st h p v K) 2 Q v2 lv h Y1 | _ => False) hR (fun Y1 s h hR => e1 hR))))
theorem zdl.imp : zdl.Imp (AC P) N := fun v0 h Q hR => eF mixed (fn := Tryz.f44) (fun hC => zdl.L hC (dn Q) (zck [v0]) h hR)
def zc8.I : Bx := ⟨[], [], 56, []⟩
theorem zc8.L : LkT P zc8.I Tryz.f45 fun C Q s h => zc8.cps C N (s 0) h Q := fun {C} hC Q s h hR =>
 eS hC (fun s h => zc8.k3 C N Q (s 0) h) (e1 hR) (fun s h hR => eS hC (fun s h => zd (zc8.l2 C N Q (s 0)) [(.int .i64 0)] h) (e1 hR) (fun s h hR => eS hC (fun s h => Q (.bool true) h) (eS hC (fun s h => zd (zc8.l2 C N Q (s 0)) [(s 3)] h) (e1 hR) (fun s h hR => eK (eL hC [0] [3] (on1 (zc8.l2 C N Q)) hR (fun Y1 s h hR => e1 hR)))) (fun s h hR => e1 hR)))
theorem zc8.imp : zc8.Imp (AC P) N := fun v0 h Q hR => eF mixed (fn := Tryz.f45) (fun hC => zc8.L hC (dn Q) (zck [v0]) h hR)
def zcb.I : Bx := ⟨[1], [5, 9, 13, 17, 21, 27, 33, 41, 54, 60], 67, [(13, pz [] 13)]⟩
theorem zcb.L : LkT P zcb.I Tryz.f46 fun C Q s h => zcb.cps C N (s 0) h Q := fun {C} hC Q s h hR =>
 eS hC (fun s h => zcb.k7 C N Q (s 68) h) (e1 hR) (fun s h hR => eS hC (fun s h => zcb.k6 C N Q (s 68) h) (e1 hR) (fun s h hR => eS hC (fun s h => zd (zcb.l5 C N Q (s 68)) [(.int .i64 0)] h) (e1 hR) (fun s h hR => eS hC (fun s h => Q (.bool true) h) (eS hC (fun s h => zd (zcb.l5 C N Q (s 68)) [(s 3)] h) (e1 hR) (fun s h hR => eK (eL hC [68] [3] (on1 (zcb.l5 C N Q)) hR (fun Y1 s h hR => eS hC (fun s h => zcb.k3 C N Q Y1 (s 3) (s 68) h) (e1 hR) (fun s h hR => eS hC (fun s h => B.pv (V.bin .add (s 3) (.int .i64 1)) fun v32 =>
  Y1 [v32] h) (eK (eS hC (fun s h => zd (zcb.l2 C N Q Y1 (s 3) (s 68)) [(.int .i64 0)] h) (e1 hR) (fun s h hR => eS hC (fun s h => zd (zcb.l2 C N Q Y1 (s 3) (s 68)) [(s 4)] h) (e1 hR) (fun s h hR => eK (eL hC [3, 68] [4] (on2 (zcb.l2 C N Q Y1)) hR (fun Y2 s h hR => e1 hR)))))) (fun s h hR => e1 hR)))))) (fun s h hR => e1 hR))))
theorem zcb.imp : zcb.Imp (AC P) N := fun v0 h Q hR => eF mixed (fn := Tryz.f46) (fun hC => zcb.L hC (dn Q) (zck [v0]) h hR)
def zcg.I : Bx := ⟨[], [], 59, []⟩
theorem zcg.L : LkT P zcg.I Tryz.f47 fun C Q s h => zcg.cps C N (s 0) h Q := fun {C} hC Q s h hR =>
 eS hC (fun s h => B.pv (V.zx (s 0)) fun v10 =>
  0 < 1 ∧ B.mks h 8 (some [.int .i64 0]) v10 v10 fun v11 h =>
  zd (zcg.l5 C N Q (s 0) v11) [(.int .i64 0)] h) (e1 hR) (fun s h hR => eS hC (fun s h => zd (zcg.l5 C N Q (s 0) (s 3)) [(.int .i64 0)] h) (e1 hR) (fun s h hR => eS hC (fun s h => Q (s 3) h) (eS hC (fun s h => zd (zcg.l5 C N Q (s 0) (s 3)) [(s 4)] h) (e1 hR) (fun s h hR => eK (eL hC [0, 3] [4] (on2 (zcg.l5 C N Q)) hR (fun Y1 s h hR => eS hC (fun s h => zd (zcg.l4 C N Q Y1 (s 0) (s 3) (s 4)) [(.int .i64 0)] h) (e1 hR) (fun s h hR => eS hC (fun s h => B.pv (V.bin .add (s 4) (.int .i64 1)) fun v17 =>
  Y1 [v17] h) (eK (eS hC (fun s h => zd (zcg.l4 C N Q Y1 (s 0) (s 3) (s 4)) [(s 5)] h) (e1 hR) (fun s h hR => eK (eL hC [0, 3, 4] [5] (on3 (zcg.l4 C N Q Y1)) hR (fun Y2 s h hR => eS hC (fun s h => zd (zcg.l2 C N Q Y1 Y2 (s 0) (s 3) (s 4) (s 5)) [(.int .i64 1), (.int .i64 0)] h) (e1 hR) (fun s h hR => eS hC (fun s h => B.pv (V.bin .add (s 5) (.int .i64 1)) fun v23 =>
  Y2 [v23] h) (eK (eS hC (fun s h => zd (zcg.l2 C N Q Y1 Y2 (s 0) (s 3) (s 4) (s 5)) [(s 6), (.int .i64 0)] h) (e1 hR) (fun s h hR => eS hC (fun s h => B.pv (V.idxS 1 (s 3) (s 5)) fun v57 =>
  B.st h v57 (s 6) fun h =>
  B.pv (V.bin .add (s 5) (.int .i64 1)) fun v23 =>
  Y2 [v23] h) (eS hC (fun s h => zd (zcg.l2 C N Q Y1 Y2 (s 0) (s 3) (s 4) (s 5)) [(s 6), (s 7)] h) (e1 hR) (fun s h hR => eK (eL hC [0, 3, 4, 5] [6, 7] (on4 (zcg.l2 C N Q Y1 Y2)) hR (fun Y3 s h hR => e1 hR)))) (fun s h hR => e1 hR)))) (fun s h hR => e1 hR))))))) (fun s h hR => e1 hR)))))) (fun s h hR => e1 hR)))
theorem zcg.imp : zcg.Imp (AC P) N := fun v0 h Q hR => eF mixed (fn := Tryz.f47) (fun hC => zcg.L hC (dn Q) (zck [v0]) h hR)
def zj.I : Bx := ⟨[], [], 200, [(7, pz [(7, [3])] 11), (24, pz [(9, [3, 6]), (31, [25, 28])] 37), (41, pz [(9, [3, 6]), (23, [17, 20])] 28)]⟩
theorem zj.L : LkT P zj.I Tryz.f48 fun C Q s h => zj.cps C N (s 0) h Q := fun {C} hC Q s h hR =>
 eS hC (fun s h => zd (zj.l21 C N Q (s 0)) [(.int .i64 0)] h) (e1 hR) (fun s h hR => eS hC (fun s h => B.pv (V.zx (s 0)) fun v42 =>
  0 < 1 ∧ B.mks h 24 (some [.nils]) v42 v42 fun v43 h =>
  zd (zj.l17 C N Q (s 0) v43) [(.int .i64 0)] h) (eS hC (fun s h => zd (zj.l21 C N Q (s 0)) [(s 3)] h) (e1 hR) (fun s h hR => eK (eL hC [0] [3] (on1 (zj.l21 C N Q)) hR (fun Y9 s h hR => eS hC (fun s h => zd (zj.l19 C N Q Y9 (s 0) (s 3)) [(.int .i64 0)] h) (e1 hR) (fun s h hR => eS hC (fun s h => B.pv (V.bin .add (s 3) (.int .i64 1)) fun v21 =>
  Y9 [v21] h) (eK (eS hC (fun s h => zd (zj.l19 C N Q Y9 (s 0) (s 3)) [(s 4)] h) (e1 hR) (fun s h hR => eK (eL hC [0, 3] [4] (on2 (zj.l19 C N Q Y9)) hR (fun Y10 s h hR => e1 hR))))) (fun s h hR => e1 hR)))))) (fun s h hR => eS hC (fun s h => zd (zj.l17 C N Q (s 0) (s 5)) [(.int .i64 0)] h) (e1 hR) (fun s h hR => eS hC (fun s h => zd (zj.l13 C N Q (s 0) (s 5)) [(.int .i64 0)] h) (eS hC (fun s h => zd (zj.l17 C N Q (s 0) (s 5)) [(s 6)] h) (e1 hR) (fun s h hR => eK (eL hC [0, 5] [6] (on2 (zj.l17 C N Q)) hR (fun Y7 s h hR => eS hC (fun s h => B.pv (V.idxS 1 (s 0) (s 6)) fun v52 =>
  B.ld h v52 fun v53 =>
  zd (zj.l15 C N Q Y7 (s 0) (s 5) (s 6)) [v53, (.int .i64 0)] h) (e1 hR) (fun s h hR => eS hC (fun s h => B.pv (V.bin .add (s 6) (.int .i64 1)) fun v49 =>
  Y7 [v49] h) (eK (eS hC (fun s h => zd (zj.l15 C N Q Y7 (s 0) (s 5) (s 6)) [(s 7), (.int .i64 0)] h) (e1 hR) (fun s h hR => eS hC (fun s h => B.pv (V.idxS 1 (s 5) (s 6)) fun v74 =>
  B.st h v74 (s 7) fun h =>
  B.pv (V.bin .add (s 6) (.int .i64 1)) fun v49 =>
  Y7 [v49] h) (eS hC (fun s h => zd (zj.l15 C N Q Y7 (s 0) (s 5) (s 6)) [(s 7), (s 8)] h) (e1 hR) (fun s h hR => eK (eL hC [0, 5, 6] [7, 8] (on3 (zj.l15 C N Q Y7)) hR (fun Y8 s h hR => e1 hR)))) (fun s h hR => e1 hR)))) (fun s h hR => e1 hR)))))) (fun s h hR => eS hC (fun s h => zd (zj.l9 C N Q (s 0) (s 5)) [(.int .i64 0)] h) (eS hC (fun s h => zd (zj.l13 C N Q (s 0) (s 5)) [(s 9)] h) (e1 hR) (fun s h hR => eK (eL hC [0, 5] [9] (on2 (zj.l13 C N Q)) hR (fun Y5 s h hR => eS hC (fun s h => zd (zj.l11 C N Q Y5 (s 0) (s 5) (s 9)) [(.int .i64 0)] h) (e1 hR) (fun s h hR => eS hC (fun s h => B.pv (V.bin .add (s 9) (.int .i64 1)) fun v80 =>
  Y5 [v80] h) (eK (eS hC (fun s h => zd (zj.l11 C N Q Y5 (s 0) (s 5) (s 9)) [(s 10)] h) (e1 hR) (fun s h hR => eK (eL hC [0, 5, 9] [10] (on3 (zj.l11 C N Q Y5)) hR (fun Y6 s h hR => e1 hR))))) (fun s h hR => e1 hR)))))) (fun s h hR => eS hC (fun s h => zd (zj.l4 C N Q (s 0) (s 5)) [(.int .i64 0)] h) (eS hC (fun s h => zd (zj.l9 C N Q (s 0) (s 5)) [(s 11)] h) (e1 hR) (fun s h hR => eK (eL hC [0, 5] [11] (on2 (zj.l9 C N Q)) hR (fun Y3 s h hR => eS hC (fun s h => 0 < 1 ∧ B.mks h 8 (some [.int .u64 0]) (.int .i64 64) (.int .i64 64) fun v133 h =>
  zd (zj.l7 C N Q Y3 (s 0) (s 5) (s 11) v133) [(.int .i64 0)] h) (e1 hR) (fun s h hR => eS hC (fun s h => B.pv (V.bin .add (s 11) (.int .i64 1)) fun v132 =>
  Y3 [v132] h) (eK (eS hC (fun s h => zd (zj.l7 C N Q Y3 (s 0) (s 5) (s 11) (s 12)) [(.int .i64 0)] h) (e1 hR) (fun s h hR => eS hC (fun s h => zj.k5 C N Q Y3 (s 0) (s 5) (s 11) (s 12) h) (eS hC (fun s h => zd (zj.l7 C N Q Y3 (s 0) (s 5) (s 11) (s 12)) [(s 13)] h) (e1 hR) (fun s h hR => eK (eL hC [0, 5, 11, 12] [13] (on4 (zj.l7 C N Q Y3)) hR (fun Y4 s h hR => e1 hR)))) (fun s h hR => e1 hR)))) (fun s h hR => e1 hR)))))) (fun s h hR => eS hC (fun s h => Q (.bool true) h) (eS hC (fun s h => zd (zj.l4 C N Q (s 0) (s 5)) [(s 14)] h) (e1 hR) (fun s h hR => eK (eL hC [0, 5] [14] (on2 (zj.l4 C N Q)) hR (fun Y1 s h hR => eS hC (fun s h => zd (zj.l2 C N Q Y1 (s 0) (s 5) (s 14)) [(.int .i64 0)] h) (e1 hR) (fun s h hR => eS hC (fun s h => B.pv (V.bin .add (s 14) (.int .i64 1)) fun v162 =>
  Y1 [v162] h) (eK (eS hC (fun s h => zd (zj.l2 C N Q Y1 (s 0) (s 5) (s 14)) [(s 15)] h) (e1 hR) (fun s h hR => eK (eL hC [0, 5, 14] [15] (on3 (zj.l2 C N Q Y1)) hR (fun Y2 s h hR => e1 hR))))) (fun s h hR => e1 hR)))))) (fun s h hR => e1 hR)))))))
theorem zj.imp : zj.Imp (AC P) N := fun v0 h Q hR => eF mixed (fn := Tryz.f48) (fun hC => zj.L hC (dn Q) (zck [v0]) h hR)
def zel.I : Bx := ⟨[], [], 193, [(7, pz [(7, [3])] 10), (24, pz [(9, [3, 6]), (30, [24, 27])] 35), (41, pz [(9, [3, 6]), (22, [16, 19])] 26)]⟩
theorem zel.L : LkT P zel.I Tryz.f49 fun C Q s h => zel.cps C N (s 0) h Q := fun {C} hC Q s h hR =>
 eS hC (fun s h => zd (ze.l103 (opsS 8 (.int .i64 0) (N 20)) C Q (s 0)) [(.int .i64 0)] h) (e1 hR) (fun s h hR => eS hC (fun s h => B.pv (V.zx (s 0)) fun v41 =>
  0 < 1 ∧ B.mks h 24 (some [.nils]) v41 v41 fun v42 h =>
  zd (ze.l82 (opsS 8 (.int .i64 0) (N 20)) C Q (s 0) v42) [(.int .i64 0)] h) (eS hC (fun s h => zd (ze.l103 (opsS 8 (.int .i64 0) (N 20)) C Q (s 0)) [(s 3)] h) (e1 hR) (fun s h hR => eK (eL hC [0] [3] (on1 (ze.l103 (opsS 8 (.int .i64 0) (N 20)) C Q)) hR (fun Y9 s h hR => eS hC (fun s h => zd (ze.l93 (opsS 8 (.int .i64 0) (N 20)) C Q Y9 (s 0) (s 3)) [(.int .i64 0)] h) (e1 hR) (fun s h hR => eS hC (fun s h => B.pv (V.bin .add (s 3) (.int .i64 1)) fun v21 =>
  Y9 [v21] h) (eK (eS hC (fun s h => zd (ze.l93 (opsS 8 (.int .i64 0) (N 20)) C Q Y9 (s 0) (s 3)) [(s 4)] h) (e1 hR) (fun s h hR => eK (eL hC [0, 3] [4] (on2 (ze.l93 (opsS 8 (.int .i64 0) (N 20)) C Q Y9)) hR (fun Y10 s h hR => e1 hR))))) (fun s h hR => e1 hR)))))) (fun s h hR => eS hC (fun s h => zd (ze.l82 (opsS 8 (.int .i64 0) (N 20)) C Q (s 0) (s 5)) [(.int .i64 0)] h) (e1 hR) (fun s h hR => eS hC (fun s h => zd (ze.l59 (opsS 8 (.int .i64 0) (N 20)) C Q (s 0) (s 5)) [(.int .i64 0)] h) (eS hC (fun s h => zd (ze.l82 (opsS 8 (.int .i64 0) (N 20)) C Q (s 0) (s 5)) [(s 6)] h) (e1 hR) (fun s h hR => eK (eL hC [0, 5] [6] (on2 (ze.l82 (opsS 8 (.int .i64 0) (N 20)) C Q)) hR (fun Y7 s h hR => eS hC (fun s h => B.pv (V.idxS 1 (s 0) (s 6)) fun v51 =>
  B.ld h v51 fun v52 =>
  zd (ze.l69 (opsS 8 (.int .i64 0) (N 20)) C Q Y7 (s 0) (s 5) (s 6)) [v52, (.int .i64 0)] h) (e1 hR) (fun s h hR => eS hC (fun s h => B.pv (V.bin .add (s 6) (.int .i64 1)) fun v48 =>
  Y7 [v48] h) (eK (eS hC (fun s h => zd (ze.l69 (opsS 8 (.int .i64 0) (N 20)) C Q Y7 (s 0) (s 5) (s 6)) [(s 7), (.int .i64 0)] h) (e1 hR) (fun s h hR => eS hC (fun s h => B.pv (V.idxS 1 (s 5) (s 6)) fun v72 =>
  B.st h v72 (s 7) fun h =>
  B.pv (V.bin .add (s 6) (.int .i64 1)) fun v48 =>
  Y7 [v48] h) (eS hC (fun s h => zd (ze.l69 (opsS 8 (.int .i64 0) (N 20)) C Q Y7 (s 0) (s 5) (s 6)) [(s 7), (s 8)] h) (e1 hR) (fun s h hR => eK (eL hC [0, 5, 6] [7, 8] (on3 (ze.l69 (opsS 8 (.int .i64 0) (N 20)) C Q Y7)) hR (fun Y8 s h hR => e1 hR)))) (fun s h hR => e1 hR)))) (fun s h hR => e1 hR)))))) (fun s h hR => eS hC (fun s h => zd (ze.l40 (opsS 8 (.int .i64 0) (N 20)) C Q (s 0) (s 5)) [(.int .i64 0)] h) (eS hC (fun s h => zd (ze.l59 (opsS 8 (.int .i64 0) (N 20)) C Q (s 0) (s 5)) [(s 9)] h) (e1 hR) (fun s h hR => eK (eL hC [0, 5] [9] (on2 (ze.l59 (opsS 8 (.int .i64 0) (N 20)) C Q)) hR (fun Y5 s h hR => eS hC (fun s h => zd (ze.l49 (opsS 8 (.int .i64 0) (N 20)) C Q Y5 (s 0) (s 5) (s 9)) [(.int .i64 0)] h) (e1 hR) (fun s h hR => eS hC (fun s h => B.pv (V.bin .add (s 9) (.int .i64 1)) fun v78 =>
  Y5 [v78] h) (eK (eS hC (fun s h => zd (ze.l49 (opsS 8 (.int .i64 0) (N 20)) C Q Y5 (s 0) (s 5) (s 9)) [(s 10)] h) (e1 hR) (fun s h hR => eK (eL hC [0, 5, 9] [10] (on3 (ze.l49 (opsS 8 (.int .i64 0) (N 20)) C Q Y5)) hR (fun Y6 s h hR => e1 hR))))) (fun s h hR => e1 hR)))))) (fun s h hR => eS hC (fun s h => zd (ze.l15 (opsS 8 (.int .i64 0) (N 20)) C Q (s 0) (s 5)) [(.int .i64 0)] h) (eS hC (fun s h => zd (ze.l40 (opsS 8 (.int .i64 0) (N 20)) C Q (s 0) (s 5)) [(s 11)] h) (e1 hR) (fun s h hR => eK (eL hC [0, 5] [11] (on2 (ze.l40 (opsS 8 (.int .i64 0) (N 20)) C Q)) hR (fun Y3 s h hR => eS hC (fun s h => 0 < 1 ∧ B.mks h 8 (some [.int .i64 0]) (.int .i64 64) (.int .i64 64) fun v129 h =>
  zd (ze.l26 (opsS 8 (.int .i64 0) (N 20)) C Q Y3 (s 0) (s 5) (s 11) v129) [(.int .i64 0)] h) (e1 hR) (fun s h hR => eS hC (fun s h => B.pv (V.bin .add (s 11) (.int .i64 1)) fun v128 =>
  Y3 [v128] h) (eK (eS hC (fun s h => zd (ze.l26 (opsS 8 (.int .i64 0) (N 20)) C Q Y3 (s 0) (s 5) (s 11) (s 12)) [(.int .i64 0)] h) (e1 hR) (fun s h hR => eS hC (fun s h => ze.k22 (opsS 8 (.int .i64 0) (N 20)) C Q Y3 (s 0) (s 5) (s 11) (s 12) h) (eS hC (fun s h => zd (ze.l26 (opsS 8 (.int .i64 0) (N 20)) C Q Y3 (s 0) (s 5) (s 11) (s 12)) [(s 13)] h) (e1 hR) (fun s h hR => eK (eL hC [0, 5, 11, 12] [13] (on4 (ze.l26 (opsS 8 (.int .i64 0) (N 20)) C Q Y3)) hR (fun Y4 s h hR => e1 hR)))) (fun s h hR => e1 hR)))) (fun s h hR => e1 hR)))))) (fun s h hR => eS hC (fun s h => Q (.bool true) h) (eS hC (fun s h => zd (ze.l15 (opsS 8 (.int .i64 0) (N 20)) C Q (s 0) (s 5)) [(s 14)] h) (e1 hR) (fun s h hR => eK (eL hC [0, 5] [14] (on2 (ze.l15 (opsS 8 (.int .i64 0) (N 20)) C Q)) hR (fun Y1 s h hR => eS hC (fun s h => zd (ze.l5 (opsS 8 (.int .i64 0) (N 20)) C Q Y1 (s 0) (s 5) (s 14)) [(.int .i64 0)] h) (e1 hR) (fun s h hR => eS hC (fun s h => B.pv (V.bin .add (s 14) (.int .i64 1)) fun v157 =>
  Y1 [v157] h) (eK (eS hC (fun s h => zd (ze.l5 (opsS 8 (.int .i64 0) (N 20)) C Q Y1 (s 0) (s 5) (s 14)) [(s 15)] h) (e1 hR) (fun s h hR => eK (eL hC [0, 5, 14] [15] (on3 (ze.l5 (opsS 8 (.int .i64 0) (N 20)) C Q Y1)) hR (fun Y2 s h hR => e1 hR))))) (fun s h hR => e1 hR)))))) (fun s h hR => e1 hR)))))))
theorem zel.imp : zel.Imp (AC P) N := fun v0 h Q hR => eF mixed (fn := Tryz.f49) (fun hC => zel.L hC (dn Q) (zck [v0]) h hR)
def zk.I : Bx := ⟨[], [], 193, [(7, pz [(7, [3])] 10), (24, pz [(9, [3, 6]), (30, [24, 27])] 35), (41, pz [(9, [3, 6]), (22, [16, 19])] 26)]⟩
theorem zk.L : LkT P zk.I Tryz.f50 fun C Q s h => zk.cps C N (s 0) h Q := fun {C} hC Q s h hR =>
 eS hC (fun s h => zd (zk.l21 C N Q (s 0)) [(.int .i64 0)] h) (e1 hR) (fun s h hR => eS hC (fun s h => B.pv (V.zx (s 0)) fun v41 =>
  0 < 1 ∧ B.mks h 24 (some [.nils]) v41 v41 fun v42 h =>
  zd (zk.l17 C N Q (s 0) v42) [(.int .i64 0)] h) (eS hC (fun s h => zd (zk.l21 C N Q (s 0)) [(s 3)] h) (e1 hR) (fun s h hR => eK (eL hC [0] [3] (on1 (zk.l21 C N Q)) hR (fun Y9 s h hR => eS hC (fun s h => zd (zk.l19 C N Q Y9 (s 0) (s 3)) [(.int .i64 0)] h) (e1 hR) (fun s h hR => eS hC (fun s h => B.pv (V.bin .add (s 3) (.int .i64 1)) fun v21 =>
  Y9 [v21] h) (eK (eS hC (fun s h => zd (zk.l19 C N Q Y9 (s 0) (s 3)) [(s 4)] h) (e1 hR) (fun s h hR => eK (eL hC [0, 3] [4] (on2 (zk.l19 C N Q Y9)) hR (fun Y10 s h hR => e1 hR))))) (fun s h hR => e1 hR)))))) (fun s h hR => eS hC (fun s h => zd (zk.l17 C N Q (s 0) (s 5)) [(.int .i64 0)] h) (e1 hR) (fun s h hR => eS hC (fun s h => zd (zk.l13 C N Q (s 0) (s 5)) [(.int .i64 0)] h) (eS hC (fun s h => zd (zk.l17 C N Q (s 0) (s 5)) [(s 6)] h) (e1 hR) (fun s h hR => eK (eL hC [0, 5] [6] (on2 (zk.l17 C N Q)) hR (fun Y7 s h hR => eS hC (fun s h => B.pv (V.idxS 1 (s 0) (s 6)) fun v51 =>
  B.ld h v51 fun v52 =>
  zd (zk.l15 C N Q Y7 (s 0) (s 5) (s 6)) [v52, (.int .i64 0)] h) (e1 hR) (fun s h hR => eS hC (fun s h => B.pv (V.bin .add (s 6) (.int .i64 1)) fun v48 =>
  Y7 [v48] h) (eK (eS hC (fun s h => zd (zk.l15 C N Q Y7 (s 0) (s 5) (s 6)) [(s 7), (.int .i64 0)] h) (e1 hR) (fun s h hR => eS hC (fun s h => B.pv (V.idxS 1 (s 5) (s 6)) fun v72 =>
  B.st h v72 (s 7) fun h =>
  B.pv (V.bin .add (s 6) (.int .i64 1)) fun v48 =>
  Y7 [v48] h) (eS hC (fun s h => zd (zk.l15 C N Q Y7 (s 0) (s 5) (s 6)) [(s 7), (s 8)] h) (e1 hR) (fun s h hR => eK (eL hC [0, 5, 6] [7, 8] (on3 (zk.l15 C N Q Y7)) hR (fun Y8 s h hR => e1 hR)))) (fun s h hR => e1 hR)))) (fun s h hR => e1 hR)))))) (fun s h hR => eS hC (fun s h => zd (zk.l9 C N Q (s 0) (s 5)) [(.int .i64 0)] h) (eS hC (fun s h => zd (zk.l13 C N Q (s 0) (s 5)) [(s 9)] h) (e1 hR) (fun s h hR => eK (eL hC [0, 5] [9] (on2 (zk.l13 C N Q)) hR (fun Y5 s h hR => eS hC (fun s h => zd (zk.l11 C N Q Y5 (s 0) (s 5) (s 9)) [(.int .i64 0)] h) (e1 hR) (fun s h hR => eS hC (fun s h => B.pv (V.bin .add (s 9) (.int .i64 1)) fun v78 =>
  Y5 [v78] h) (eK (eS hC (fun s h => zd (zk.l11 C N Q Y5 (s 0) (s 5) (s 9)) [(s 10)] h) (e1 hR) (fun s h hR => eK (eL hC [0, 5, 9] [10] (on3 (zk.l11 C N Q Y5)) hR (fun Y6 s h hR => e1 hR))))) (fun s h hR => e1 hR)))))) (fun s h hR => eS hC (fun s h => zd (zk.l4 C N Q (s 0) (s 5)) [(.int .i64 0)] h) (eS hC (fun s h => zd (zk.l9 C N Q (s 0) (s 5)) [(s 11)] h) (e1 hR) (fun s h hR => eK (eL hC [0, 5] [11] (on2 (zk.l9 C N Q)) hR (fun Y3 s h hR => eS hC (fun s h => 0 < 1 ∧ B.mks h 8 (some [.int .i64 0]) (.int .i64 64) (.int .i64 64) fun v129 h =>
  zd (zk.l7 C N Q Y3 (s 0) (s 5) (s 11) v129) [(.int .i64 0)] h) (e1 hR) (fun s h hR => eS hC (fun s h => B.pv (V.bin .add (s 11) (.int .i64 1)) fun v128 =>
  Y3 [v128] h) (eK (eS hC (fun s h => zd (zk.l7 C N Q Y3 (s 0) (s 5) (s 11) (s 12)) [(.int .i64 0)] h) (e1 hR) (fun s h hR => eS hC (fun s h => zk.k5 C N Q Y3 (s 0) (s 5) (s 11) (s 12) h) (eS hC (fun s h => zd (zk.l7 C N Q Y3 (s 0) (s 5) (s 11) (s 12)) [(s 13)] h) (e1 hR) (fun s h hR => eK (eL hC [0, 5, 11, 12] [13] (on4 (zk.l7 C N Q Y3)) hR (fun Y4 s h hR => e1 hR)))) (fun s h hR => e1 hR)))) (fun s h hR => e1 hR)))))) (fun s h hR => eS hC (fun s h => Q (.bool true) h) (eS hC (fun s h => zd (zk.l4 C N Q (s 0) (s 5)) [(s 14)] h) (e1 hR) (fun s h hR => eK (eL hC [0, 5] [14] (on2 (zk.l4 C N Q)) hR (fun Y1 s h hR => eS hC (fun s h => zd (zk.l2 C N Q Y1 (s 0) (s 5) (s 14)) [(.int .i64 0)] h) (e1 hR) (fun s h hR => eS hC (fun s h => B.pv (V.bin .add (s 14) (.int .i64 1)) fun v157 =>
  Y1 [v157] h) (eK (eS hC (fun s h => zd (zk.l2 C N Q Y1 (s 0) (s 5) (s 14)) [(s 15)] h) (e1 hR) (fun s h hR => eK (eL hC [0, 5, 14] [15] (on3 (zk.l2 C N Q Y1)) hR (fun Y2 s h hR => e1 hR))))) (fun s h hR => e1 hR)))))) (fun s h hR => e1 hR)))))))
theorem zk.imp : zk.Imp (AC P) N := fun v0 h Q hR => eF mixed (fn := Tryz.f50) (fun hC => zk.L hC (dn Q) (zck [v0]) h hR)
def zee.I : Bx := ⟨[], [], 193, [(7, pz [(7, [3])] 10), (24, pz [(9, [3, 6]), (30, [24, 27])] 35), (41, pz [(9, [3, 6]), (22, [16, 19])] 26)]⟩
theorem zee.L : LkT P zee.I Tryz.f51 fun C Q s h => zee.cps C N (s 0) h Q := fun {C} hC Q s h hR =>
 eS hC (fun s h => zd (ze.l103 (opsS 16 (.str []) (N 106)) C Q (s 0)) [(.int .i64 0)] h) (e1 hR) (fun s h hR => eS hC (fun s h => B.pv (V.zx (s 0)) fun v41 =>
  0 < 1 ∧ B.mks h 24 (some [.nils]) v41 v41 fun v42 h =>
  zd (ze.l82 (opsS 16 (.str []) (N 106)) C Q (s 0) v42) [(.int .i64 0)] h) (eS hC (fun s h => zd (ze.l103 (opsS 16 (.str []) (N 106)) C Q (s 0)) [(s 3)] h) (e1 hR) (fun s h hR => eK (eL hC [0] [3] (on1 (ze.l103 (opsS 16 (.str []) (N 106)) C Q)) hR (fun Y9 s h hR => eS hC (fun s h => zd (ze.l93 (opsS 16 (.str []) (N 106)) C Q Y9 (s 0) (s 3)) [(.int .i64 0)] h) (e1 hR) (fun s h hR => eS hC (fun s h => B.pv (V.bin .add (s 3) (.int .i64 1)) fun v21 =>
  Y9 [v21] h) (eK (eS hC (fun s h => zd (ze.l93 (opsS 16 (.str []) (N 106)) C Q Y9 (s 0) (s 3)) [(s 4)] h) (e1 hR) (fun s h hR => eK (eL hC [0, 3] [4] (on2 (ze.l93 (opsS 16 (.str []) (N 106)) C Q Y9)) hR (fun Y10 s h hR => e1 hR))))) (fun s h hR => e1 hR)))))) (fun s h hR => eS hC (fun s h => zd (ze.l82 (opsS 16 (.str []) (N 106)) C Q (s 0) (s 5)) [(.int .i64 0)] h) (e1 hR) (fun s h hR => eS hC (fun s h => zd (ze.l59 (opsS 16 (.str []) (N 106)) C Q (s 0) (s 5)) [(.int .i64 0)] h) (eS hC (fun s h => zd (ze.l82 (opsS 16 (.str []) (N 106)) C Q (s 0) (s 5)) [(s 6)] h) (e1 hR) (fun s h hR => eK (eL hC [0, 5] [6] (on2 (ze.l82 (opsS 16 (.str []) (N 106)) C Q)) hR (fun Y7 s h hR => eS hC (fun s h => B.pv (V.idxS 1 (s 0) (s 6)) fun v51 =>
  B.ld h v51 fun v52 =>
  zd (ze.l69 (opsS 16 (.str []) (N 106)) C Q Y7 (s 0) (s 5) (s 6)) [v52, (.int .i64 0)] h) (e1 hR) (fun s h hR => eS hC (fun s h => B.pv (V.bin .add (s 6) (.int .i64 1)) fun v48 =>
  Y7 [v48] h) (eK (eS hC (fun s h => zd (ze.l69 (opsS 16 (.str []) (N 106)) C Q Y7 (s 0) (s 5) (s 6)) [(s 7), (.int .i64 0)] h) (e1 hR) (fun s h hR => eS hC (fun s h => B.pv (V.idxS 1 (s 5) (s 6)) fun v72 =>
  B.st h v72 (s 7) fun h =>
  B.pv (V.bin .add (s 6) (.int .i64 1)) fun v48 =>
  Y7 [v48] h) (eS hC (fun s h => zd (ze.l69 (opsS 16 (.str []) (N 106)) C Q Y7 (s 0) (s 5) (s 6)) [(s 7), (s 8)] h) (e1 hR) (fun s h hR => eK (eL hC [0, 5, 6] [7, 8] (on3 (ze.l69 (opsS 16 (.str []) (N 106)) C Q Y7)) hR (fun Y8 s h hR => e1 hR)))) (fun s h hR => e1 hR)))) (fun s h hR => e1 hR)))))) (fun s h hR => eS hC (fun s h => zd (ze.l40 (opsS 16 (.str []) (N 106)) C Q (s 0) (s 5)) [(.int .i64 0)] h) (eS hC (fun s h => zd (ze.l59 (opsS 16 (.str []) (N 106)) C Q (s 0) (s 5)) [(s 9)] h) (e1 hR) (fun s h hR => eK (eL hC [0, 5] [9] (on2 (ze.l59 (opsS 16 (.str []) (N 106)) C Q)) hR (fun Y5 s h hR => eS hC (fun s h => zd (ze.l49 (opsS 16 (.str []) (N 106)) C Q Y5 (s 0) (s 5) (s 9)) [(.int .i64 0)] h) (e1 hR) (fun s h hR => eS hC (fun s h => B.pv (V.bin .add (s 9) (.int .i64 1)) fun v78 =>
  Y5 [v78] h) (eK (eS hC (fun s h => zd (ze.l49 (opsS 16 (.str []) (N 106)) C Q Y5 (s 0) (s 5) (s 9)) [(s 10)] h) (e1 hR) (fun s h hR => eK (eL hC [0, 5, 9] [10] (on3 (ze.l49 (opsS 16 (.str []) (N 106)) C Q Y5)) hR (fun Y6 s h hR => e1 hR))))) (fun s h hR => e1 hR)))))) (fun s h hR => eS hC (fun s h => zd (ze.l15 (opsS 16 (.str []) (N 106)) C Q (s 0) (s 5)) [(.int .i64 0)] h) (eS hC (fun s h => zd (ze.l40 (opsS 16 (.str []) (N 106)) C Q (s 0) (s 5)) [(s 11)] h) (e1 hR) (fun s h hR => eK (eL hC [0, 5] [11] (on2 (ze.l40 (opsS 16 (.str []) (N 106)) C Q)) hR (fun Y3 s h hR => eS hC (fun s h => 0 < 1 ∧ B.mks h 16 (some [.str []]) (.int .i64 64) (.int .i64 64) fun v129 h =>
  zd (ze.l26 (opsS 16 (.str []) (N 106)) C Q Y3 (s 0) (s 5) (s 11) v129) [(.int .i64 0)] h) (e1 hR) (fun s h hR => eS hC (fun s h => B.pv (V.bin .add (s 11) (.int .i64 1)) fun v128 =>
  Y3 [v128] h) (eK (eS hC (fun s h => zd (ze.l26 (opsS 16 (.str []) (N 106)) C Q Y3 (s 0) (s 5) (s 11) (s 12)) [(.int .i64 0)] h) (e1 hR) (fun s h hR => eS hC (fun s h => ze.k22 (opsS 16 (.str []) (N 106)) C Q Y3 (s 0) (s 5) (s 11) (s 12) h) (eS hC (fun s h => zd (ze.l26 (opsS 16 (.str []) (N 106)) C Q Y3 (s 0) (s 5) (s 11) (s 12)) [(s 13)] h) (e1 hR) (fun s h hR => eK (eL hC [0, 5, 11, 12] [13] (on4 (ze.l26 (opsS 16 (.str []) (N 106)) C Q Y3)) hR (fun Y4 s h hR => e1 hR)))) (fun s h hR => e1 hR)))) (fun s h hR => e1 hR)))))) (fun s h hR => eS hC (fun s h => Q (.bool true) h) (eS hC (fun s h => zd (ze.l15 (opsS 16 (.str []) (N 106)) C Q (s 0) (s 5)) [(s 14)] h) (e1 hR) (fun s h hR => eK (eL hC [0, 5] [14] (on2 (ze.l15 (opsS 16 (.str []) (N 106)) C Q)) hR (fun Y1 s h hR => eS hC (fun s h => zd (ze.l5 (opsS 16 (.str []) (N 106)) C Q Y1 (s 0) (s 5) (s 14)) [(.int .i64 0)] h) (e1 hR) (fun s h hR => eS hC (fun s h => B.pv (V.bin .add (s 14) (.int .i64 1)) fun v157 =>
  Y1 [v157] h) (eK (eS hC (fun s h => zd (ze.l5 (opsS 16 (.str []) (N 106)) C Q Y1 (s 0) (s 5) (s 14)) [(s 15)] h) (e1 hR) (fun s h hR => eK (eL hC [0, 5, 14] [15] (on3 (ze.l5 (opsS 16 (.str []) (N 106)) C Q Y1)) hR (fun Y2 s h hR => e1 hR))))) (fun s h hR => e1 hR)))))) (fun s h hR => e1 hR)))))))
theorem zee.imp : zee.Imp (AC P) N := fun v0 h Q hR => eF mixed (fn := Tryz.f51) (fun hC => zee.L hC (dn Q) (zck [v0]) h hR)
def zep.I : Bx := ⟨[], [], 193, [(7, pz [(7, [3])] 10), (24, pz [(9, [3, 6]), (30, [24, 27])] 35), (41, pz [(9, [3, 6]), (22, [16, 19])] 26)]⟩
theorem zep.L : LkT P zep.I Tryz.f52 fun C Q s h => zep.cps C N (s 0) h Q := fun {C} hC Q s h hR =>
 eS hC (fun s h => zd (ze.l103 (opsS 1 (.int .u8 0) (N 64)) C Q (s 0)) [(.int .i64 0)] h) (e1 hR) (fun s h hR => eS hC (fun s h => B.pv (V.zx (s 0)) fun v41 =>
  0 < 1 ∧ B.mks h 24 (some [.nils]) v41 v41 fun v42 h =>
  zd (ze.l82 (opsS 1 (.int .u8 0) (N 64)) C Q (s 0) v42) [(.int .i64 0)] h) (eS hC (fun s h => zd (ze.l103 (opsS 1 (.int .u8 0) (N 64)) C Q (s 0)) [(s 3)] h) (e1 hR) (fun s h hR => eK (eL hC [0] [3] (on1 (ze.l103 (opsS 1 (.int .u8 0) (N 64)) C Q)) hR (fun Y9 s h hR => eS hC (fun s h => zd (ze.l93 (opsS 1 (.int .u8 0) (N 64)) C Q Y9 (s 0) (s 3)) [(.int .i64 0)] h) (e1 hR) (fun s h hR => eS hC (fun s h => B.pv (V.bin .add (s 3) (.int .i64 1)) fun v21 =>
  Y9 [v21] h) (eK (eS hC (fun s h => zd (ze.l93 (opsS 1 (.int .u8 0) (N 64)) C Q Y9 (s 0) (s 3)) [(s 4)] h) (e1 hR) (fun s h hR => eK (eL hC [0, 3] [4] (on2 (ze.l93 (opsS 1 (.int .u8 0) (N 64)) C Q Y9)) hR (fun Y10 s h hR => e1 hR))))) (fun s h hR => e1 hR)))))) (fun s h hR => eS hC (fun s h => zd (ze.l82 (opsS 1 (.int .u8 0) (N 64)) C Q (s 0) (s 5)) [(.int .i64 0)] h) (e1 hR) (fun s h hR => eS hC (fun s h => zd (ze.l59 (opsS 1 (.int .u8 0) (N 64)) C Q (s 0) (s 5)) [(.int .i64 0)] h) (eS hC (fun s h => zd (ze.l82 (opsS 1 (.int .u8 0) (N 64)) C Q (s 0) (s 5)) [(s 6)] h) (e1 hR) (fun s h hR => eK (eL hC [0, 5] [6] (on2 (ze.l82 (opsS 1 (.int .u8 0) (N 64)) C Q)) hR (fun Y7 s h hR => eS hC (fun s h => B.pv (V.idxS 1 (s 0) (s 6)) fun v51 =>
  B.ld h v51 fun v52 =>
  zd (ze.l69 (opsS 1 (.int .u8 0) (N 64)) C Q Y7 (s 0) (s 5) (s 6)) [v52, (.int .i64 0)] h) (e1 hR) (fun s h hR => eS hC (fun s h => B.pv (V.bin .add (s 6) (.int .i64 1)) fun v48 =>
  Y7 [v48] h) (eK (eS hC (fun s h => zd (ze.l69 (opsS 1 (.int .u8 0) (N 64)) C Q Y7 (s 0) (s 5) (s 6)) [(s 7), (.int .i64 0)] h) (e1 hR) (fun s h hR => eS hC (fun s h => B.pv (V.idxS 1 (s 5) (s 6)) fun v72 =>
  B.st h v72 (s 7) fun h =>
  B.pv (V.bin .add (s 6) (.int .i64 1)) fun v48 =>
  Y7 [v48] h) (eS hC (fun s h => zd (ze.l69 (opsS 1 (.int .u8 0) (N 64)) C Q Y7 (s 0) (s 5) (s 6)) [(s 7), (s 8)] h) (e1 hR) (fun s h hR => eK (eL hC [0, 5, 6] [7, 8] (on3 (ze.l69 (opsS 1 (.int .u8 0) (N 64)) C Q Y7)) hR (fun Y8 s h hR => e1 hR)))) (fun s h hR => e1 hR)))) (fun s h hR => e1 hR)))))) (fun s h hR => eS hC (fun s h => zd (ze.l40 (opsS 1 (.int .u8 0) (N 64)) C Q (s 0) (s 5)) [(.int .i64 0)] h) (eS hC (fun s h => zd (ze.l59 (opsS 1 (.int .u8 0) (N 64)) C Q (s 0) (s 5)) [(s 9)] h) (e1 hR) (fun s h hR => eK (eL hC [0, 5] [9] (on2 (ze.l59 (opsS 1 (.int .u8 0) (N 64)) C Q)) hR (fun Y5 s h hR => eS hC (fun s h => zd (ze.l49 (opsS 1 (.int .u8 0) (N 64)) C Q Y5 (s 0) (s 5) (s 9)) [(.int .i64 0)] h) (e1 hR) (fun s h hR => eS hC (fun s h => B.pv (V.bin .add (s 9) (.int .i64 1)) fun v78 =>
  Y5 [v78] h) (eK (eS hC (fun s h => zd (ze.l49 (opsS 1 (.int .u8 0) (N 64)) C Q Y5 (s 0) (s 5) (s 9)) [(s 10)] h) (e1 hR) (fun s h hR => eK (eL hC [0, 5, 9] [10] (on3 (ze.l49 (opsS 1 (.int .u8 0) (N 64)) C Q Y5)) hR (fun Y6 s h hR => e1 hR))))) (fun s h hR => e1 hR)))))) (fun s h hR => eS hC (fun s h => zd (ze.l15 (opsS 1 (.int .u8 0) (N 64)) C Q (s 0) (s 5)) [(.int .i64 0)] h) (eS hC (fun s h => zd (ze.l40 (opsS 1 (.int .u8 0) (N 64)) C Q (s 0) (s 5)) [(s 11)] h) (e1 hR) (fun s h hR => eK (eL hC [0, 5] [11] (on2 (ze.l40 (opsS 1 (.int .u8 0) (N 64)) C Q)) hR (fun Y3 s h hR => eS hC (fun s h => 0 < 1 ∧ B.mks h 1 (some [.int .u8 0]) (.int .i64 64) (.int .i64 64) fun v129 h =>
  zd (ze.l26 (opsS 1 (.int .u8 0) (N 64)) C Q Y3 (s 0) (s 5) (s 11) v129) [(.int .i64 0)] h) (e1 hR) (fun s h hR => eS hC (fun s h => B.pv (V.bin .add (s 11) (.int .i64 1)) fun v128 =>
  Y3 [v128] h) (eK (eS hC (fun s h => zd (ze.l26 (opsS 1 (.int .u8 0) (N 64)) C Q Y3 (s 0) (s 5) (s 11) (s 12)) [(.int .i64 0)] h) (e1 hR) (fun s h hR => eS hC (fun s h => ze.k22 (opsS 1 (.int .u8 0) (N 64)) C Q Y3 (s 0) (s 5) (s 11) (s 12) h) (eS hC (fun s h => zd (ze.l26 (opsS 1 (.int .u8 0) (N 64)) C Q Y3 (s 0) (s 5) (s 11) (s 12)) [(s 13)] h) (e1 hR) (fun s h hR => eK (eL hC [0, 5, 11, 12] [13] (on4 (ze.l26 (opsS 1 (.int .u8 0) (N 64)) C Q Y3)) hR (fun Y4 s h hR => e1 hR)))) (fun s h hR => e1 hR)))) (fun s h hR => e1 hR)))))) (fun s h hR => eS hC (fun s h => Q (.bool true) h) (eS hC (fun s h => zd (ze.l15 (opsS 1 (.int .u8 0) (N 64)) C Q (s 0) (s 5)) [(s 14)] h) (e1 hR) (fun s h hR => eK (eL hC [0, 5] [14] (on2 (ze.l15 (opsS 1 (.int .u8 0) (N 64)) C Q)) hR (fun Y1 s h hR => eS hC (fun s h => zd (ze.l5 (opsS 1 (.int .u8 0) (N 64)) C Q Y1 (s 0) (s 5) (s 14)) [(.int .i64 0)] h) (e1 hR) (fun s h hR => eS hC (fun s h => B.pv (V.bin .add (s 14) (.int .i64 1)) fun v157 =>
  Y1 [v157] h) (eK (eS hC (fun s h => zd (ze.l5 (opsS 1 (.int .u8 0) (N 64)) C Q Y1 (s 0) (s 5) (s 14)) [(s 15)] h) (e1 hR) (fun s h hR => eK (eL hC [0, 5, 14] [15] (on3 (ze.l5 (opsS 1 (.int .u8 0) (N 64)) C Q Y1)) hR (fun Y2 s h hR => e1 hR))))) (fun s h hR => e1 hR)))))) (fun s h hR => e1 hR)))))))
theorem zep.imp : zep.Imp (AC P) N := fun v0 h Q hR => eF mixed (fn := Tryz.f52) (fun hC => zep.L hC (dn Q) (zck [v0]) h hR)
def zy.I : Bx := ⟨[], [], 193, [(7, pz [(7, [3])] 10), (24, pz [(9, [3, 6]), (30, [24, 27])] 35), (41, pz [(9, [3, 6]), (22, [16, 19])] 26)]⟩
abbrev zy.E : z4 := opsF 2 16 [.int .i64 0, .int .i64 0] (N 18) [.i .i64, .i .i64]
theorem zy.L : LkT P zy.I Tryz.f53 fun C Q s h => zy.cps C N (s 0) h Q := fun {C} hC Q s h hR =>
 eS hC (fun s h => zd (ze.l103 zy.E C Q (s 0)) [(.int .i64 0)] h) (e1 hR) (fun s h hR => eS hC (fun s h => B.pv (V.zx (s 0)) fun v41 =>
  0 < 1 ∧ B.mks h 24 (some [.nils]) v41 v41 fun v42 h =>
  zd (ze.l82 zy.E C Q (s 0) v42) [(.int .i64 0)] h) (eS hC (fun s h => zd (ze.l103 zy.E C Q (s 0)) [(s 3)] h) (e1 hR) (fun s h hR => eK (eL hC [0] [3] (on1 (ze.l103 zy.E C Q)) hR (fun Y9 s h hR => eS hC (fun s h => zd (ze.l93 zy.E C Q Y9 (s 0) (s 3)) [(.int .i64 0)] h) (e1 hR) (fun s h hR => eS hC (fun s h => B.pv (V.bin .add (s 3) (.int .i64 1)) fun v21 =>
  Y9 [v21] h) (eK (eS hC (fun s h => zd (ze.l93 zy.E C Q Y9 (s 0) (s 3)) [(s 4)] h) (e1 hR) (fun s h hR => eK (eL hC [0, 3] [4] (on2 (ze.l93 zy.E C Q Y9)) hR (fun Y10 s h hR => e1 hR))))) (fun s h hR => e1 hR)))))) (fun s h hR => eS hC (fun s h => zd (ze.l82 zy.E C Q (s 0) (s 5)) [(.int .i64 0)] h) (e1 hR) (fun s h hR => eS hC (fun s h => zd (ze.l59 zy.E C Q (s 0) (s 5)) [(.int .i64 0)] h) (eS hC (fun s h => zd (ze.l82 zy.E C Q (s 0) (s 5)) [(s 6)] h) (e1 hR) (fun s h hR => eK (eL hC [0, 5] [6] (on2 (ze.l82 zy.E C Q)) hR (fun Y7 s h hR => eS hC (fun s h => B.pv (V.idxS 1 (s 0) (s 6)) fun v51 =>
  B.ld h v51 fun v52 =>
  zd (ze.l69 zy.E C Q Y7 (s 0) (s 5) (s 6)) [v52, (.int .i64 0)] h) (e1 hR) (fun s h hR => eS hC (fun s h => B.pv (V.bin .add (s 6) (.int .i64 1)) fun v48 =>
  Y7 [v48] h) (eK (eS hC (fun s h => zd (ze.l69 zy.E C Q Y7 (s 0) (s 5) (s 6)) [(s 7), (.int .i64 0)] h) (e1 hR) (fun s h hR => eS hC (fun s h => B.pv (V.idxS 1 (s 5) (s 6)) fun v72 =>
  B.st h v72 (s 7) fun h =>
  B.pv (V.bin .add (s 6) (.int .i64 1)) fun v48 =>
  Y7 [v48] h) (eS hC (fun s h => zd (ze.l69 zy.E C Q Y7 (s 0) (s 5) (s 6)) [(s 7), (s 8)] h) (e1 hR) (fun s h hR => eK (eL hC [0, 5, 6] [7, 8] (on3 (ze.l69 zy.E C Q Y7)) hR (fun Y8 s h hR => e1 hR)))) (fun s h hR => e1 hR)))) (fun s h hR => e1 hR)))))) (fun s h hR => eS hC (fun s h => zd (ze.l40 zy.E C Q (s 0) (s 5)) [(.int .i64 0)] h) (eS hC (fun s h => zd (ze.l59 zy.E C Q (s 0) (s 5)) [(s 9)] h) (e1 hR) (fun s h hR => eK (eL hC [0, 5] [9] (on2 (ze.l59 zy.E C Q)) hR (fun Y5 s h hR => eS hC (fun s h => zd (ze.l49 zy.E C Q Y5 (s 0) (s 5) (s 9)) [(.int .i64 0)] h) (e1 hR) (fun s h hR => eS hC (fun s h => B.pv (V.bin .add (s 9) (.int .i64 1)) fun v78 =>
  Y5 [v78] h) (eK (eS hC (fun s h => zd (ze.l49 zy.E C Q Y5 (s 0) (s 5) (s 9)) [(s 10)] h) (e1 hR) (fun s h hR => eK (eL hC [0, 5, 9] [10] (on3 (ze.l49 zy.E C Q Y5)) hR (fun Y6 s h hR => e1 hR))))) (fun s h hR => e1 hR)))))) (fun s h hR => eS hC (fun s h => zd (ze.l15 zy.E C Q (s 0) (s 5)) [(.int .i64 0)] h) (eS hC (fun s h => zd (ze.l40 zy.E C Q (s 0) (s 5)) [(s 11)] h) (e1 hR) (fun s h hR => eK (eL hC [0, 5] [11] (on2 (ze.l40 zy.E C Q)) hR (fun Y3 s h hR => eS hC (fun s h => 0 < 2 ∧ B.mks h 16 (some [.int .i64 0, .int .i64 0]) (.int .i64 64) (.int .i64 64) fun v129 h =>
  zd (ze.l26 zy.E C Q Y3 (s 0) (s 5) (s 11) v129) [(.int .i64 0)] h) (e1 hR) (fun s h hR => eS hC (fun s h => B.pv (V.bin .add (s 11) (.int .i64 1)) fun v128 =>
  Y3 [v128] h) (eK (eS hC (fun s h => zd (ze.l26 zy.E C Q Y3 (s 0) (s 5) (s 11) (s 12)) [(.int .i64 0)] h) (e1 hR) (fun s h hR => eS hC (fun s h => ze.k22 zy.E C Q Y3 (s 0) (s 5) (s 11) (s 12) h) (eS hC (fun s h => zd (ze.l26 zy.E C Q Y3 (s 0) (s 5) (s 11) (s 12)) [(s 13)] h) (e1 hR) (fun s h hR => eK (eL hC [0, 5, 11, 12] [13] (on4 (ze.l26 zy.E C Q Y3)) hR (fun Y4 s h hR => e1 hR)))) (fun s h hR => e1 hR)))) (fun s h hR => e1 hR)))))) (fun s h hR => eS hC (fun s h => Q (.bool true) h) (eS hC (fun s h => zd (ze.l15 zy.E C Q (s 0) (s 5)) [(s 14)] h) (e1 hR) (fun s h hR => eK (eL hC [0, 5] [14] (on2 (ze.l15 zy.E C Q)) hR (fun Y1 s h hR => eS hC (fun s h => zd (ze.l5 zy.E C Q Y1 (s 0) (s 5) (s 14)) [(.int .i64 0)] h) (e1 hR) (fun s h hR => eS hC (fun s h => B.pv (V.bin .add (s 14) (.int .i64 1)) fun v157 =>
  Y1 [v157] h) (eK (eS hC (fun s h => zd (ze.l5 zy.E C Q Y1 (s 0) (s 5) (s 14)) [(s 15)] h) (e1 hR) (fun s h hR => eK (eL hC [0, 5, 14] [15] (on3 (ze.l5 zy.E C Q Y1)) hR (fun Y2 s h hR => e1 hR))))) (fun s h hR => e1 hR)))))) (fun s h hR => e1 hR)))))))
theorem zy.imp : zy.Imp (AC P) N := fun v0 h Q hR => eF mixed (fn := Tryz.f53) (fun hC => zy.L hC (dn Q) (zck [v0]) h hR)
def zbs.I : Bx := ⟨[], [], 193, [(7, pz [(7, [3])] 10), (24, pz [(9, [3, 6]), (30, [24, 27])] 35), (41, pz [(9, [3, 6]), (22, [16, 19])] 26)]⟩
abbrev zbs.E : z4 := opsF 6 56 [.int .i64 0, .str [], .int .i64 0, .int .i64 0, .int .i64 0, .bool false] (N 77) [.i .i64, .s, .i .i64, .i .i64, .i .i64, .b]
theorem zbs.L : LkT P zbs.I Tryz.f54 fun C Q s h => zbs.cps C N (s 0) h Q := fun {C} hC Q s h hR =>
 eS hC (fun s h => zd (ze.l103 zbs.E C Q (s 0)) [(.int .i64 0)] h) (e1 hR) (fun s h hR => eS hC (fun s h => B.pv (V.zx (s 0)) fun v41 =>
  0 < 1 ∧ B.mks h 24 (some [.nils]) v41 v41 fun v42 h =>
  zd (ze.l82 zbs.E C Q (s 0) v42) [(.int .i64 0)] h) (eS hC (fun s h => zd (ze.l103 zbs.E C Q (s 0)) [(s 3)] h) (e1 hR) (fun s h hR => eK (eL hC [0] [3] (on1 (ze.l103 zbs.E C Q)) hR (fun Y9 s h hR => eS hC (fun s h => zd (ze.l93 zbs.E C Q Y9 (s 0) (s 3)) [(.int .i64 0)] h) (e1 hR) (fun s h hR => eS hC (fun s h => B.pv (V.bin .add (s 3) (.int .i64 1)) fun v21 =>
  Y9 [v21] h) (eK (eS hC (fun s h => zd (ze.l93 zbs.E C Q Y9 (s 0) (s 3)) [(s 4)] h) (e1 hR) (fun s h hR => eK (eL hC [0, 3] [4] (on2 (ze.l93 zbs.E C Q Y9)) hR (fun Y10 s h hR => e1 hR))))) (fun s h hR => e1 hR)))))) (fun s h hR => eS hC (fun s h => zd (ze.l82 zbs.E C Q (s 0) (s 5)) [(.int .i64 0)] h) (e1 hR) (fun s h hR => eS hC (fun s h => zd (ze.l59 zbs.E C Q (s 0) (s 5)) [(.int .i64 0)] h) (eS hC (fun s h => zd (ze.l82 zbs.E C Q (s 0) (s 5)) [(s 6)] h) (e1 hR) (fun s h hR => eK (eL hC [0, 5] [6] (on2 (ze.l82 zbs.E C Q)) hR (fun Y7 s h hR => eS hC (fun s h => B.pv (V.idxS 1 (s 0) (s 6)) fun v51 =>
  B.ld h v51 fun v52 =>
  zd (ze.l69 zbs.E C Q Y7 (s 0) (s 5) (s 6)) [v52, (.int .i64 0)] h) (e1 hR) (fun s h hR => eS hC (fun s h => B.pv (V.bin .add (s 6) (.int .i64 1)) fun v48 =>
  Y7 [v48] h) (eK (eS hC (fun s h => zd (ze.l69 zbs.E C Q Y7 (s 0) (s 5) (s 6)) [(s 7), (.int .i64 0)] h) (e1 hR) (fun s h hR => eS hC (fun s h => B.pv (V.idxS 1 (s 5) (s 6)) fun v72 =>
  B.st h v72 (s 7) fun h =>
  B.pv (V.bin .add (s 6) (.int .i64 1)) fun v48 =>
  Y7 [v48] h) (eS hC (fun s h => zd (ze.l69 zbs.E C Q Y7 (s 0) (s 5) (s 6)) [(s 7), (s 8)] h) (e1 hR) (fun s h hR => eK (eL hC [0, 5, 6] [7, 8] (on3 (ze.l69 zbs.E C Q Y7)) hR (fun Y8 s h hR => e1 hR)))) (fun s h hR => e1 hR)))) (fun s h hR => e1 hR)))))) (fun s h hR => eS hC (fun s h => zd (ze.l40 zbs.E C Q (s 0) (s 5)) [(.int .i64 0)] h) (eS hC (fun s h => zd (ze.l59 zbs.E C Q (s 0) (s 5)) [(s 9)] h) (e1 hR) (fun s h hR => eK (eL hC [0, 5] [9] (on2 (ze.l59 zbs.E C Q)) hR (fun Y5 s h hR => eS hC (fun s h => zd (ze.l49 zbs.E C Q Y5 (s 0) (s 5) (s 9)) [(.int .i64 0)] h) (e1 hR) (fun s h hR => eS hC (fun s h => B.pv (V.bin .add (s 9) (.int .i64 1)) fun v78 =>
  Y5 [v78] h) (eK (eS hC (fun s h => zd (ze.l49 zbs.E C Q Y5 (s 0) (s 5) (s 9)) [(s 10)] h) (e1 hR) (fun s h hR => eK (eL hC [0, 5, 9] [10] (on3 (ze.l49 zbs.E C Q Y5)) hR (fun Y6 s h hR => e1 hR))))) (fun s h hR => e1 hR)))))) (fun s h hR => eS hC (fun s h => zd (ze.l15 zbs.E C Q (s 0) (s 5)) [(.int .i64 0)] h) (eS hC (fun s h => zd (ze.l40 zbs.E C Q (s 0) (s 5)) [(s 11)] h) (e1 hR) (fun s h hR => eK (eL hC [0, 5] [11] (on2 (ze.l40 zbs.E C Q)) hR (fun Y3 s h hR => eS hC (fun s h => 0 < 6 ∧ B.mks h 56 (some [.int .i64 0, .str [], .int .i64 0, .int .i64 0, .int .i64 0, .bool false]) (.int .i64 64) (.int .i64 64) fun v129 h =>
  zd (ze.l26 zbs.E C Q Y3 (s 0) (s 5) (s 11) v129) [(.int .i64 0)] h) (e1 hR) (fun s h hR => eS hC (fun s h => B.pv (V.bin .add (s 11) (.int .i64 1)) fun v128 =>
  Y3 [v128] h) (eK (eS hC (fun s h => zd (ze.l26 zbs.E C Q Y3 (s 0) (s 5) (s 11) (s 12)) [(.int .i64 0)] h) (e1 hR) (fun s h hR => eS hC (fun s h => ze.k22 zbs.E C Q Y3 (s 0) (s 5) (s 11) (s 12) h) (eS hC (fun s h => zd (ze.l26 zbs.E C Q Y3 (s 0) (s 5) (s 11) (s 12)) [(s 13)] h) (e1 hR) (fun s h hR => eK (eL hC [0, 5, 11, 12] [13] (on4 (ze.l26 zbs.E C Q Y3)) hR (fun Y4 s h hR => e1 hR)))) (fun s h hR => e1 hR)))) (fun s h hR => e1 hR)))))) (fun s h hR => eS hC (fun s h => Q (.bool true) h) (eS hC (fun s h => zd (ze.l15 zbs.E C Q (s 0) (s 5)) [(s 14)] h) (e1 hR) (fun s h hR => eK (eL hC [0, 5] [14] (on2 (ze.l15 zbs.E C Q)) hR (fun Y1 s h hR => eS hC (fun s h => zd (ze.l5 zbs.E C Q Y1 (s 0) (s 5) (s 14)) [(.int .i64 0)] h) (e1 hR) (fun s h hR => eS hC (fun s h => B.pv (V.bin .add (s 14) (.int .i64 1)) fun v157 =>
  Y1 [v157] h) (eK (eS hC (fun s h => zd (ze.l5 zbs.E C Q Y1 (s 0) (s 5) (s 14)) [(s 15)] h) (e1 hR) (fun s h hR => eK (eL hC [0, 5, 14] [15] (on3 (ze.l5 zbs.E C Q Y1)) hR (fun Y2 s h hR => e1 hR))))) (fun s h hR => e1 hR)))))) (fun s h hR => e1 hR)))))))
theorem zbs.imp : zbs.Imp (AC P) N := fun v0 h Q hR => eF mixed (fn := Tryz.f54) (fun hC => zbs.L hC (dn Q) (zck [v0]) h hR)
def zbe.I : Bx := ⟨[], [], 193, [(7, pz [(7, [3])] 10), (24, pz [(9, [3, 6]), (30, [24, 27])] 35), (41, pz [(9, [3, 6]), (22, [16, 19])] 26)]⟩
abbrev zbe.E : z4 := opsF 3 32 [.str [], .int .i64 0, .int .i64 0] (N 107) [.s, .i .i64, .i .i64]
theorem zbe.L : LkT P zbe.I Tryz.f55 fun C Q s h => zbe.cps C N (s 0) h Q := fun {C} hC Q s h hR =>
 eS hC (fun s h => zd (ze.l103 zbe.E C Q (s 0)) [(.int .i64 0)] h) (e1 hR) (fun s h hR => eS hC (fun s h => B.pv (V.zx (s 0)) fun v41 =>
  0 < 1 ∧ B.mks h 24 (some [.nils]) v41 v41 fun v42 h =>
  zd (ze.l82 zbe.E C Q (s 0) v42) [(.int .i64 0)] h) (eS hC (fun s h => zd (ze.l103 zbe.E C Q (s 0)) [(s 3)] h) (e1 hR) (fun s h hR => eK (eL hC [0] [3] (on1 (ze.l103 zbe.E C Q)) hR (fun Y9 s h hR => eS hC (fun s h => zd (ze.l93 zbe.E C Q Y9 (s 0) (s 3)) [(.int .i64 0)] h) (e1 hR) (fun s h hR => eS hC (fun s h => B.pv (V.bin .add (s 3) (.int .i64 1)) fun v21 =>
  Y9 [v21] h) (eK (eS hC (fun s h => zd (ze.l93 zbe.E C Q Y9 (s 0) (s 3)) [(s 4)] h) (e1 hR) (fun s h hR => eK (eL hC [0, 3] [4] (on2 (ze.l93 zbe.E C Q Y9)) hR (fun Y10 s h hR => e1 hR))))) (fun s h hR => e1 hR)))))) (fun s h hR => eS hC (fun s h => zd (ze.l82 zbe.E C Q (s 0) (s 5)) [(.int .i64 0)] h) (e1 hR) (fun s h hR => eS hC (fun s h => zd (ze.l59 zbe.E C Q (s 0) (s 5)) [(.int .i64 0)] h) (eS hC (fun s h => zd (ze.l82 zbe.E C Q (s 0) (s 5)) [(s 6)] h) (e1 hR) (fun s h hR => eK (eL hC [0, 5] [6] (on2 (ze.l82 zbe.E C Q)) hR (fun Y7 s h hR => eS hC (fun s h => B.pv (V.idxS 1 (s 0) (s 6)) fun v51 =>
  B.ld h v51 fun v52 =>
  zd (ze.l69 zbe.E C Q Y7 (s 0) (s 5) (s 6)) [v52, (.int .i64 0)] h) (e1 hR) (fun s h hR => eS hC (fun s h => B.pv (V.bin .add (s 6) (.int .i64 1)) fun v48 =>
  Y7 [v48] h) (eK (eS hC (fun s h => zd (ze.l69 zbe.E C Q Y7 (s 0) (s 5) (s 6)) [(s 7), (.int .i64 0)] h) (e1 hR) (fun s h hR => eS hC (fun s h => B.pv (V.idxS 1 (s 5) (s 6)) fun v72 =>
  B.st h v72 (s 7) fun h =>
  B.pv (V.bin .add (s 6) (.int .i64 1)) fun v48 =>
  Y7 [v48] h) (eS hC (fun s h => zd (ze.l69 zbe.E C Q Y7 (s 0) (s 5) (s 6)) [(s 7), (s 8)] h) (e1 hR) (fun s h hR => eK (eL hC [0, 5, 6] [7, 8] (on3 (ze.l69 zbe.E C Q Y7)) hR (fun Y8 s h hR => e1 hR)))) (fun s h hR => e1 hR)))) (fun s h hR => e1 hR)))))) (fun s h hR => eS hC (fun s h => zd (ze.l40 zbe.E C Q (s 0) (s 5)) [(.int .i64 0)] h) (eS hC (fun s h => zd (ze.l59 zbe.E C Q (s 0) (s 5)) [(s 9)] h) (e1 hR) (fun s h hR => eK (eL hC [0, 5] [9] (on2 (ze.l59 zbe.E C Q)) hR (fun Y5 s h hR => eS hC (fun s h => zd (ze.l49 zbe.E C Q Y5 (s 0) (s 5) (s 9)) [(.int .i64 0)] h) (e1 hR) (fun s h hR => eS hC (fun s h => B.pv (V.bin .add (s 9) (.int .i64 1)) fun v78 =>
  Y5 [v78] h) (eK (eS hC (fun s h => zd (ze.l49 zbe.E C Q Y5 (s 0) (s 5) (s 9)) [(s 10)] h) (e1 hR) (fun s h hR => eK (eL hC [0, 5, 9] [10] (on3 (ze.l49 zbe.E C Q Y5)) hR (fun Y6 s h hR => e1 hR))))) (fun s h hR => e1 hR)))))) (fun s h hR => eS hC (fun s h => zd (ze.l15 zbe.E C Q (s 0) (s 5)) [(.int .i64 0)] h) (eS hC (fun s h => zd (ze.l40 zbe.E C Q (s 0) (s 5)) [(s 11)] h) (e1 hR) (fun s h hR => eK (eL hC [0, 5] [11] (on2 (ze.l40 zbe.E C Q)) hR (fun Y3 s h hR => eS hC (fun s h => 0 < 3 ∧ B.mks h 32 (some [.str [], .int .i64 0, .int .i64 0]) (.int .i64 64) (.int .i64 64) fun v129 h =>
  zd (ze.l26 zbe.E C Q Y3 (s 0) (s 5) (s 11) v129) [(.int .i64 0)] h) (e1 hR) (fun s h hR => eS hC (fun s h => B.pv (V.bin .add (s 11) (.int .i64 1)) fun v128 =>
  Y3 [v128] h) (eK (eS hC (fun s h => zd (ze.l26 zbe.E C Q Y3 (s 0) (s 5) (s 11) (s 12)) [(.int .i64 0)] h) (e1 hR) (fun s h hR => eS hC (fun s h => ze.k22 zbe.E C Q Y3 (s 0) (s 5) (s 11) (s 12) h) (eS hC (fun s h => zd (ze.l26 zbe.E C Q Y3 (s 0) (s 5) (s 11) (s 12)) [(s 13)] h) (e1 hR) (fun s h hR => eK (eL hC [0, 5, 11, 12] [13] (on4 (ze.l26 zbe.E C Q Y3)) hR (fun Y4 s h hR => e1 hR)))) (fun s h hR => e1 hR)))) (fun s h hR => e1 hR)))))) (fun s h hR => eS hC (fun s h => Q (.bool true) h) (eS hC (fun s h => zd (ze.l15 zbe.E C Q (s 0) (s 5)) [(s 14)] h) (e1 hR) (fun s h hR => eK (eL hC [0, 5] [14] (on2 (ze.l15 zbe.E C Q)) hR (fun Y1 s h hR => eS hC (fun s h => zd (ze.l5 zbe.E C Q Y1 (s 0) (s 5) (s 14)) [(.int .i64 0)] h) (e1 hR) (fun s h hR => eS hC (fun s h => B.pv (V.bin .add (s 14) (.int .i64 1)) fun v157 =>
  Y1 [v157] h) (eK (eS hC (fun s h => zd (ze.l5 zbe.E C Q Y1 (s 0) (s 5) (s 14)) [(s 15)] h) (e1 hR) (fun s h hR => eK (eL hC [0, 5, 14] [15] (on3 (ze.l5 zbe.E C Q Y1)) hR (fun Y2 s h hR => e1 hR))))) (fun s h hR => e1 hR)))))) (fun s h hR => e1 hR)))))))
theorem zbe.imp : zbe.Imp (AC P) N := fun v0 h Q hR => eF mixed (fn := Tryz.f55) (fun hC => zbe.L hC (dn Q) (zck [v0]) h hR)
def zbr.I : Bx := ⟨[], [], 193, [(7, pz [(7, [3])] 10), (24, pz [(9, [3, 6]), (30, [24, 27])] 35), (41, pz [(9, [3, 6]), (22, [16, 19])] 26)]⟩
abbrev zbr.E : z4 := opsF 3 24 [.int .i64 0, .int .i64 0, .int .i64 0] (N 78) [.i .i64, .i .i64, .i .i64]
theorem zbr.L : LkT P zbr.I Tryz.f56 fun C Q s h => zbr.cps C N (s 0) h Q := fun {C} hC Q s h hR =>
 eS hC (fun s h => zd (ze.l103 zbr.E C Q (s 0)) [(.int .i64 0)] h) (e1 hR) (fun s h hR => eS hC (fun s h => B.pv (V.zx (s 0)) fun v41 =>
  0 < 1 ∧ B.mks h 24 (some [.nils]) v41 v41 fun v42 h =>
  zd (ze.l82 zbr.E C Q (s 0) v42) [(.int .i64 0)] h) (eS hC (fun s h => zd (ze.l103 zbr.E C Q (s 0)) [(s 3)] h) (e1 hR) (fun s h hR => eK (eL hC [0] [3] (on1 (ze.l103 zbr.E C Q)) hR (fun Y9 s h hR => eS hC (fun s h => zd (ze.l93 zbr.E C Q Y9 (s 0) (s 3)) [(.int .i64 0)] h) (e1 hR) (fun s h hR => eS hC (fun s h => B.pv (V.bin .add (s 3) (.int .i64 1)) fun v21 =>
  Y9 [v21] h) (eK (eS hC (fun s h => zd (ze.l93 zbr.E C Q Y9 (s 0) (s 3)) [(s 4)] h) (e1 hR) (fun s h hR => eK (eL hC [0, 3] [4] (on2 (ze.l93 zbr.E C Q Y9)) hR (fun Y10 s h hR => e1 hR))))) (fun s h hR => e1 hR)))))) (fun s h hR => eS hC (fun s h => zd (ze.l82 zbr.E C Q (s 0) (s 5)) [(.int .i64 0)] h) (e1 hR) (fun s h hR => eS hC (fun s h => zd (ze.l59 zbr.E C Q (s 0) (s 5)) [(.int .i64 0)] h) (eS hC (fun s h => zd (ze.l82 zbr.E C Q (s 0) (s 5)) [(s 6)] h) (e1 hR) (fun s h hR => eK (eL hC [0, 5] [6] (on2 (ze.l82 zbr.E C Q)) hR (fun Y7 s h hR => eS hC (fun s h => B.pv (V.idxS 1 (s 0) (s 6)) fun v51 =>
  B.ld h v51 fun v52 =>
  zd (ze.l69 zbr.E C Q Y7 (s 0) (s 5) (s 6)) [v52, (.int .i64 0)] h) (e1 hR) (fun s h hR => eS hC (fun s h => B.pv (V.bin .add (s 6) (.int .i64 1)) fun v48 =>
  Y7 [v48] h) (eK (eS hC (fun s h => zd (ze.l69 zbr.E C Q Y7 (s 0) (s 5) (s 6)) [(s 7), (.int .i64 0)] h) (e1 hR) (fun s h hR => eS hC (fun s h => B.pv (V.idxS 1 (s 5) (s 6)) fun v72 =>
  B.st h v72 (s 7) fun h =>
  B.pv (V.bin .add (s 6) (.int .i64 1)) fun v48 =>
  Y7 [v48] h) (eS hC (fun s h => zd (ze.l69 zbr.E C Q Y7 (s 0) (s 5) (s 6)) [(s 7), (s 8)] h) (e1 hR) (fun s h hR => eK (eL hC [0, 5, 6] [7, 8] (on3 (ze.l69 zbr.E C Q Y7)) hR (fun Y8 s h hR => e1 hR)))) (fun s h hR => e1 hR)))) (fun s h hR => e1 hR)))))) (fun s h hR => eS hC (fun s h => zd (ze.l40 zbr.E C Q (s 0) (s 5)) [(.int .i64 0)] h) (eS hC (fun s h => zd (ze.l59 zbr.E C Q (s 0) (s 5)) [(s 9)] h) (e1 hR) (fun s h hR => eK (eL hC [0, 5] [9] (on2 (ze.l59 zbr.E C Q)) hR (fun Y5 s h hR => eS hC (fun s h => zd (ze.l49 zbr.E C Q Y5 (s 0) (s 5) (s 9)) [(.int .i64 0)] h) (e1 hR) (fun s h hR => eS hC (fun s h => B.pv (V.bin .add (s 9) (.int .i64 1)) fun v78 =>
  Y5 [v78] h) (eK (eS hC (fun s h => zd (ze.l49 zbr.E C Q Y5 (s 0) (s 5) (s 9)) [(s 10)] h) (e1 hR) (fun s h hR => eK (eL hC [0, 5, 9] [10] (on3 (ze.l49 zbr.E C Q Y5)) hR (fun Y6 s h hR => e1 hR))))) (fun s h hR => e1 hR)))))) (fun s h hR => eS hC (fun s h => zd (ze.l15 zbr.E C Q (s 0) (s 5)) [(.int .i64 0)] h) (eS hC (fun s h => zd (ze.l40 zbr.E C Q (s 0) (s 5)) [(s 11)] h) (e1 hR) (fun s h hR => eK (eL hC [0, 5] [11] (on2 (ze.l40 zbr.E C Q)) hR (fun Y3 s h hR => eS hC (fun s h => 0 < 3 ∧ B.mks h 24 (some [.int .i64 0, .int .i64 0, .int .i64 0]) (.int .i64 64) (.int .i64 64) fun v129 h =>
  zd (ze.l26 zbr.E C Q Y3 (s 0) (s 5) (s 11) v129) [(.int .i64 0)] h) (e1 hR) (fun s h hR => eS hC (fun s h => B.pv (V.bin .add (s 11) (.int .i64 1)) fun v128 =>
  Y3 [v128] h) (eK (eS hC (fun s h => zd (ze.l26 zbr.E C Q Y3 (s 0) (s 5) (s 11) (s 12)) [(.int .i64 0)] h) (e1 hR) (fun s h hR => eS hC (fun s h => ze.k22 zbr.E C Q Y3 (s 0) (s 5) (s 11) (s 12) h) (eS hC (fun s h => zd (ze.l26 zbr.E C Q Y3 (s 0) (s 5) (s 11) (s 12)) [(s 13)] h) (e1 hR) (fun s h hR => eK (eL hC [0, 5, 11, 12] [13] (on4 (ze.l26 zbr.E C Q Y3)) hR (fun Y4 s h hR => e1 hR)))) (fun s h hR => e1 hR)))) (fun s h hR => e1 hR)))))) (fun s h hR => eS hC (fun s h => Q (.bool true) h) (eS hC (fun s h => zd (ze.l15 zbr.E C Q (s 0) (s 5)) [(s 14)] h) (e1 hR) (fun s h hR => eK (eL hC [0, 5] [14] (on2 (ze.l15 zbr.E C Q)) hR (fun Y1 s h hR => eS hC (fun s h => zd (ze.l5 zbr.E C Q Y1 (s 0) (s 5) (s 14)) [(.int .i64 0)] h) (e1 hR) (fun s h hR => eS hC (fun s h => B.pv (V.bin .add (s 14) (.int .i64 1)) fun v157 =>
  Y1 [v157] h) (eK (eS hC (fun s h => zd (ze.l5 zbr.E C Q Y1 (s 0) (s 5) (s 14)) [(s 15)] h) (e1 hR) (fun s h hR => eK (eL hC [0, 5, 14] [15] (on3 (ze.l5 zbr.E C Q Y1)) hR (fun Y2 s h hR => e1 hR))))) (fun s h hR => e1 hR)))))) (fun s h hR => e1 hR)))))))
theorem zbr.imp : zbr.Imp (AC P) N := fun v0 h Q hR => eF mixed (fn := Tryz.f56) (fun hC => zbr.L hC (dn Q) (zck [v0]) h hR)
def zbf.I : Bx := ⟨[], [], 193, [(7, pz [(7, [3])] 10), (24, pz [(9, [3, 6]), (30, [24, 27])] 35), (41, pz [(9, [3, 6]), (22, [16, 19])] 26)]⟩
abbrev zbf.E : z4 := opsF 2 24 [.str [], .int .i64 0] (N 108) [.s, .i .i64]
theorem zbf.L : LkT P zbf.I Tryz.f57 fun C Q s h => zbf.cps C N (s 0) h Q := fun {C} hC Q s h hR =>
 eS hC (fun s h => zd (ze.l103 zbf.E C Q (s 0)) [(.int .i64 0)] h) (e1 hR) (fun s h hR => eS hC (fun s h => B.pv (V.zx (s 0)) fun v41 =>
  0 < 1 ∧ B.mks h 24 (some [.nils]) v41 v41 fun v42 h =>
  zd (ze.l82 zbf.E C Q (s 0) v42) [(.int .i64 0)] h) (eS hC (fun s h => zd (ze.l103 zbf.E C Q (s 0)) [(s 3)] h) (e1 hR) (fun s h hR => eK (eL hC [0] [3] (on1 (ze.l103 zbf.E C Q)) hR (fun Y9 s h hR => eS hC (fun s h => zd (ze.l93 zbf.E C Q Y9 (s 0) (s 3)) [(.int .i64 0)] h) (e1 hR) (fun s h hR => eS hC (fun s h => B.pv (V.bin .add (s 3) (.int .i64 1)) fun v21 =>
  Y9 [v21] h) (eK (eS hC (fun s h => zd (ze.l93 zbf.E C Q Y9 (s 0) (s 3)) [(s 4)] h) (e1 hR) (fun s h hR => eK (eL hC [0, 3] [4] (on2 (ze.l93 zbf.E C Q Y9)) hR (fun Y10 s h hR => e1 hR))))) (fun s h hR => e1 hR)))))) (fun s h hR => eS hC (fun s h => zd (ze.l82 zbf.E C Q (s 0) (s 5)) [(.int .i64 0)] h) (e1 hR) (fun s h hR => eS hC (fun s h => zd (ze.l59 zbf.E C Q (s 0) (s 5)) [(.int .i64 0)] h) (eS hC (fun s h => zd (ze.l82 zbf.E C Q (s 0) (s 5)) [(s 6)] h) (e1 hR) (fun s h hR => eK (eL hC [0, 5] [6] (on2 (ze.l82 zbf.E C Q)) hR (fun Y7 s h hR => eS hC (fun s h => B.pv (V.idxS 1 (s 0) (s 6)) fun v51 =>
  B.ld h v51 fun v52 =>
  zd (ze.l69 zbf.E C Q Y7 (s 0) (s 5) (s 6)) [v52, (.int .i64 0)] h) (e1 hR) (fun s h hR => eS hC (fun s h => B.pv (V.bin .add (s 6) (.int .i64 1)) fun v48 =>
  Y7 [v48] h) (eK (eS hC (fun s h => zd (ze.l69 zbf.E C Q Y7 (s 0) (s 5) (s 6)) [(s 7), (.int .i64 0)] h) (e1 hR) (fun s h hR => eS hC (fun s h => B.pv (V.idxS 1 (s 5) (s 6)) fun v72 =>
  B.st h v72 (s 7) fun h =>
  B.pv (V.bin .add (s 6) (.int .i64 1)) fun v48 =>
  Y7 [v48] h) (eS hC (fun s h => zd (ze.l69 zbf.E C Q Y7 (s 0) (s 5) (s 6)) [(s 7), (s 8)] h) (e1 hR) (fun s h hR => eK (eL hC [0, 5, 6] [7, 8] (on3 (ze.l69 zbf.E C Q Y7)) hR (fun Y8 s h hR => e1 hR)))) (fun s h hR => e1 hR)))) (fun s h hR => e1 hR)))))) (fun s h hR => eS hC (fun s h => zd (ze.l40 zbf.E C Q (s 0) (s 5)) [(.int .i64 0)] h) (eS hC (fun s h => zd (ze.l59 zbf.E C Q (s 0) (s 5)) [(s 9)] h) (e1 hR) (fun s h hR => eK (eL hC [0, 5] [9] (on2 (ze.l59 zbf.E C Q)) hR (fun Y5 s h hR => eS hC (fun s h => zd (ze.l49 zbf.E C Q Y5 (s 0) (s 5) (s 9)) [(.int .i64 0)] h) (e1 hR) (fun s h hR => eS hC (fun s h => B.pv (V.bin .add (s 9) (.int .i64 1)) fun v78 =>
  Y5 [v78] h) (eK (eS hC (fun s h => zd (ze.l49 zbf.E C Q Y5 (s 0) (s 5) (s 9)) [(s 10)] h) (e1 hR) (fun s h hR => eK (eL hC [0, 5, 9] [10] (on3 (ze.l49 zbf.E C Q Y5)) hR (fun Y6 s h hR => e1 hR))))) (fun s h hR => e1 hR)))))) (fun s h hR => eS hC (fun s h => zd (ze.l15 zbf.E C Q (s 0) (s 5)) [(.int .i64 0)] h) (eS hC (fun s h => zd (ze.l40 zbf.E C Q (s 0) (s 5)) [(s 11)] h) (e1 hR) (fun s h hR => eK (eL hC [0, 5] [11] (on2 (ze.l40 zbf.E C Q)) hR (fun Y3 s h hR => eS hC (fun s h => 0 < 2 ∧ B.mks h 24 (some [.str [], .int .i64 0]) (.int .i64 64) (.int .i64 64) fun v129 h =>
  zd (ze.l26 zbf.E C Q Y3 (s 0) (s 5) (s 11) v129) [(.int .i64 0)] h) (e1 hR) (fun s h hR => eS hC (fun s h => B.pv (V.bin .add (s 11) (.int .i64 1)) fun v128 =>
  Y3 [v128] h) (eK (eS hC (fun s h => zd (ze.l26 zbf.E C Q Y3 (s 0) (s 5) (s 11) (s 12)) [(.int .i64 0)] h) (e1 hR) (fun s h hR => eS hC (fun s h => ze.k22 zbf.E C Q Y3 (s 0) (s 5) (s 11) (s 12) h) (eS hC (fun s h => zd (ze.l26 zbf.E C Q Y3 (s 0) (s 5) (s 11) (s 12)) [(s 13)] h) (e1 hR) (fun s h hR => eK (eL hC [0, 5, 11, 12] [13] (on4 (ze.l26 zbf.E C Q Y3)) hR (fun Y4 s h hR => e1 hR)))) (fun s h hR => e1 hR)))) (fun s h hR => e1 hR)))))) (fun s h hR => eS hC (fun s h => Q (.bool true) h) (eS hC (fun s h => zd (ze.l15 zbf.E C Q (s 0) (s 5)) [(s 14)] h) (e1 hR) (fun s h hR => eK (eL hC [0, 5] [14] (on2 (ze.l15 zbf.E C Q)) hR (fun Y1 s h hR => eS hC (fun s h => zd (ze.l5 zbf.E C Q Y1 (s 0) (s 5) (s 14)) [(.int .i64 0)] h) (e1 hR) (fun s h hR => eS hC (fun s h => B.pv (V.bin .add (s 14) (.int .i64 1)) fun v157 =>
  Y1 [v157] h) (eK (eS hC (fun s h => zd (ze.l5 zbf.E C Q Y1 (s 0) (s 5) (s 14)) [(s 15)] h) (e1 hR) (fun s h hR => eK (eL hC [0, 5, 14] [15] (on3 (ze.l5 zbf.E C Q Y1)) hR (fun Y2 s h hR => e1 hR))))) (fun s h hR => e1 hR)))))) (fun s h hR => e1 hR)))))))
theorem zbf.imp : zbf.Imp (AC P) N := fun v0 h Q hR => eF mixed (fn := Tryz.f57) (fun hC => zbf.L hC (dn Q) (zck [v0]) h hR)
def zbc.I : Bx := ⟨[], [], 193, [(7, pz [(7, [3])] 10), (24, pz [(9, [3, 6]), (30, [24, 27])] 35), (41, pz [(9, [3, 6]), (22, [16, 19])] 26)]⟩
abbrev zbc.E (C : CSem) : z4 := opsD C 4 72 [.str [], .int .i64 0, .nils, .nils] (N 109) (N 110)
theorem zbc.L : LkT P zbc.I Tryz.f58 fun C Q s h => zbc.cps C N (s 0) h Q := fun {C} hC Q s h hR =>
 eS hC (fun s h => zd (ze.l103 (zbc.E C) C Q (s 0)) [(.int .i64 0)] h) (e1 hR) (fun s h hR => eS hC (fun s h => B.pv (V.zx (s 0)) fun v41 =>
  0 < 1 ∧ B.mks h 24 (some [.nils]) v41 v41 fun v42 h =>
  zd (ze.l82 (zbc.E C) C Q (s 0) v42) [(.int .i64 0)] h) (eS hC (fun s h => zd (ze.l103 (zbc.E C) C Q (s 0)) [(s 3)] h) (e1 hR) (fun s h hR => eK (eL hC [0] [3] (on1 (ze.l103 (zbc.E C) C Q)) hR (fun Y9 s h hR => eS hC (fun s h => zd (ze.l93 (zbc.E C) C Q Y9 (s 0) (s 3)) [(.int .i64 0)] h) (e1 hR) (fun s h hR => eS hC (fun s h => B.pv (V.bin .add (s 3) (.int .i64 1)) fun v21 =>
  Y9 [v21] h) (eK (eS hC (fun s h => zd (ze.l93 (zbc.E C) C Q Y9 (s 0) (s 3)) [(s 4)] h) (e1 hR) (fun s h hR => eK (eL hC [0, 3] [4] (on2 (ze.l93 (zbc.E C) C Q Y9)) hR (fun Y10 s h hR => e1 hR))))) (fun s h hR => e1 hR)))))) (fun s h hR => eS hC (fun s h => zd (ze.l82 (zbc.E C) C Q (s 0) (s 5)) [(.int .i64 0)] h) (e1 hR) (fun s h hR => eS hC (fun s h => zd (ze.l59 (zbc.E C) C Q (s 0) (s 5)) [(.int .i64 0)] h) (eS hC (fun s h => zd (ze.l82 (zbc.E C) C Q (s 0) (s 5)) [(s 6)] h) (e1 hR) (fun s h hR => eK (eL hC [0, 5] [6] (on2 (ze.l82 (zbc.E C) C Q)) hR (fun Y7 s h hR => eS hC (fun s h => B.pv (V.idxS 1 (s 0) (s 6)) fun v51 =>
  B.ld h v51 fun v52 =>
  zd (ze.l69 (zbc.E C) C Q Y7 (s 0) (s 5) (s 6)) [v52, (.int .i64 0)] h) (e1 hR) (fun s h hR => eS hC (fun s h => B.pv (V.bin .add (s 6) (.int .i64 1)) fun v48 =>
  Y7 [v48] h) (eK (eS hC (fun s h => zd (ze.l69 (zbc.E C) C Q Y7 (s 0) (s 5) (s 6)) [(s 7), (.int .i64 0)] h) (e1 hR) (fun s h hR => eS hC (fun s h => B.pv (V.idxS 1 (s 5) (s 6)) fun v72 =>
  B.st h v72 (s 7) fun h =>
  B.pv (V.bin .add (s 6) (.int .i64 1)) fun v48 =>
  Y7 [v48] h) (eS hC (fun s h => zd (ze.l69 (zbc.E C) C Q Y7 (s 0) (s 5) (s 6)) [(s 7), (s 8)] h) (e1 hR) (fun s h hR => eK (eL hC [0, 5, 6] [7, 8] (on3 (ze.l69 (zbc.E C) C Q Y7)) hR (fun Y8 s h hR => e1 hR)))) (fun s h hR => e1 hR)))) (fun s h hR => e1 hR)))))) (fun s h hR => eS hC (fun s h => zd (ze.l40 (zbc.E C) C Q (s 0) (s 5)) [(.int .i64 0)] h) (eS hC (fun s h => zd (ze.l59 (zbc.E C) C Q (s 0) (s 5)) [(s 9)] h) (e1 hR) (fun s h hR => eK (eL hC [0, 5] [9] (on2 (ze.l59 (zbc.E C) C Q)) hR (fun Y5 s h hR => eS hC (fun s h => zd (ze.l49 (zbc.E C) C Q Y5 (s 0) (s 5) (s 9)) [(.int .i64 0)] h) (e1 hR) (fun s h hR => eS hC (fun s h => B.pv (V.bin .add (s 9) (.int .i64 1)) fun v78 =>
  Y5 [v78] h) (eK (eS hC (fun s h => zd (ze.l49 (zbc.E C) C Q Y5 (s 0) (s 5) (s 9)) [(s 10)] h) (e1 hR) (fun s h hR => eK (eL hC [0, 5, 9] [10] (on3 (ze.l49 (zbc.E C) C Q Y5)) hR (fun Y6 s h hR => e1 hR))))) (fun s h hR => e1 hR)))))) (fun s h hR => eS hC (fun s h => zd (ze.l15 (zbc.E C) C Q (s 0) (s 5)) [(.int .i64 0)] h) (eS hC (fun s h => zd (ze.l40 (zbc.E C) C Q (s 0) (s 5)) [(s 11)] h) (e1 hR) (fun s h hR => eK (eL hC [0, 5] [11] (on2 (ze.l40 (zbc.E C) C Q)) hR (fun Y3 s h hR => eS hC (fun s h => 0 < 4 ∧ B.mks h 72 (some [.str [], .int .i64 0, .nils, .nils]) (.int .i64 64) (.int .i64 64) fun v129 h =>
  zd (ze.l26 (zbc.E C) C Q Y3 (s 0) (s 5) (s 11) v129) [(.int .i64 0)] h) (e1 hR) (fun s h hR => eS hC (fun s h => B.pv (V.bin .add (s 11) (.int .i64 1)) fun v128 =>
  Y3 [v128] h) (eK (eS hC (fun s h => zd (ze.l26 (zbc.E C) C Q Y3 (s 0) (s 5) (s 11) (s 12)) [(.int .i64 0)] h) (e1 hR) (fun s h hR => eS hC (fun s h => ze.k22 (zbc.E C) C Q Y3 (s 0) (s 5) (s 11) (s 12) h) (eS hC (fun s h => zd (ze.l26 (zbc.E C) C Q Y3 (s 0) (s 5) (s 11) (s 12)) [(s 13)] h) (e1 hR) (fun s h hR => eK (eL hC [0, 5, 11, 12] [13] (on4 (ze.l26 (zbc.E C) C Q Y3)) hR (fun Y4 s h hR => e1 hR)))) (fun s h hR => e1 hR)))) (fun s h hR => e1 hR)))))) (fun s h hR => eS hC (fun s h => Q (.bool true) h) (eS hC (fun s h => zd (ze.l15 (zbc.E C) C Q (s 0) (s 5)) [(s 14)] h) (e1 hR) (fun s h hR => eK (eL hC [0, 5] [14] (on2 (ze.l15 (zbc.E C) C Q)) hR (fun Y1 s h hR => eS hC (fun s h => zd (ze.l5 (zbc.E C) C Q Y1 (s 0) (s 5) (s 14)) [(.int .i64 0)] h) (e1 hR) (fun s h hR => eS hC (fun s h => B.pv (V.bin .add (s 14) (.int .i64 1)) fun v157 =>
  Y1 [v157] h) (eK (eS hC (fun s h => zd (ze.l5 (zbc.E C) C Q Y1 (s 0) (s 5) (s 14)) [(s 15)] h) (e1 hR) (fun s h hR => eK (eL hC [0, 5, 14] [15] (on3 (ze.l5 (zbc.E C) C Q Y1)) hR (fun Y2 s h hR => e1 hR))))) (fun s h hR => e1 hR)))))) (fun s h hR => e1 hR)))))))
theorem zbc.imp : zbc.Imp (AC P) N := fun v0 h Q hR => eF mixed (fn := Tryz.f58) (fun hC => zbc.L hC (dn Q) (zck [v0]) h hR)
def zbg.I : Bx := ⟨[], [], 193, [(7, pz [(7, [3])] 10), (24, pz [(9, [3, 6]), (30, [24, 27])] 35), (41, pz [(9, [3, 6]), (22, [16, 19])] 26)]⟩
abbrev zbg.E : z4 := opsF 8 80 [.int .i64 0, .str [], .int .i64 0, .int .i64 0, .int .i64 0, .int .u8 0, .int .i64 0, .str []] (N 111) [.i .i64, .s, .i .i64, .i .i64, .i .i64, .i .u8, .i .i64, .s]
theorem zbg.L : LkT P zbg.I Tryz.f59 fun C Q s h => zbg.cps C N (s 0) h Q := fun {C} hC Q s h hR =>
 eS hC (fun s h => zd (ze.l103 zbg.E C Q (s 0)) [(.int .i64 0)] h) (e1 hR) (fun s h hR => eS hC (fun s h => B.pv (V.zx (s 0)) fun v41 =>
  0 < 1 ∧ B.mks h 24 (some [.nils]) v41 v41 fun v42 h =>
  zd (ze.l82 zbg.E C Q (s 0) v42) [(.int .i64 0)] h) (eS hC (fun s h => zd (ze.l103 zbg.E C Q (s 0)) [(s 3)] h) (e1 hR) (fun s h hR => eK (eL hC [0] [3] (on1 (ze.l103 zbg.E C Q)) hR (fun Y9 s h hR => eS hC (fun s h => zd (ze.l93 zbg.E C Q Y9 (s 0) (s 3)) [(.int .i64 0)] h) (e1 hR) (fun s h hR => eS hC (fun s h => B.pv (V.bin .add (s 3) (.int .i64 1)) fun v21 =>
  Y9 [v21] h) (eK (eS hC (fun s h => zd (ze.l93 zbg.E C Q Y9 (s 0) (s 3)) [(s 4)] h) (e1 hR) (fun s h hR => eK (eL hC [0, 3] [4] (on2 (ze.l93 zbg.E C Q Y9)) hR (fun Y10 s h hR => e1 hR))))) (fun s h hR => e1 hR)))))) (fun s h hR => eS hC (fun s h => zd (ze.l82 zbg.E C Q (s 0) (s 5)) [(.int .i64 0)] h) (e1 hR) (fun s h hR => eS hC (fun s h => zd (ze.l59 zbg.E C Q (s 0) (s 5)) [(.int .i64 0)] h) (eS hC (fun s h => zd (ze.l82 zbg.E C Q (s 0) (s 5)) [(s 6)] h) (e1 hR) (fun s h hR => eK (eL hC [0, 5] [6] (on2 (ze.l82 zbg.E C Q)) hR (fun Y7 s h hR => eS hC (fun s h => B.pv (V.idxS 1 (s 0) (s 6)) fun v51 =>
  B.ld h v51 fun v52 =>
  zd (ze.l69 zbg.E C Q Y7 (s 0) (s 5) (s 6)) [v52, (.int .i64 0)] h) (e1 hR) (fun s h hR => eS hC (fun s h => B.pv (V.bin .add (s 6) (.int .i64 1)) fun v48 =>
  Y7 [v48] h) (eK (eS hC (fun s h => zd (ze.l69 zbg.E C Q Y7 (s 0) (s 5) (s 6)) [(s 7), (.int .i64 0)] h) (e1 hR) (fun s h hR => eS hC (fun s h => B.pv (V.idxS 1 (s 5) (s 6)) fun v72 =>
  B.st h v72 (s 7) fun h =>
  B.pv (V.bin .add (s 6) (.int .i64 1)) fun v48 =>
  Y7 [v48] h) (eS hC (fun s h => zd (ze.l69 zbg.E C Q Y7 (s 0) (s 5) (s 6)) [(s 7), (s 8)] h) (e1 hR) (fun s h hR => eK (eL hC [0, 5, 6] [7, 8] (on3 (ze.l69 zbg.E C Q Y7)) hR (fun Y8 s h hR => e1 hR)))) (fun s h hR => e1 hR)))) (fun s h hR => e1 hR)))))) (fun s h hR => eS hC (fun s h => zd (ze.l40 zbg.E C Q (s 0) (s 5)) [(.int .i64 0)] h) (eS hC (fun s h => zd (ze.l59 zbg.E C Q (s 0) (s 5)) [(s 9)] h) (e1 hR) (fun s h hR => eK (eL hC [0, 5] [9] (on2 (ze.l59 zbg.E C Q)) hR (fun Y5 s h hR => eS hC (fun s h => zd (ze.l49 zbg.E C Q Y5 (s 0) (s 5) (s 9)) [(.int .i64 0)] h) (e1 hR) (fun s h hR => eS hC (fun s h => B.pv (V.bin .add (s 9) (.int .i64 1)) fun v78 =>
  Y5 [v78] h) (eK (eS hC (fun s h => zd (ze.l49 zbg.E C Q Y5 (s 0) (s 5) (s 9)) [(s 10)] h) (e1 hR) (fun s h hR => eK (eL hC [0, 5, 9] [10] (on3 (ze.l49 zbg.E C Q Y5)) hR (fun Y6 s h hR => e1 hR))))) (fun s h hR => e1 hR)))))) (fun s h hR => eS hC (fun s h => zd (ze.l15 zbg.E C Q (s 0) (s 5)) [(.int .i64 0)] h) (eS hC (fun s h => zd (ze.l40 zbg.E C Q (s 0) (s 5)) [(s 11)] h) (e1 hR) (fun s h hR => eK (eL hC [0, 5] [11] (on2 (ze.l40 zbg.E C Q)) hR (fun Y3 s h hR => eS hC (fun s h => 0 < 8 ∧ B.mks h 80 (some [.int .i64 0, .str [], .int .i64 0, .int .i64 0, .int .i64 0, .int .u8 0, .int .i64 0, .str []]) (.int .i64 64) (.int .i64 64) fun v129 h =>
  zd (ze.l26 zbg.E C Q Y3 (s 0) (s 5) (s 11) v129) [(.int .i64 0)] h) (e1 hR) (fun s h hR => eS hC (fun s h => B.pv (V.bin .add (s 11) (.int .i64 1)) fun v128 =>
  Y3 [v128] h) (eK (eS hC (fun s h => zd (ze.l26 zbg.E C Q Y3 (s 0) (s 5) (s 11) (s 12)) [(.int .i64 0)] h) (e1 hR) (fun s h hR => eS hC (fun s h => ze.k22 zbg.E C Q Y3 (s 0) (s 5) (s 11) (s 12) h) (eS hC (fun s h => zd (ze.l26 zbg.E C Q Y3 (s 0) (s 5) (s 11) (s 12)) [(s 13)] h) (e1 hR) (fun s h hR => eK (eL hC [0, 5, 11, 12] [13] (on4 (ze.l26 zbg.E C Q Y3)) hR (fun Y4 s h hR => e1 hR)))) (fun s h hR => e1 hR)))) (fun s h hR => e1 hR)))))) (fun s h hR => eS hC (fun s h => Q (.bool true) h) (eS hC (fun s h => zd (ze.l15 zbg.E C Q (s 0) (s 5)) [(s 14)] h) (e1 hR) (fun s h hR => eK (eL hC [0, 5] [14] (on2 (ze.l15 zbg.E C Q)) hR (fun Y1 s h hR => eS hC (fun s h => zd (ze.l5 zbg.E C Q Y1 (s 0) (s 5) (s 14)) [(.int .i64 0)] h) (e1 hR) (fun s h hR => eS hC (fun s h => B.pv (V.bin .add (s 14) (.int .i64 1)) fun v157 =>
  Y1 [v157] h) (eK (eS hC (fun s h => zd (ze.l5 zbg.E C Q Y1 (s 0) (s 5) (s 14)) [(s 15)] h) (e1 hR) (fun s h hR => eK (eL hC [0, 5, 14] [15] (on3 (ze.l5 zbg.E C Q Y1)) hR (fun Y2 s h hR => e1 hR))))) (fun s h hR => e1 hR)))))) (fun s h hR => e1 hR)))))))
theorem zbg.imp : zbg.Imp (AC P) N := fun v0 h Q hR => eF mixed (fn := Tryz.f59) (fun hC => zbg.L hC (dn Q) (zck [v0]) h hR)
def zbo.I : Bx := ⟨[], [], 193, [(7, pz [(7, [3])] 10), (24, pz [(9, [3, 6]), (30, [24, 27])] 35), (41, pz [(9, [3, 6]), (22, [16, 19])] 26)]⟩
abbrev zbo.E (C : CSem) : z4 := opsD C 11 128 [.int .u8 0, .int .i64 0, .str [], .int .i64 0, .int .i64 0, .int .i64 0, .int .i64 0, .int .i64 0, .int .i64 0, .nils, .nils] (N 112) (N 113)
theorem zbo.L : LkT P zbo.I Tryz.f60 fun C Q s h => zbo.cps C N (s 0) h Q := fun {C} hC Q s h hR =>
 eS hC (fun s h => zd (ze.l103 (zbo.E C) C Q (s 0)) [(.int .i64 0)] h) (e1 hR) (fun s h hR => eS hC (fun s h => B.pv (V.zx (s 0)) fun v41 =>
  0 < 1 ∧ B.mks h 24 (some [.nils]) v41 v41 fun v42 h =>
  zd (ze.l82 (zbo.E C) C Q (s 0) v42) [(.int .i64 0)] h) (eS hC (fun s h => zd (ze.l103 (zbo.E C) C Q (s 0)) [(s 3)] h) (e1 hR) (fun s h hR => eK (eL hC [0] [3] (on1 (ze.l103 (zbo.E C) C Q)) hR (fun Y9 s h hR => eS hC (fun s h => zd (ze.l93 (zbo.E C) C Q Y9 (s 0) (s 3)) [(.int .i64 0)] h) (e1 hR) (fun s h hR => eS hC (fun s h => B.pv (V.bin .add (s 3) (.int .i64 1)) fun v21 =>
  Y9 [v21] h) (eK (eS hC (fun s h => zd (ze.l93 (zbo.E C) C Q Y9 (s 0) (s 3)) [(s 4)] h) (e1 hR) (fun s h hR => eK (eL hC [0, 3] [4] (on2 (ze.l93 (zbo.E C) C Q Y9)) hR (fun Y10 s h hR => e1 hR))))) (fun s h hR => e1 hR)))))) (fun s h hR => eS hC (fun s h => zd (ze.l82 (zbo.E C) C Q (s 0) (s 5)) [(.int .i64 0)] h) (e1 hR) (fun s h hR => eS hC (fun s h => zd (ze.l59 (zbo.E C) C Q (s 0) (s 5)) [(.int .i64 0)] h) (eS hC (fun s h => zd (ze.l82 (zbo.E C) C Q (s 0) (s 5)) [(s 6)] h) (e1 hR) (fun s h hR => eK (eL hC [0, 5] [6] (on2 (ze.l82 (zbo.E C) C Q)) hR (fun Y7 s h hR => eS hC (fun s h => B.pv (V.idxS 1 (s 0) (s 6)) fun v51 =>
  B.ld h v51 fun v52 =>
  zd (ze.l69 (zbo.E C) C Q Y7 (s 0) (s 5) (s 6)) [v52, (.int .i64 0)] h) (e1 hR) (fun s h hR => eS hC (fun s h => B.pv (V.bin .add (s 6) (.int .i64 1)) fun v48 =>
  Y7 [v48] h) (eK (eS hC (fun s h => zd (ze.l69 (zbo.E C) C Q Y7 (s 0) (s 5) (s 6)) [(s 7), (.int .i64 0)] h) (e1 hR) (fun s h hR => eS hC (fun s h => B.pv (V.idxS 1 (s 5) (s 6)) fun v72 =>
  B.st h v72 (s 7) fun h =>
  B.pv (V.bin .add (s 6) (.int .i64 1)) fun v48 =>
  Y7 [v48] h) (eS hC (fun s h => zd (ze.l69 (zbo.E C) C Q Y7 (s 0) (s 5) (s 6)) [(s 7), (s 8)] h) (e1 hR) (fun s h hR => eK (eL hC [0, 5, 6] [7, 8] (on3 (ze.l69 (zbo.E C) C Q Y7)) hR (fun Y8 s h hR => e1 hR)))) (fun s h hR => e1 hR)))) (fun s h hR => e1 hR)))))) (fun s h hR => eS hC (fun s h => zd (ze.l40 (zbo.E C) C Q (s 0) (s 5)) [(.int .i64 0)] h) (eS hC (fun s h => zd (ze.l59 (zbo.E C) C Q (s 0) (s 5)) [(s 9)] h) (e1 hR) (fun s h hR => eK (eL hC [0, 5] [9] (on2 (ze.l59 (zbo.E C) C Q)) hR (fun Y5 s h hR => eS hC (fun s h => zd (ze.l49 (zbo.E C) C Q Y5 (s 0) (s 5) (s 9)) [(.int .i64 0)] h) (e1 hR) (fun s h hR => eS hC (fun s h => B.pv (V.bin .add (s 9) (.int .i64 1)) fun v78 =>
  Y5 [v78] h) (eK (eS hC (fun s h => zd (ze.l49 (zbo.E C) C Q Y5 (s 0) (s 5) (s 9)) [(s 10)] h) (e1 hR) (fun s h hR => eK (eL hC [0, 5, 9] [10] (on3 (ze.l49 (zbo.E C) C Q Y5)) hR (fun Y6 s h hR => e1 hR))))) (fun s h hR => e1 hR)))))) (fun s h hR => eS hC (fun s h => zd (ze.l15 (zbo.E C) C Q (s 0) (s 5)) [(.int .i64 0)] h) (eS hC (fun s h => zd (ze.l40 (zbo.E C) C Q (s 0) (s 5)) [(s 11)] h) (e1 hR) (fun s h hR => eK (eL hC [0, 5] [11] (on2 (ze.l40 (zbo.E C) C Q)) hR (fun Y3 s h hR => eS hC (fun s h => 0 < 11 ∧ B.mks h 128 (some [.int .u8 0, .int .i64 0, .str [], .int .i64 0, .int .i64 0, .int .i64 0, .int .i64 0, .int .i64 0, .int .i64 0, .nils, .nils]) (.int .i64 64) (.int .i64 64) fun v129 h =>
  zd (ze.l26 (zbo.E C) C Q Y3 (s 0) (s 5) (s 11) v129) [(.int .i64 0)] h) (e1 hR) (fun s h hR => eS hC (fun s h => B.pv (V.bin .add (s 11) (.int .i64 1)) fun v128 =>
  Y3 [v128] h) (eK (eS hC (fun s h => zd (ze.l26 (zbo.E C) C Q Y3 (s 0) (s 5) (s 11) (s 12)) [(.int .i64 0)] h) (e1 hR) (fun s h hR => eS hC (fun s h => ze.k22 (zbo.E C) C Q Y3 (s 0) (s 5) (s 11) (s 12) h) (eS hC (fun s h => zd (ze.l26 (zbo.E C) C Q Y3 (s 0) (s 5) (s 11) (s 12)) [(s 13)] h) (e1 hR) (fun s h hR => eK (eL hC [0, 5, 11, 12] [13] (on4 (ze.l26 (zbo.E C) C Q Y3)) hR (fun Y4 s h hR => e1 hR)))) (fun s h hR => e1 hR)))) (fun s h hR => e1 hR)))))) (fun s h hR => eS hC (fun s h => Q (.bool true) h) (eS hC (fun s h => zd (ze.l15 (zbo.E C) C Q (s 0) (s 5)) [(s 14)] h) (e1 hR) (fun s h hR => eK (eL hC [0, 5] [14] (on2 (ze.l15 (zbo.E C) C Q)) hR (fun Y1 s h hR => eS hC (fun s h => zd (ze.l5 (zbo.E C) C Q Y1 (s 0) (s 5) (s 14)) [(.int .i64 0)] h) (e1 hR) (fun s h hR => eS hC (fun s h => B.pv (V.bin .add (s 14) (.int .i64 1)) fun v157 =>
  Y1 [v157] h) (eK (eS hC (fun s h => zd (ze.l5 (zbo.E C) C Q Y1 (s 0) (s 5) (s 14)) [(s 15)] h) (e1 hR) (fun s h hR => eK (eL hC [0, 5, 14] [15] (on3 (ze.l5 (zbo.E C) C Q Y1)) hR (fun Y2 s h hR => e1 hR))))) (fun s h hR => e1 hR)))))) (fun s h hR => e1 hR)))))))
theorem zbo.imp : zbo.Imp (AC P) N := fun v0 h Q hR => eF mixed (fn := Tryz.f60) (fun hC => zbo.L hC (dn Q) (zck [v0]) h hR)
def z8.I : Bx := ⟨[], [], 193, [(7, pz [(7, [3])] 10), (24, pz [(9, [3, 6]), (30, [24, 27])] 35), (41, pz [(9, [3, 6]), (22, [16, 19])] 26)]⟩
abbrev z8.E (C : CSem) : z4 := opsD C 7 96 [.int .i64 0, .int .i64 0, .int .i64 0, .str [], .int .u8 0, .nils, .nils] (N 114) (N 42)
theorem z8.L : LkT P z8.I Tryz.f61 fun C Q s h => z8.cps C N (s 0) h Q := fun {C} hC Q s h hR =>
 eS hC (fun s h => zd (ze.l103 (z8.E C) C Q (s 0)) [(.int .i64 0)] h) (e1 hR) (fun s h hR => eS hC (fun s h => B.pv (V.zx (s 0)) fun v41 =>
  0 < 1 ∧ B.mks h 24 (some [.nils]) v41 v41 fun v42 h =>
  zd (ze.l82 (z8.E C) C Q (s 0) v42) [(.int .i64 0)] h) (eS hC (fun s h => zd (ze.l103 (z8.E C) C Q (s 0)) [(s 3)] h) (e1 hR) (fun s h hR => eK (eL hC [0] [3] (on1 (ze.l103 (z8.E C) C Q)) hR (fun Y9 s h hR => eS hC (fun s h => zd (ze.l93 (z8.E C) C Q Y9 (s 0) (s 3)) [(.int .i64 0)] h) (e1 hR) (fun s h hR => eS hC (fun s h => B.pv (V.bin .add (s 3) (.int .i64 1)) fun v21 =>
  Y9 [v21] h) (eK (eS hC (fun s h => zd (ze.l93 (z8.E C) C Q Y9 (s 0) (s 3)) [(s 4)] h) (e1 hR) (fun s h hR => eK (eL hC [0, 3] [4] (on2 (ze.l93 (z8.E C) C Q Y9)) hR (fun Y10 s h hR => e1 hR))))) (fun s h hR => e1 hR)))))) (fun s h hR => eS hC (fun s h => zd (ze.l82 (z8.E C) C Q (s 0) (s 5)) [(.int .i64 0)] h) (e1 hR) (fun s h hR => eS hC (fun s h => zd (ze.l59 (z8.E C) C Q (s 0) (s 5)) [(.int .i64 0)] h) (eS hC (fun s h => zd (ze.l82 (z8.E C) C Q (s 0) (s 5)) [(s 6)] h) (e1 hR) (fun s h hR => eK (eL hC [0, 5] [6] (on2 (ze.l82 (z8.E C) C Q)) hR (fun Y7 s h hR => eS hC (fun s h => B.pv (V.idxS 1 (s 0) (s 6)) fun v51 =>
  B.ld h v51 fun v52 =>
  zd (ze.l69 (z8.E C) C Q Y7 (s 0) (s 5) (s 6)) [v52, (.int .i64 0)] h) (e1 hR) (fun s h hR => eS hC (fun s h => B.pv (V.bin .add (s 6) (.int .i64 1)) fun v48 =>
  Y7 [v48] h) (eK (eS hC (fun s h => zd (ze.l69 (z8.E C) C Q Y7 (s 0) (s 5) (s 6)) [(s 7), (.int .i64 0)] h) (e1 hR) (fun s h hR => eS hC (fun s h => B.pv (V.idxS 1 (s 5) (s 6)) fun v72 =>
  B.st h v72 (s 7) fun h =>
  B.pv (V.bin .add (s 6) (.int .i64 1)) fun v48 =>
  Y7 [v48] h) (eS hC (fun s h => zd (ze.l69 (z8.E C) C Q Y7 (s 0) (s 5) (s 6)) [(s 7), (s 8)] h) (e1 hR) (fun s h hR => eK (eL hC [0, 5, 6] [7, 8] (on3 (ze.l69 (z8.E C) C Q Y7)) hR (fun Y8 s h hR => e1 hR)))) (fun s h hR => e1 hR)))) (fun s h hR => e1 hR)))))) (fun s h hR => eS hC (fun s h => zd (ze.l40 (z8.E C) C Q (s 0) (s 5)) [(.int .i64 0)] h) (eS hC (fun s h => zd (ze.l59 (z8.E C) C Q (s 0) (s 5)) [(s 9)] h) (e1 hR) (fun s h hR => eK (eL hC [0, 5] [9] (on2 (ze.l59 (z8.E C) C Q)) hR (fun Y5 s h hR => eS hC (fun s h => zd (ze.l49 (z8.E C) C Q Y5 (s 0) (s 5) (s 9)) [(.int .i64 0)] h) (e1 hR) (fun s h hR => eS hC (fun s h => B.pv (V.bin .add (s 9) (.int .i64 1)) fun v78 =>
  Y5 [v78] h) (eK (eS hC (fun s h => zd (ze.l49 (z8.E C) C Q Y5 (s 0) (s 5) (s 9)) [(s 10)] h) (e1 hR) (fun s h hR => eK (eL hC [0, 5, 9] [10] (on3 (ze.l49 (z8.E C) C Q Y5)) hR (fun Y6 s h hR => e1 hR))))) (fun s h hR => e1 hR)))))) (fun s h hR => eS hC (fun s h => zd (ze.l15 (z8.E C) C Q (s 0) (s 5)) [(.int .i64 0)] h) (eS hC (fun s h => zd (ze.l40 (z8.E C) C Q (s 0) (s 5)) [(s 11)] h) (e1 hR) (fun s h hR => eK (eL hC [0, 5] [11] (on2 (ze.l40 (z8.E C) C Q)) hR (fun Y3 s h hR => eS hC (fun s h => 0 < 7 ∧ B.mks h 96 (some [.int .i64 0, .int .i64 0, .int .i64 0, .str [], .int .u8 0, .nils, .nils]) (.int .i64 64) (.int .i64 64) fun v129 h =>
  zd (ze.l26 (z8.E C) C Q Y3 (s 0) (s 5) (s 11) v129) [(.int .i64 0)] h) (e1 hR) (fun s h hR => eS hC (fun s h => B.pv (V.bin .add (s 11) (.int .i64 1)) fun v128 =>
  Y3 [v128] h) (eK (eS hC (fun s h => zd (ze.l26 (z8.E C) C Q Y3 (s 0) (s 5) (s 11) (s 12)) [(.int .i64 0)] h) (e1 hR) (fun s h hR => eS hC (fun s h => ze.k22 (z8.E C) C Q Y3 (s 0) (s 5) (s 11) (s 12) h) (eS hC (fun s h => zd (ze.l26 (z8.E C) C Q Y3 (s 0) (s 5) (s 11) (s 12)) [(s 13)] h) (e1 hR) (fun s h hR => eK (eL hC [0, 5, 11, 12] [13] (on4 (ze.l26 (z8.E C) C Q Y3)) hR (fun Y4 s h hR => e1 hR)))) (fun s h hR => e1 hR)))) (fun s h hR => e1 hR)))))) (fun s h hR => eS hC (fun s h => Q (.bool true) h) (eS hC (fun s h => zd (ze.l15 (z8.E C) C Q (s 0) (s 5)) [(s 14)] h) (e1 hR) (fun s h hR => eK (eL hC [0, 5] [14] (on2 (ze.l15 (z8.E C) C Q)) hR (fun Y1 s h hR => eS hC (fun s h => zd (ze.l5 (z8.E C) C Q Y1 (s 0) (s 5) (s 14)) [(.int .i64 0)] h) (e1 hR) (fun s h hR => eS hC (fun s h => B.pv (V.bin .add (s 14) (.int .i64 1)) fun v157 =>
  Y1 [v157] h) (eK (eS hC (fun s h => zd (ze.l5 (z8.E C) C Q Y1 (s 0) (s 5) (s 14)) [(s 15)] h) (e1 hR) (fun s h hR => eK (eL hC [0, 5, 14] [15] (on3 (ze.l5 (z8.E C) C Q Y1)) hR (fun Y2 s h hR => e1 hR))))) (fun s h hR => e1 hR)))))) (fun s h hR => e1 hR)))))))
theorem z8.imp : z8.Imp (AC P) N := fun v0 h Q hR => eF mixed (fn := Tryz.f61) (fun hC => z8.L hC (dn Q) (zck [v0]) h hR)
def z3.I : Bx := ⟨[], [], 193, [(7, pz [(7, [3])] 10), (24, pz [(9, [3, 6]), (30, [24, 27])] 35), (41, pz [(9, [3, 6]), (22, [16, 19])] 26)]⟩
abbrev z3.E (C : CSem) : z4 := opsD C 6 96 [.int .i64 0, .int .i64 0, .int .i64 0, .nils, .nils, .nils] (N 115) (N 116)
theorem z3.L : LkT P z3.I Tryz.f62 fun C Q s h => z3.cps C N (s 0) h Q := fun {C} hC Q s h hR =>
 eS hC (fun s h => zd (ze.l103 (z3.E C) C Q (s 0)) [(.int .i64 0)] h) (e1 hR) (fun s h hR => eS hC (fun s h => B.pv (V.zx (s 0)) fun v41 =>
  0 < 1 ∧ B.mks h 24 (some [.nils]) v41 v41 fun v42 h =>
  zd (ze.l82 (z3.E C) C Q (s 0) v42) [(.int .i64 0)] h) (eS hC (fun s h => zd (ze.l103 (z3.E C) C Q (s 0)) [(s 3)] h) (e1 hR) (fun s h hR => eK (eL hC [0] [3] (on1 (ze.l103 (z3.E C) C Q)) hR (fun Y9 s h hR => eS hC (fun s h => zd (ze.l93 (z3.E C) C Q Y9 (s 0) (s 3)) [(.int .i64 0)] h) (e1 hR) (fun s h hR => eS hC (fun s h => B.pv (V.bin .add (s 3) (.int .i64 1)) fun v21 =>
  Y9 [v21] h) (eK (eS hC (fun s h => zd (ze.l93 (z3.E C) C Q Y9 (s 0) (s 3)) [(s 4)] h) (e1 hR) (fun s h hR => eK (eL hC [0, 3] [4] (on2 (ze.l93 (z3.E C) C Q Y9)) hR (fun Y10 s h hR => e1 hR))))) (fun s h hR => e1 hR)))))) (fun s h hR => eS hC (fun s h => zd (ze.l82 (z3.E C) C Q (s 0) (s 5)) [(.int .i64 0)] h) (e1 hR) (fun s h hR => eS hC (fun s h => zd (ze.l59 (z3.E C) C Q (s 0) (s 5)) [(.int .i64 0)] h) (eS hC (fun s h => zd (ze.l82 (z3.E C) C Q (s 0) (s 5)) [(s 6)] h) (e1 hR) (fun s h hR => eK (eL hC [0, 5] [6] (on2 (ze.l82 (z3.E C) C Q)) hR (fun Y7 s h hR => eS hC (fun s h => B.pv (V.idxS 1 (s 0) (s 6)) fun v51 =>
  B.ld h v51 fun v52 =>
  zd (ze.l69 (z3.E C) C Q Y7 (s 0) (s 5) (s 6)) [v52, (.int .i64 0)] h) (e1 hR) (fun s h hR => eS hC (fun s h => B.pv (V.bin .add (s 6) (.int .i64 1)) fun v48 =>
  Y7 [v48] h) (eK (eS hC (fun s h => zd (ze.l69 (z3.E C) C Q Y7 (s 0) (s 5) (s 6)) [(s 7), (.int .i64 0)] h) (e1 hR) (fun s h hR => eS hC (fun s h => B.pv (V.idxS 1 (s 5) (s 6)) fun v72 =>
  B.st h v72 (s 7) fun h =>
  B.pv (V.bin .add (s 6) (.int .i64 1)) fun v48 =>
  Y7 [v48] h) (eS hC (fun s h => zd (ze.l69 (z3.E C) C Q Y7 (s 0) (s 5) (s 6)) [(s 7), (s 8)] h) (e1 hR) (fun s h hR => eK (eL hC [0, 5, 6] [7, 8] (on3 (ze.l69 (z3.E C) C Q Y7)) hR (fun Y8 s h hR => e1 hR)))) (fun s h hR => e1 hR)))) (fun s h hR => e1 hR)))))) (fun s h hR => eS hC (fun s h => zd (ze.l40 (z3.E C) C Q (s 0) (s 5)) [(.int .i64 0)] h) (eS hC (fun s h => zd (ze.l59 (z3.E C) C Q (s 0) (s 5)) [(s 9)] h) (e1 hR) (fun s h hR => eK (eL hC [0, 5] [9] (on2 (ze.l59 (z3.E C) C Q)) hR (fun Y5 s h hR => eS hC (fun s h => zd (ze.l49 (z3.E C) C Q Y5 (s 0) (s 5) (s 9)) [(.int .i64 0)] h) (e1 hR) (fun s h hR => eS hC (fun s h => B.pv (V.bin .add (s 9) (.int .i64 1)) fun v78 =>
  Y5 [v78] h) (eK (eS hC (fun s h => zd (ze.l49 (z3.E C) C Q Y5 (s 0) (s 5) (s 9)) [(s 10)] h) (e1 hR) (fun s h hR => eK (eL hC [0, 5, 9] [10] (on3 (ze.l49 (z3.E C) C Q Y5)) hR (fun Y6 s h hR => e1 hR))))) (fun s h hR => e1 hR)))))) (fun s h hR => eS hC (fun s h => zd (ze.l15 (z3.E C) C Q (s 0) (s 5)) [(.int .i64 0)] h) (eS hC (fun s h => zd (ze.l40 (z3.E C) C Q (s 0) (s 5)) [(s 11)] h) (e1 hR) (fun s h hR => eK (eL hC [0, 5] [11] (on2 (ze.l40 (z3.E C) C Q)) hR (fun Y3 s h hR => eS hC (fun s h => 0 < 6 ∧ B.mks h 96 (some [.int .i64 0, .int .i64 0, .int .i64 0, .nils, .nils, .nils]) (.int .i64 64) (.int .i64 64) fun v129 h =>
  zd (ze.l26 (z3.E C) C Q Y3 (s 0) (s 5) (s 11) v129) [(.int .i64 0)] h) (e1 hR) (fun s h hR => eS hC (fun s h => B.pv (V.bin .add (s 11) (.int .i64 1)) fun v128 =>
  Y3 [v128] h) (eK (eS hC (fun s h => zd (ze.l26 (z3.E C) C Q Y3 (s 0) (s 5) (s 11) (s 12)) [(.int .i64 0)] h) (e1 hR) (fun s h hR => eS hC (fun s h => ze.k22 (z3.E C) C Q Y3 (s 0) (s 5) (s 11) (s 12) h) (eS hC (fun s h => zd (ze.l26 (z3.E C) C Q Y3 (s 0) (s 5) (s 11) (s 12)) [(s 13)] h) (e1 hR) (fun s h hR => eK (eL hC [0, 5, 11, 12] [13] (on4 (ze.l26 (z3.E C) C Q Y3)) hR (fun Y4 s h hR => e1 hR)))) (fun s h hR => e1 hR)))) (fun s h hR => e1 hR)))))) (fun s h hR => eS hC (fun s h => Q (.bool true) h) (eS hC (fun s h => zd (ze.l15 (z3.E C) C Q (s 0) (s 5)) [(s 14)] h) (e1 hR) (fun s h hR => eK (eL hC [0, 5] [14] (on2 (ze.l15 (z3.E C) C Q)) hR (fun Y1 s h hR => eS hC (fun s h => zd (ze.l5 (z3.E C) C Q Y1 (s 0) (s 5) (s 14)) [(.int .i64 0)] h) (e1 hR) (fun s h hR => eS hC (fun s h => B.pv (V.bin .add (s 14) (.int .i64 1)) fun v157 =>
  Y1 [v157] h) (eK (eS hC (fun s h => zd (ze.l5 (z3.E C) C Q Y1 (s 0) (s 5) (s 14)) [(s 15)] h) (e1 hR) (fun s h hR => eK (eL hC [0, 5, 14] [15] (on3 (ze.l5 (z3.E C) C Q Y1)) hR (fun Y2 s h hR => e1 hR))))) (fun s h hR => e1 hR)))))) (fun s h hR => e1 hR)))))))
theorem z3.imp : z3.Imp (AC P) N := fun v0 h Q hR => eF mixed (fn := Tryz.f62) (fun hC => z3.L hC (dn Q) (zck [v0]) h hR)
def zbn.I : Bx := ⟨[], [], 193, [(7, pz [(7, [3])] 10), (24, pz [(9, [3, 6]), (30, [24, 27])] 35), (41, pz [(9, [3, 6]), (22, [16, 19])] 26)]⟩
abbrev zbn.E (C : CSem) : z4 := opsD C 2 48 [.nils, .nils] (N 117) (N 118)
theorem zbn.L : LkT P zbn.I Tryz.f63 fun C Q s h => zbn.cps C N (s 0) h Q := fun {C} hC Q s h hR =>
 eS hC (fun s h => zd (ze.l103 (zbn.E C) C Q (s 0)) [(.int .i64 0)] h) (e1 hR) (fun s h hR => eS hC (fun s h => B.pv (V.zx (s 0)) fun v41 =>
  0 < 1 ∧ B.mks h 24 (some [.nils]) v41 v41 fun v42 h =>
  zd (ze.l82 (zbn.E C) C Q (s 0) v42) [(.int .i64 0)] h) (eS hC (fun s h => zd (ze.l103 (zbn.E C) C Q (s 0)) [(s 3)] h) (e1 hR) (fun s h hR => eK (eL hC [0] [3] (on1 (ze.l103 (zbn.E C) C Q)) hR (fun Y9 s h hR => eS hC (fun s h => zd (ze.l93 (zbn.E C) C Q Y9 (s 0) (s 3)) [(.int .i64 0)] h) (e1 hR) (fun s h hR => eS hC (fun s h => B.pv (V.bin .add (s 3) (.int .i64 1)) fun v21 =>
  Y9 [v21] h) (eK (eS hC (fun s h => zd (ze.l93 (zbn.E C) C Q Y9 (s 0) (s 3)) [(s 4)] h) (e1 hR) (fun s h hR => eK (eL hC [0, 3] [4] (on2 (ze.l93 (zbn.E C) C Q Y9)) hR (fun Y10 s h hR => e1 hR))))) (fun s h hR => e1 hR)))))) (fun s h hR => eS hC (fun s h => zd (ze.l82 (zbn.E C) C Q (s 0) (s 5)) [(.int .i64 0)] h) (e1 hR) (fun s h hR => eS hC (fun s h => zd (ze.l59 (zbn.E C) C Q (s 0) (s 5)) [(.int .i64 0)] h) (eS hC (fun s h => zd (ze.l82 (zbn.E C) C Q (s 0) (s 5)) [(s 6)] h) (e1 hR) (fun s h hR => eK (eL hC [0, 5] [6] (on2 (ze.l82 (zbn.E C) C Q)) hR (fun Y7 s h hR => eS hC (fun s h => B.pv (V.idxS 1 (s 0) (s 6)) fun v51 =>
  B.ld h v51 fun v52 =>
  zd (ze.l69 (zbn.E C) C Q Y7 (s 0) (s 5) (s 6)) [v52, (.int .i64 0)] h) (e1 hR) (fun s h hR => eS hC (fun s h => B.pv (V.bin .add (s 6) (.int .i64 1)) fun v48 =>
  Y7 [v48] h) (eK (eS hC (fun s h => zd (ze.l69 (zbn.E C) C Q Y7 (s 0) (s 5) (s 6)) [(s 7), (.int .i64 0)] h) (e1 hR) (fun s h hR => eS hC (fun s h => B.pv (V.idxS 1 (s 5) (s 6)) fun v72 =>
  B.st h v72 (s 7) fun h =>
  B.pv (V.bin .add (s 6) (.int .i64 1)) fun v48 =>
  Y7 [v48] h) (eS hC (fun s h => zd (ze.l69 (zbn.E C) C Q Y7 (s 0) (s 5) (s 6)) [(s 7), (s 8)] h) (e1 hR) (fun s h hR => eK (eL hC [0, 5, 6] [7, 8] (on3 (ze.l69 (zbn.E C) C Q Y7)) hR (fun Y8 s h hR => e1 hR)))) (fun s h hR => e1 hR)))) (fun s h hR => e1 hR)))))) (fun s h hR => eS hC (fun s h => zd (ze.l40 (zbn.E C) C Q (s 0) (s 5)) [(.int .i64 0)] h) (eS hC (fun s h => zd (ze.l59 (zbn.E C) C Q (s 0) (s 5)) [(s 9)] h) (e1 hR) (fun s h hR => eK (eL hC [0, 5] [9] (on2 (ze.l59 (zbn.E C) C Q)) hR (fun Y5 s h hR => eS hC (fun s h => zd (ze.l49 (zbn.E C) C Q Y5 (s 0) (s 5) (s 9)) [(.int .i64 0)] h) (e1 hR) (fun s h hR => eS hC (fun s h => B.pv (V.bin .add (s 9) (.int .i64 1)) fun v78 =>
  Y5 [v78] h) (eK (eS hC (fun s h => zd (ze.l49 (zbn.E C) C Q Y5 (s 0) (s 5) (s 9)) [(s 10)] h) (e1 hR) (fun s h hR => eK (eL hC [0, 5, 9] [10] (on3 (ze.l49 (zbn.E C) C Q Y5)) hR (fun Y6 s h hR => e1 hR))))) (fun s h hR => e1 hR)))))) (fun s h hR => eS hC (fun s h => zd (ze.l15 (zbn.E C) C Q (s 0) (s 5)) [(.int .i64 0)] h) (eS hC (fun s h => zd (ze.l40 (zbn.E C) C Q (s 0) (s 5)) [(s 11)] h) (e1 hR) (fun s h hR => eK (eL hC [0, 5] [11] (on2 (ze.l40 (zbn.E C) C Q)) hR (fun Y3 s h hR => eS hC (fun s h => 0 < 2 ∧ B.mks h 48 (some [.nils, .nils]) (.int .i64 64) (.int .i64 64) fun v129 h =>
  zd (ze.l26 (zbn.E C) C Q Y3 (s 0) (s 5) (s 11) v129) [(.int .i64 0)] h) (e1 hR) (fun s h hR => eS hC (fun s h => B.pv (V.bin .add (s 11) (.int .i64 1)) fun v128 =>
  Y3 [v128] h) (eK (eS hC (fun s h => zd (ze.l26 (zbn.E C) C Q Y3 (s 0) (s 5) (s 11) (s 12)) [(.int .i64 0)] h) (e1 hR) (fun s h hR => eS hC (fun s h => ze.k22 (zbn.E C) C Q Y3 (s 0) (s 5) (s 11) (s 12) h) (eS hC (fun s h => zd (ze.l26 (zbn.E C) C Q Y3 (s 0) (s 5) (s 11) (s 12)) [(s 13)] h) (e1 hR) (fun s h hR => eK (eL hC [0, 5, 11, 12] [13] (on4 (ze.l26 (zbn.E C) C Q Y3)) hR (fun Y4 s h hR => e1 hR)))) (fun s h hR => e1 hR)))) (fun s h hR => e1 hR)))))) (fun s h hR => eS hC (fun s h => Q (.bool true) h) (eS hC (fun s h => zd (ze.l15 (zbn.E C) C Q (s 0) (s 5)) [(s 14)] h) (e1 hR) (fun s h hR => eK (eL hC [0, 5] [14] (on2 (ze.l15 (zbn.E C) C Q)) hR (fun Y1 s h hR => eS hC (fun s h => zd (ze.l5 (zbn.E C) C Q Y1 (s 0) (s 5) (s 14)) [(.int .i64 0)] h) (e1 hR) (fun s h hR => eS hC (fun s h => B.pv (V.bin .add (s 14) (.int .i64 1)) fun v157 =>
  Y1 [v157] h) (eK (eS hC (fun s h => zd (ze.l5 (zbn.E C) C Q Y1 (s 0) (s 5) (s 14)) [(s 15)] h) (e1 hR) (fun s h hR => eK (eL hC [0, 5, 14] [15] (on3 (ze.l5 (zbn.E C) C Q Y1)) hR (fun Y2 s h hR => e1 hR))))) (fun s h hR => e1 hR)))))) (fun s h hR => e1 hR)))))))
theorem zbn.imp : zbn.Imp (AC P) N := fun v0 h Q hR => eF mixed (fn := Tryz.f63) (fun hC => zbn.L hC (dn Q) (zck [v0]) h hR)
def z7.I : Bx := ⟨[], [], 193, [(7, pz [(7, [3])] 10), (24, pz [(9, [3, 6]), (30, [24, 27])] 35), (41, pz [(9, [3, 6]), (22, [16, 19])] 26)]⟩
abbrev z7.E (C : CSem) : z4 := opsD C 3 72 [.nils, .nils, .nils] (N 119) (N 120)
theorem z7.L : LkT P z7.I Tryz.f64 fun C Q s h => z7.cps C N (s 0) h Q := fun {C} hC Q s h hR =>
 eS hC (fun s h => zd (ze.l103 (z7.E C) C Q (s 0)) [(.int .i64 0)] h) (e1 hR) (fun s h hR => eS hC (fun s h => B.pv (V.zx (s 0)) fun v41 =>
  0 < 1 ∧ B.mks h 24 (some [.nils]) v41 v41 fun v42 h =>
  zd (ze.l82 (z7.E C) C Q (s 0) v42) [(.int .i64 0)] h) (eS hC (fun s h => zd (ze.l103 (z7.E C) C Q (s 0)) [(s 3)] h) (e1 hR) (fun s h hR => eK (eL hC [0] [3] (on1 (ze.l103 (z7.E C) C Q)) hR (fun Y9 s h hR => eS hC (fun s h => zd (ze.l93 (z7.E C) C Q Y9 (s 0) (s 3)) [(.int .i64 0)] h) (e1 hR) (fun s h hR => eS hC (fun s h => B.pv (V.bin .add (s 3) (.int .i64 1)) fun v21 =>
  Y9 [v21] h) (eK (eS hC (fun s h => zd (ze.l93 (z7.E C) C Q Y9 (s 0) (s 3)) [(s 4)] h) (e1 hR) (fun s h hR => eK (eL hC [0, 3] [4] (on2 (ze.l93 (z7.E C) C Q Y9)) hR (fun Y10 s h hR => e1 hR))))) (fun s h hR => e1 hR)))))) (fun s h hR => eS hC (fun s h => zd (ze.l82 (z7.E C) C Q (s 0) (s 5)) [(.int .i64 0)] h) (e1 hR) (fun s h hR => eS hC (fun s h => zd (ze.l59 (z7.E C) C Q (s 0) (s 5)) [(.int .i64 0)] h) (eS hC (fun s h => zd (ze.l82 (z7.E C) C Q (s 0) (s 5)) [(s 6)] h) (e1 hR) (fun s h hR => eK (eL hC [0, 5] [6] (on2 (ze.l82 (z7.E C) C Q)) hR (fun Y7 s h hR => eS hC (fun s h => B.pv (V.idxS 1 (s 0) (s 6)) fun v51 =>
  B.ld h v51 fun v52 =>
  zd (ze.l69 (z7.E C) C Q Y7 (s 0) (s 5) (s 6)) [v52, (.int .i64 0)] h) (e1 hR) (fun s h hR => eS hC (fun s h => B.pv (V.bin .add (s 6) (.int .i64 1)) fun v48 =>
  Y7 [v48] h) (eK (eS hC (fun s h => zd (ze.l69 (z7.E C) C Q Y7 (s 0) (s 5) (s 6)) [(s 7), (.int .i64 0)] h) (e1 hR) (fun s h hR => eS hC (fun s h => B.pv (V.idxS 1 (s 5) (s 6)) fun v72 =>
  B.st h v72 (s 7) fun h =>
  B.pv (V.bin .add (s 6) (.int .i64 1)) fun v48 =>
  Y7 [v48] h) (eS hC (fun s h => zd (ze.l69 (z7.E C) C Q Y7 (s 0) (s 5) (s 6)) [(s 7), (s 8)] h) (e1 hR) (fun s h hR => eK (eL hC [0, 5, 6] [7, 8] (on3 (ze.l69 (z7.E C) C Q Y7)) hR (fun Y8 s h hR => e1 hR)))) (fun s h hR => e1 hR)))) (fun s h hR => e1 hR)))))) (fun s h hR => eS hC (fun s h => zd (ze.l40 (z7.E C) C Q (s 0) (s 5)) [(.int .i64 0)] h) (eS hC (fun s h => zd (ze.l59 (z7.E C) C Q (s 0) (s 5)) [(s 9)] h) (e1 hR) (fun s h hR => eK (eL hC [0, 5] [9] (on2 (ze.l59 (z7.E C) C Q)) hR (fun Y5 s h hR => eS hC (fun s h => zd (ze.l49 (z7.E C) C Q Y5 (s 0) (s 5) (s 9)) [(.int .i64 0)] h) (e1 hR) (fun s h hR => eS hC (fun s h => B.pv (V.bin .add (s 9) (.int .i64 1)) fun v78 =>
  Y5 [v78] h) (eK (eS hC (fun s h => zd (ze.l49 (z7.E C) C Q Y5 (s 0) (s 5) (s 9)) [(s 10)] h) (e1 hR) (fun s h hR => eK (eL hC [0, 5, 9] [10] (on3 (ze.l49 (z7.E C) C Q Y5)) hR (fun Y6 s h hR => e1 hR))))) (fun s h hR => e1 hR)))))) (fun s h hR => eS hC (fun s h => zd (ze.l15 (z7.E C) C Q (s 0) (s 5)) [(.int .i64 0)] h) (eS hC (fun s h => zd (ze.l40 (z7.E C) C Q (s 0) (s 5)) [(s 11)] h) (e1 hR) (fun s h hR => eK (eL hC [0, 5] [11] (on2 (ze.l40 (z7.E C) C Q)) hR (fun Y3 s h hR => eS hC (fun s h => 0 < 3 ∧ B.mks h 72 (some [.nils, .nils, .nils]) (.int .i64 64) (.int .i64 64) fun v129 h =>
  zd (ze.l26 (z7.E C) C Q Y3 (s 0) (s 5) (s 11) v129) [(.int .i64 0)] h) (e1 hR) (fun s h hR => eS hC (fun s h => B.pv (V.bin .add (s 11) (.int .i64 1)) fun v128 =>
  Y3 [v128] h) (eK (eS hC (fun s h => zd (ze.l26 (z7.E C) C Q Y3 (s 0) (s 5) (s 11) (s 12)) [(.int .i64 0)] h) (e1 hR) (fun s h hR => eS hC (fun s h => ze.k22 (z7.E C) C Q Y3 (s 0) (s 5) (s 11) (s 12) h) (eS hC (fun s h => zd (ze.l26 (z7.E C) C Q Y3 (s 0) (s 5) (s 11) (s 12)) [(s 13)] h) (e1 hR) (fun s h hR => eK (eL hC [0, 5, 11, 12] [13] (on4 (ze.l26 (z7.E C) C Q Y3)) hR (fun Y4 s h hR => e1 hR)))) (fun s h hR => e1 hR)))) (fun s h hR => e1 hR)))))) (fun s h hR => eS hC (fun s h => Q (.bool true) h) (eS hC (fun s h => zd (ze.l15 (z7.E C) C Q (s 0) (s 5)) [(s 14)] h) (e1 hR) (fun s h hR => eK (eL hC [0, 5] [14] (on2 (ze.l15 (z7.E C) C Q)) hR (fun Y1 s h hR => eS hC (fun s h => zd (ze.l5 (z7.E C) C Q Y1 (s 0) (s 5) (s 14)) [(.int .i64 0)] h) (e1 hR) (fun s h hR => eS hC (fun s h => B.pv (V.bin .add (s 14) (.int .i64 1)) fun v157 =>
  Y1 [v157] h) (eK (eS hC (fun s h => zd (ze.l5 (z7.E C) C Q Y1 (s 0) (s 5) (s 14)) [(s 15)] h) (e1 hR) (fun s h hR => eK (eL hC [0, 5, 14] [15] (on3 (ze.l5 (z7.E C) C Q Y1)) hR (fun Y2 s h hR => e1 hR))))) (fun s h hR => e1 hR)))))) (fun s h hR => e1 hR)))))))
theorem z7.imp : z7.Imp (AC P) N := fun v0 h Q hR => eF mixed (fn := Tryz.f64) (fun hC => z7.L hC (dn Q) (zck [v0]) h hR)
def zbd.I : Bx := ⟨[], [], 193, [(7, pz [(7, [3])] 10), (24, pz [(9, [3, 6]), (30, [24, 27])] 35), (41, pz [(9, [3, 6]), (22, [16, 19])] 26)]⟩
abbrev zbd.E : z4 := opsF 1 8 [.int .i64 0] (N 121) [.i .i64]
theorem zbd.L : LkT P zbd.I Tryz.f65 fun C Q s h => zbd.cps C N (s 0) h Q := fun {C} hC Q s h hR =>
 eS hC (fun s h => zd (ze.l103 zbd.E C Q (s 0)) [(.int .i64 0)] h) (e1 hR) (fun s h hR => eS hC (fun s h => B.pv (V.zx (s 0)) fun v41 =>
  0 < 1 ∧ B.mks h 24 (some [.nils]) v41 v41 fun v42 h =>
  zd (ze.l82 zbd.E C Q (s 0) v42) [(.int .i64 0)] h) (eS hC (fun s h => zd (ze.l103 zbd.E C Q (s 0)) [(s 3)] h) (e1 hR) (fun s h hR => eK (eL hC [0] [3] (on1 (ze.l103 zbd.E C Q)) hR (fun Y9 s h hR => eS hC (fun s h => zd (ze.l93 zbd.E C Q Y9 (s 0) (s 3)) [(.int .i64 0)] h) (e1 hR) (fun s h hR => eS hC (fun s h => B.pv (V.bin .add (s 3) (.int .i64 1)) fun v21 =>
  Y9 [v21] h) (eK (eS hC (fun s h => zd (ze.l93 zbd.E C Q Y9 (s 0) (s 3)) [(s 4)] h) (e1 hR) (fun s h hR => eK (eL hC [0, 3] [4] (on2 (ze.l93 zbd.E C Q Y9)) hR (fun Y10 s h hR => e1 hR))))) (fun s h hR => e1 hR)))))) (fun s h hR => eS hC (fun s h => zd (ze.l82 zbd.E C Q (s 0) (s 5)) [(.int .i64 0)] h) (e1 hR) (fun s h hR => eS hC (fun s h => zd (ze.l59 zbd.E C Q (s 0) (s 5)) [(.int .i64 0)] h) (eS hC (fun s h => zd (ze.l82 zbd.E C Q (s 0) (s 5)) [(s 6)] h) (e1 hR) (fun s h hR => eK (eL hC [0, 5] [6] (on2 (ze.l82 zbd.E C Q)) hR (fun Y7 s h hR => eS hC (fun s h => B.pv (V.idxS 1 (s 0) (s 6)) fun v51 =>
  B.ld h v51 fun v52 =>
  zd (ze.l69 zbd.E C Q Y7 (s 0) (s 5) (s 6)) [v52, (.int .i64 0)] h) (e1 hR) (fun s h hR => eS hC (fun s h => B.pv (V.bin .add (s 6) (.int .i64 1)) fun v48 =>
  Y7 [v48] h) (eK (eS hC (fun s h => zd (ze.l69 zbd.E C Q Y7 (s 0) (s 5) (s 6)) [(s 7), (.int .i64 0)] h) (e1 hR) (fun s h hR => eS hC (fun s h => B.pv (V.idxS 1 (s 5) (s 6)) fun v72 =>
  B.st h v72 (s 7) fun h =>
  B.pv (V.bin .add (s 6) (.int .i64 1)) fun v48 =>
  Y7 [v48] h) (eS hC (fun s h => zd (ze.l69 zbd.E C Q Y7 (s 0) (s 5) (s 6)) [(s 7), (s 8)] h) (e1 hR) (fun s h hR => eK (eL hC [0, 5, 6] [7, 8] (on3 (ze.l69 zbd.E C Q Y7)) hR (fun Y8 s h hR => e1 hR)))) (fun s h hR => e1 hR)))) (fun s h hR => e1 hR)))))) (fun s h hR => eS hC (fun s h => zd (ze.l40 zbd.E C Q (s 0) (s 5)) [(.int .i64 0)] h) (eS hC (fun s h => zd (ze.l59 zbd.E C Q (s 0) (s 5)) [(s 9)] h) (e1 hR) (fun s h hR => eK (eL hC [0, 5] [9] (on2 (ze.l59 zbd.E C Q)) hR (fun Y5 s h hR => eS hC (fun s h => zd (ze.l49 zbd.E C Q Y5 (s 0) (s 5) (s 9)) [(.int .i64 0)] h) (e1 hR) (fun s h hR => eS hC (fun s h => B.pv (V.bin .add (s 9) (.int .i64 1)) fun v78 =>
  Y5 [v78] h) (eK (eS hC (fun s h => zd (ze.l49 zbd.E C Q Y5 (s 0) (s 5) (s 9)) [(s 10)] h) (e1 hR) (fun s h hR => eK (eL hC [0, 5, 9] [10] (on3 (ze.l49 zbd.E C Q Y5)) hR (fun Y6 s h hR => e1 hR))))) (fun s h hR => e1 hR)))))) (fun s h hR => eS hC (fun s h => zd (ze.l15 zbd.E C Q (s 0) (s 5)) [(.int .i64 0)] h) (eS hC (fun s h => zd (ze.l40 zbd.E C Q (s 0) (s 5)) [(s 11)] h) (e1 hR) (fun s h hR => eK (eL hC [0, 5] [11] (on2 (ze.l40 zbd.E C Q)) hR (fun Y3 s h hR => eS hC (fun s h => 0 < 1 ∧ B.mks h 8 (some [.int .i64 0]) (.int .i64 64) (.int .i64 64) fun v129 h =>
  zd (ze.l26 zbd.E C Q Y3 (s 0) (s 5) (s 11) v129) [(.int .i64 0)] h) (e1 hR) (fun s h hR => eS hC (fun s h => B.pv (V.bin .add (s 11) (.int .i64 1)) fun v128 =>
  Y3 [v128] h) (eK (eS hC (fun s h => zd (ze.l26 zbd.E C Q Y3 (s 0) (s 5) (s 11) (s 12)) [(.int .i64 0)] h) (e1 hR) (fun s h hR => eS hC (fun s h => ze.k22 zbd.E C Q Y3 (s 0) (s 5) (s 11) (s 12) h) (eS hC (fun s h => zd (ze.l26 zbd.E C Q Y3 (s 0) (s 5) (s 11) (s 12)) [(s 13)] h) (e1 hR) (fun s h hR => eK (eL hC [0, 5, 11, 12] [13] (on4 (ze.l26 zbd.E C Q Y3)) hR (fun Y4 s h hR => e1 hR)))) (fun s h hR => e1 hR)))) (fun s h hR => e1 hR)))))) (fun s h hR => eS hC (fun s h => Q (.bool true) h) (eS hC (fun s h => zd (ze.l15 zbd.E C Q (s 0) (s 5)) [(s 14)] h) (e1 hR) (fun s h hR => eK (eL hC [0, 5] [14] (on2 (ze.l15 zbd.E C Q)) hR (fun Y1 s h hR => eS hC (fun s h => zd (ze.l5 zbd.E C Q Y1 (s 0) (s 5) (s 14)) [(.int .i64 0)] h) (e1 hR) (fun s h hR => eS hC (fun s h => B.pv (V.bin .add (s 14) (.int .i64 1)) fun v157 =>
  Y1 [v157] h) (eK (eS hC (fun s h => zd (ze.l5 zbd.E C Q Y1 (s 0) (s 5) (s 14)) [(s 15)] h) (e1 hR) (fun s h hR => eK (eL hC [0, 5, 14] [15] (on3 (ze.l5 zbd.E C Q Y1)) hR (fun Y2 s h hR => e1 hR))))) (fun s h hR => e1 hR)))))) (fun s h hR => e1 hR)))))))
theorem zbd.imp : zbd.Imp (AC P) N := fun v0 h Q hR => eF mixed (fn := Tryz.f65) (fun hC => zbd.L hC (dn Q) (zck [v0]) h hR)
def zw.I : Bx := ⟨[], [], 193, [(7, pz [(7, [3])] 10), (24, pz [(9, [3, 6]), (30, [24, 27])] 35), (41, pz [(9, [3, 6]), (22, [16, 19])] 26)]⟩
abbrev zw.E : z4 := opsF 2 16 [.int .i64 0, .int .i64 0] (N 122) [.i .i64, .i .i64]
theorem zw.L : LkT P zw.I Tryz.f66 fun C Q s h => zw.cps C N (s 0) h Q := fun {C} hC Q s h hR =>
 eS hC (fun s h => zd (ze.l103 zw.E C Q (s 0)) [(.int .i64 0)] h) (e1 hR) (fun s h hR => eS hC (fun s h => B.pv (V.zx (s 0)) fun v41 =>
  0 < 1 ∧ B.mks h 24 (some [.nils]) v41 v41 fun v42 h =>
  zd (ze.l82 zw.E C Q (s 0) v42) [(.int .i64 0)] h) (eS hC (fun s h => zd (ze.l103 zw.E C Q (s 0)) [(s 3)] h) (e1 hR) (fun s h hR => eK (eL hC [0] [3] (on1 (ze.l103 zw.E C Q)) hR (fun Y9 s h hR => eS hC (fun s h => zd (ze.l93 zw.E C Q Y9 (s 0) (s 3)) [(.int .i64 0)] h) (e1 hR) (fun s h hR => eS hC (fun s h => B.pv (V.bin .add (s 3) (.int .i64 1)) fun v21 =>
  Y9 [v21] h) (eK (eS hC (fun s h => zd (ze.l93 zw.E C Q Y9 (s 0) (s 3)) [(s 4)] h) (e1 hR) (fun s h hR => eK (eL hC [0, 3] [4] (on2 (ze.l93 zw.E C Q Y9)) hR (fun Y10 s h hR => e1 hR))))) (fun s h hR => e1 hR)))))) (fun s h hR => eS hC (fun s h => zd (ze.l82 zw.E C Q (s 0) (s 5)) [(.int .i64 0)] h) (e1 hR) (fun s h hR => eS hC (fun s h => zd (ze.l59 zw.E C Q (s 0) (s 5)) [(.int .i64 0)] h) (eS hC (fun s h => zd (ze.l82 zw.E C Q (s 0) (s 5)) [(s 6)] h) (e1 hR) (fun s h hR => eK (eL hC [0, 5] [6] (on2 (ze.l82 zw.E C Q)) hR (fun Y7 s h hR => eS hC (fun s h => B.pv (V.idxS 1 (s 0) (s 6)) fun v51 =>
  B.ld h v51 fun v52 =>
  zd (ze.l69 zw.E C Q Y7 (s 0) (s 5) (s 6)) [v52, (.int .i64 0)] h) (e1 hR) (fun s h hR => eS hC (fun s h => B.pv (V.bin .add (s 6) (.int .i64 1)) fun v48 =>
  Y7 [v48] h) (eK (eS hC (fun s h => zd (ze.l69 zw.E C Q Y7 (s 0) (s 5) (s 6)) [(s 7), (.int .i64 0)] h) (e1 hR) (fun s h hR => eS hC (fun s h => B.pv (V.idxS 1 (s 5) (s 6)) fun v72 =>
  B.st h v72 (s 7) fun h =>
  B.pv (V.bin .add (s 6) (.int .i64 1)) fun v48 =>
  Y7 [v48] h) (eS hC (fun s h => zd (ze.l69 zw.E C Q Y7 (s 0) (s 5) (s 6)) [(s 7), (s 8)] h) (e1 hR) (fun s h hR => eK (eL hC [0, 5, 6] [7, 8] (on3 (ze.l69 zw.E C Q Y7)) hR (fun Y8 s h hR => e1 hR)))) (fun s h hR => e1 hR)))) (fun s h hR => e1 hR)))))) (fun s h hR => eS hC (fun s h => zd (ze.l40 zw.E C Q (s 0) (s 5)) [(.int .i64 0)] h) (eS hC (fun s h => zd (ze.l59 zw.E C Q (s 0) (s 5)) [(s 9)] h) (e1 hR) (fun s h hR => eK (eL hC [0, 5] [9] (on2 (ze.l59 zw.E C Q)) hR (fun Y5 s h hR => eS hC (fun s h => zd (ze.l49 zw.E C Q Y5 (s 0) (s 5) (s 9)) [(.int .i64 0)] h) (e1 hR) (fun s h hR => eS hC (fun s h => B.pv (V.bin .add (s 9) (.int .i64 1)) fun v78 =>
  Y5 [v78] h) (eK (eS hC (fun s h => zd (ze.l49 zw.E C Q Y5 (s 0) (s 5) (s 9)) [(s 10)] h) (e1 hR) (fun s h hR => eK (eL hC [0, 5, 9] [10] (on3 (ze.l49 zw.E C Q Y5)) hR (fun Y6 s h hR => e1 hR))))) (fun s h hR => e1 hR)))))) (fun s h hR => eS hC (fun s h => zd (ze.l15 zw.E C Q (s 0) (s 5)) [(.int .i64 0)] h) (eS hC (fun s h => zd (ze.l40 zw.E C Q (s 0) (s 5)) [(s 11)] h) (e1 hR) (fun s h hR => eK (eL hC [0, 5] [11] (on2 (ze.l40 zw.E C Q)) hR (fun Y3 s h hR => eS hC (fun s h => 0 < 2 ∧ B.mks h 16 (some [.int .i64 0, .int .i64 0]) (.int .i64 64) (.int .i64 64) fun v129 h =>
  zd (ze.l26 zw.E C Q Y3 (s 0) (s 5) (s 11) v129) [(.int .i64 0)] h) (e1 hR) (fun s h hR => eS hC (fun s h => B.pv (V.bin .add (s 11) (.int .i64 1)) fun v128 =>
  Y3 [v128] h) (eK (eS hC (fun s h => zd (ze.l26 zw.E C Q Y3 (s 0) (s 5) (s 11) (s 12)) [(.int .i64 0)] h) (e1 hR) (fun s h hR => eS hC (fun s h => ze.k22 zw.E C Q Y3 (s 0) (s 5) (s 11) (s 12) h) (eS hC (fun s h => zd (ze.l26 zw.E C Q Y3 (s 0) (s 5) (s 11) (s 12)) [(s 13)] h) (e1 hR) (fun s h hR => eK (eL hC [0, 5, 11, 12] [13] (on4 (ze.l26 zw.E C Q Y3)) hR (fun Y4 s h hR => e1 hR)))) (fun s h hR => e1 hR)))) (fun s h hR => e1 hR)))))) (fun s h hR => eS hC (fun s h => Q (.bool true) h) (eS hC (fun s h => zd (ze.l15 zw.E C Q (s 0) (s 5)) [(s 14)] h) (e1 hR) (fun s h hR => eK (eL hC [0, 5] [14] (on2 (ze.l15 zw.E C Q)) hR (fun Y1 s h hR => eS hC (fun s h => zd (ze.l5 zw.E C Q Y1 (s 0) (s 5) (s 14)) [(.int .i64 0)] h) (e1 hR) (fun s h hR => eS hC (fun s h => B.pv (V.bin .add (s 14) (.int .i64 1)) fun v157 =>
  Y1 [v157] h) (eK (eS hC (fun s h => zd (ze.l5 zw.E C Q Y1 (s 0) (s 5) (s 14)) [(s 15)] h) (e1 hR) (fun s h hR => eK (eL hC [0, 5, 14] [15] (on3 (ze.l5 zw.E C Q Y1)) hR (fun Y2 s h hR => e1 hR))))) (fun s h hR => e1 hR)))))) (fun s h hR => e1 hR)))))))
theorem zw.imp : zw.Imp (AC P) N := fun v0 h Q hR => eF mixed (fn := Tryz.f66) (fun hC => zw.L hC (dn Q) (zck [v0]) h hR)
def zbb.I : Bx := ⟨[], [], 193, [(7, pz [(7, [3])] 10), (24, pz [(9, [3, 6]), (30, [24, 27])] 35), (41, pz [(9, [3, 6]), (22, [16, 19])] 26)]⟩
abbrev zbb.E : z4 := opsF 2 16 [.int .i64 0, .int .i64 0] (N 123) [.i .i64, .i .i64]
theorem zbb.L : LkT P zbb.I Tryz.f67 fun C Q s h => zbb.cps C N (s 0) h Q := fun {C} hC Q s h hR =>
 eS hC (fun s h => zd (ze.l103 zbb.E C Q (s 0)) [(.int .i64 0)] h) (e1 hR) (fun s h hR => eS hC (fun s h => B.pv (V.zx (s 0)) fun v41 =>
  0 < 1 ∧ B.mks h 24 (some [.nils]) v41 v41 fun v42 h =>
  zd (ze.l82 zbb.E C Q (s 0) v42) [(.int .i64 0)] h) (eS hC (fun s h => zd (ze.l103 zbb.E C Q (s 0)) [(s 3)] h) (e1 hR) (fun s h hR => eK (eL hC [0] [3] (on1 (ze.l103 zbb.E C Q)) hR (fun Y9 s h hR => eS hC (fun s h => zd (ze.l93 zbb.E C Q Y9 (s 0) (s 3)) [(.int .i64 0)] h) (e1 hR) (fun s h hR => eS hC (fun s h => B.pv (V.bin .add (s 3) (.int .i64 1)) fun v21 =>
  Y9 [v21] h) (eK (eS hC (fun s h => zd (ze.l93 zbb.E C Q Y9 (s 0) (s 3)) [(s 4)] h) (e1 hR) (fun s h hR => eK (eL hC [0, 3] [4] (on2 (ze.l93 zbb.E C Q Y9)) hR (fun Y10 s h hR => e1 hR))))) (fun s h hR => e1 hR)))))) (fun s h hR => eS hC (fun s h => zd (ze.l82 zbb.E C Q (s 0) (s 5)) [(.int .i64 0)] h) (e1 hR) (fun s h hR => eS hC (fun s h => zd (ze.l59 zbb.E C Q (s 0) (s 5)) [(.int .i64 0)] h) (eS hC (fun s h => zd (ze.l82 zbb.E C Q (s 0) (s 5)) [(s 6)] h) (e1 hR) (fun s h hR => eK (eL hC [0, 5] [6] (on2 (ze.l82 zbb.E C Q)) hR (fun Y7 s h hR => eS hC (fun s h => B.pv (V.idxS 1 (s 0) (s 6)) fun v51 =>
  B.ld h v51 fun v52 =>
  zd (ze.l69 zbb.E C Q Y7 (s 0) (s 5) (s 6)) [v52, (.int .i64 0)] h) (e1 hR) (fun s h hR => eS hC (fun s h => B.pv (V.bin .add (s 6) (.int .i64 1)) fun v48 =>
  Y7 [v48] h) (eK (eS hC (fun s h => zd (ze.l69 zbb.E C Q Y7 (s 0) (s 5) (s 6)) [(s 7), (.int .i64 0)] h) (e1 hR) (fun s h hR => eS hC (fun s h => B.pv (V.idxS 1 (s 5) (s 6)) fun v72 =>
  B.st h v72 (s 7) fun h =>
  B.pv (V.bin .add (s 6) (.int .i64 1)) fun v48 =>
  Y7 [v48] h) (eS hC (fun s h => zd (ze.l69 zbb.E C Q Y7 (s 0) (s 5) (s 6)) [(s 7), (s 8)] h) (e1 hR) (fun s h hR => eK (eL hC [0, 5, 6] [7, 8] (on3 (ze.l69 zbb.E C Q Y7)) hR (fun Y8 s h hR => e1 hR)))) (fun s h hR => e1 hR)))) (fun s h hR => e1 hR)))))) (fun s h hR => eS hC (fun s h => zd (ze.l40 zbb.E C Q (s 0) (s 5)) [(.int .i64 0)] h) (eS hC (fun s h => zd (ze.l59 zbb.E C Q (s 0) (s 5)) [(s 9)] h) (e1 hR) (fun s h hR => eK (eL hC [0, 5] [9] (on2 (ze.l59 zbb.E C Q)) hR (fun Y5 s h hR => eS hC (fun s h => zd (ze.l49 zbb.E C Q Y5 (s 0) (s 5) (s 9)) [(.int .i64 0)] h) (e1 hR) (fun s h hR => eS hC (fun s h => B.pv (V.bin .add (s 9) (.int .i64 1)) fun v78 =>
  Y5 [v78] h) (eK (eS hC (fun s h => zd (ze.l49 zbb.E C Q Y5 (s 0) (s 5) (s 9)) [(s 10)] h) (e1 hR) (fun s h hR => eK (eL hC [0, 5, 9] [10] (on3 (ze.l49 zbb.E C Q Y5)) hR (fun Y6 s h hR => e1 hR))))) (fun s h hR => e1 hR)))))) (fun s h hR => eS hC (fun s h => zd (ze.l15 zbb.E C Q (s 0) (s 5)) [(.int .i64 0)] h) (eS hC (fun s h => zd (ze.l40 zbb.E C Q (s 0) (s 5)) [(s 11)] h) (e1 hR) (fun s h hR => eK (eL hC [0, 5] [11] (on2 (ze.l40 zbb.E C Q)) hR (fun Y3 s h hR => eS hC (fun s h => 0 < 2 ∧ B.mks h 16 (some [.int .i64 0, .int .i64 0]) (.int .i64 64) (.int .i64 64) fun v129 h =>
  zd (ze.l26 zbb.E C Q Y3 (s 0) (s 5) (s 11) v129) [(.int .i64 0)] h) (e1 hR) (fun s h hR => eS hC (fun s h => B.pv (V.bin .add (s 11) (.int .i64 1)) fun v128 =>
  Y3 [v128] h) (eK (eS hC (fun s h => zd (ze.l26 zbb.E C Q Y3 (s 0) (s 5) (s 11) (s 12)) [(.int .i64 0)] h) (e1 hR) (fun s h hR => eS hC (fun s h => ze.k22 zbb.E C Q Y3 (s 0) (s 5) (s 11) (s 12) h) (eS hC (fun s h => zd (ze.l26 zbb.E C Q Y3 (s 0) (s 5) (s 11) (s 12)) [(s 13)] h) (e1 hR) (fun s h hR => eK (eL hC [0, 5, 11, 12] [13] (on4 (ze.l26 zbb.E C Q Y3)) hR (fun Y4 s h hR => e1 hR)))) (fun s h hR => e1 hR)))) (fun s h hR => e1 hR)))))) (fun s h hR => eS hC (fun s h => Q (.bool true) h) (eS hC (fun s h => zd (ze.l15 zbb.E C Q (s 0) (s 5)) [(s 14)] h) (e1 hR) (fun s h hR => eK (eL hC [0, 5] [14] (on2 (ze.l15 zbb.E C Q)) hR (fun Y1 s h hR => eS hC (fun s h => zd (ze.l5 zbb.E C Q Y1 (s 0) (s 5) (s 14)) [(.int .i64 0)] h) (e1 hR) (fun s h hR => eS hC (fun s h => B.pv (V.bin .add (s 14) (.int .i64 1)) fun v157 =>
  Y1 [v157] h) (eK (eS hC (fun s h => zd (ze.l5 zbb.E C Q Y1 (s 0) (s 5) (s 14)) [(s 15)] h) (e1 hR) (fun s h hR => eK (eL hC [0, 5, 14] [15] (on3 (ze.l5 zbb.E C Q Y1)) hR (fun Y2 s h hR => e1 hR))))) (fun s h hR => e1 hR)))))) (fun s h hR => e1 hR)))))))
theorem zbb.imp : zbb.Imp (AC P) N := fun v0 h Q hR => eF mixed (fn := Tryz.f67) (fun hC => zbb.L hC (dn Q) (zck [v0]) h hR)
def zu.I : Bx := ⟨[], [], 193, [(7, pz [(7, [3])] 10), (24, pz [(9, [3, 6]), (30, [24, 27])] 35), (41, pz [(9, [3, 6]), (22, [16, 19])] 26)]⟩
abbrev zu.E (C : CSem) : z4 := opsD C 11 168 [.int .i64 0, .int .i64 0, .int .i64 0, .int .i64 0, .int .u8 0, .int .i64 0, .nils, .nils, .nils, .nils, .nils] (N 124) (N 125)
theorem zu.L : LkT P zu.I Tryz.f68 fun C Q s h => zu.cps C N (s 0) h Q := fun {C} hC Q s h hR =>
 eS hC (fun s h => zd (ze.l103 (zu.E C) C Q (s 0)) [(.int .i64 0)] h) (e1 hR) (fun s h hR => eS hC (fun s h => B.pv (V.zx (s 0)) fun v41 =>
  0 < 1 ∧ B.mks h 24 (some [.nils]) v41 v41 fun v42 h =>
  zd (ze.l82 (zu.E C) C Q (s 0) v42) [(.int .i64 0)] h) (eS hC (fun s h => zd (ze.l103 (zu.E C) C Q (s 0)) [(s 3)] h) (e1 hR) (fun s h hR => eK (eL hC [0] [3] (on1 (ze.l103 (zu.E C) C Q)) hR (fun Y9 s h hR => eS hC (fun s h => zd (ze.l93 (zu.E C) C Q Y9 (s 0) (s 3)) [(.int .i64 0)] h) (e1 hR) (fun s h hR => eS hC (fun s h => B.pv (V.bin .add (s 3) (.int .i64 1)) fun v21 =>
  Y9 [v21] h) (eK (eS hC (fun s h => zd (ze.l93 (zu.E C) C Q Y9 (s 0) (s 3)) [(s 4)] h) (e1 hR) (fun s h hR => eK (eL hC [0, 3] [4] (on2 (ze.l93 (zu.E C) C Q Y9)) hR (fun Y10 s h hR => e1 hR))))) (fun s h hR => e1 hR)))))) (fun s h hR => eS hC (fun s h => zd (ze.l82 (zu.E C) C Q (s 0) (s 5)) [(.int .i64 0)] h) (e1 hR) (fun s h hR => eS hC (fun s h => zd (ze.l59 (zu.E C) C Q (s 0) (s 5)) [(.int .i64 0)] h) (eS hC (fun s h => zd (ze.l82 (zu.E C) C Q (s 0) (s 5)) [(s 6)] h) (e1 hR) (fun s h hR => eK (eL hC [0, 5] [6] (on2 (ze.l82 (zu.E C) C Q)) hR (fun Y7 s h hR => eS hC (fun s h => B.pv (V.idxS 1 (s 0) (s 6)) fun v51 =>
  B.ld h v51 fun v52 =>
  zd (ze.l69 (zu.E C) C Q Y7 (s 0) (s 5) (s 6)) [v52, (.int .i64 0)] h) (e1 hR) (fun s h hR => eS hC (fun s h => B.pv (V.bin .add (s 6) (.int .i64 1)) fun v48 =>
  Y7 [v48] h) (eK (eS hC (fun s h => zd (ze.l69 (zu.E C) C Q Y7 (s 0) (s 5) (s 6)) [(s 7), (.int .i64 0)] h) (e1 hR) (fun s h hR => eS hC (fun s h => B.pv (V.idxS 1 (s 5) (s 6)) fun v72 =>
  B.st h v72 (s 7) fun h =>
  B.pv (V.bin .add (s 6) (.int .i64 1)) fun v48 =>
  Y7 [v48] h) (eS hC (fun s h => zd (ze.l69 (zu.E C) C Q Y7 (s 0) (s 5) (s 6)) [(s 7), (s 8)] h) (e1 hR) (fun s h hR => eK (eL hC [0, 5, 6] [7, 8] (on3 (ze.l69 (zu.E C) C Q Y7)) hR (fun Y8 s h hR => e1 hR)))) (fun s h hR => e1 hR)))) (fun s h hR => e1 hR)))))) (fun s h hR => eS hC (fun s h => zd (ze.l40 (zu.E C) C Q (s 0) (s 5)) [(.int .i64 0)] h) (eS hC (fun s h => zd (ze.l59 (zu.E C) C Q (s 0) (s 5)) [(s 9)] h) (e1 hR) (fun s h hR => eK (eL hC [0, 5] [9] (on2 (ze.l59 (zu.E C) C Q)) hR (fun Y5 s h hR => eS hC (fun s h => zd (ze.l49 (zu.E C) C Q Y5 (s 0) (s 5) (s 9)) [(.int .i64 0)] h) (e1 hR) (fun s h hR => eS hC (fun s h => B.pv (V.bin .add (s 9) (.int .i64 1)) fun v78 =>
  Y5 [v78] h) (eK (eS hC (fun s h => zd (ze.l49 (zu.E C) C Q Y5 (s 0) (s 5) (s 9)) [(s 10)] h) (e1 hR) (fun s h hR => eK (eL hC [0, 5, 9] [10] (on3 (ze.l49 (zu.E C) C Q Y5)) hR (fun Y6 s h hR => e1 hR))))) (fun s h hR => e1 hR)))))) (fun s h hR => eS hC (fun s h => zd (ze.l15 (zu.E C) C Q (s 0) (s 5)) [(.int .i64 0)] h) (eS hC (fun s h => zd (ze.l40 (zu.E C) C Q (s 0) (s 5)) [(s 11)] h) (e1 hR) (fun s h hR => eK (eL hC [0, 5] [11] (on2 (ze.l40 (zu.E C) C Q)) hR (fun Y3 s h hR => eS hC (fun s h => 0 < 11 ∧ B.mks h 168 (some [.int .i64 0, .int .i64 0, .int .i64 0, .int .i64 0, .int .u8 0, .int .i64 0, .nils, .nils, .nils, .nils, .nils]) (.int .i64 64) (.int .i64 64) fun v129 h =>
  zd (ze.l26 (zu.E C) C Q Y3 (s 0) (s 5) (s 11) v129) [(.int .i64 0)] h) (e1 hR) (fun s h hR => eS hC (fun s h => B.pv (V.bin .add (s 11) (.int .i64 1)) fun v128 =>
  Y3 [v128] h) (eK (eS hC (fun s h => zd (ze.l26 (zu.E C) C Q Y3 (s 0) (s 5) (s 11) (s 12)) [(.int .i64 0)] h) (e1 hR) (fun s h hR => eS hC (fun s h => ze.k22 (zu.E C) C Q Y3 (s 0) (s 5) (s 11) (s 12) h) (eS hC (fun s h => zd (ze.l26 (zu.E C) C Q Y3 (s 0) (s 5) (s 11) (s 12)) [(s 13)] h) (e1 hR) (fun s h hR => eK (eL hC [0, 5, 11, 12] [13] (on4 (ze.l26 (zu.E C) C Q Y3)) hR (fun Y4 s h hR => e1 hR)))) (fun s h hR => e1 hR)))) (fun s h hR => e1 hR)))))) (fun s h hR => eS hC (fun s h => Q (.bool true) h) (eS hC (fun s h => zd (ze.l15 (zu.E C) C Q (s 0) (s 5)) [(s 14)] h) (e1 hR) (fun s h hR => eK (eL hC [0, 5] [14] (on2 (ze.l15 (zu.E C) C Q)) hR (fun Y1 s h hR => eS hC (fun s h => zd (ze.l5 (zu.E C) C Q Y1 (s 0) (s 5) (s 14)) [(.int .i64 0)] h) (e1 hR) (fun s h hR => eS hC (fun s h => B.pv (V.bin .add (s 14) (.int .i64 1)) fun v157 =>
  Y1 [v157] h) (eK (eS hC (fun s h => zd (ze.l5 (zu.E C) C Q Y1 (s 0) (s 5) (s 14)) [(s 15)] h) (e1 hR) (fun s h hR => eK (eL hC [0, 5, 14] [15] (on3 (ze.l5 (zu.E C) C Q Y1)) hR (fun Y2 s h hR => e1 hR))))) (fun s h hR => e1 hR)))))) (fun s h hR => e1 hR)))))))
theorem zu.imp : zu.Imp (AC P) N := fun v0 h Q hR => eF mixed (fn := Tryz.f68) (fun hC => zu.L hC (dn Q) (zck [v0]) h hR)
def zba.I : Bx := ⟨[], [], 193, [(7, pz [(7, [3])] 10), (24, pz [(9, [3, 6]), (30, [24, 27])] 35), (41, pz [(9, [3, 6]), (22, [16, 19])] 26)]⟩
abbrev zba.E (C : CSem) : z4 := opsD C 15 176 [.int .u8 0, .int .i64 0, .int .i64 0, .int .u8 0, .int .i64 0, .str [], .int .i64 0, .int .i64 0, .int .i64 0, .int .i64 0, .int .i64 0, .int .i64 0, .nils, .nils, .nils] (N 126) (N 127)
theorem zba.L : LkT P zba.I Tryz.f69 fun C Q s h => zba.cps C N (s 0) h Q := fun {C} hC Q s h hR =>
 eS hC (fun s h => zd (ze.l103 (zba.E C) C Q (s 0)) [(.int .i64 0)] h) (e1 hR) (fun s h hR => eS hC (fun s h => B.pv (V.zx (s 0)) fun v41 =>
  0 < 1 ∧ B.mks h 24 (some [.nils]) v41 v41 fun v42 h =>
  zd (ze.l82 (zba.E C) C Q (s 0) v42) [(.int .i64 0)] h) (eS hC (fun s h => zd (ze.l103 (zba.E C) C Q (s 0)) [(s 3)] h) (e1 hR) (fun s h hR => eK (eL hC [0] [3] (on1 (ze.l103 (zba.E C) C Q)) hR (fun Y9 s h hR => eS hC (fun s h => zd (ze.l93 (zba.E C) C Q Y9 (s 0) (s 3)) [(.int .i64 0)] h) (e1 hR) (fun s h hR => eS hC (fun s h => B.pv (V.bin .add (s 3) (.int .i64 1)) fun v21 =>
  Y9 [v21] h) (eK (eS hC (fun s h => zd (ze.l93 (zba.E C) C Q Y9 (s 0) (s 3)) [(s 4)] h) (e1 hR) (fun s h hR => eK (eL hC [0, 3] [4] (on2 (ze.l93 (zba.E C) C Q Y9)) hR (fun Y10 s h hR => e1 hR))))) (fun s h hR => e1 hR)))))) (fun s h hR => eS hC (fun s h => zd (ze.l82 (zba.E C) C Q (s 0) (s 5)) [(.int .i64 0)] h) (e1 hR) (fun s h hR => eS hC (fun s h => zd (ze.l59 (zba.E C) C Q (s 0) (s 5)) [(.int .i64 0)] h) (eS hC (fun s h => zd (ze.l82 (zba.E C) C Q (s 0) (s 5)) [(s 6)] h) (e1 hR) (fun s h hR => eK (eL hC [0, 5] [6] (on2 (ze.l82 (zba.E C) C Q)) hR (fun Y7 s h hR => eS hC (fun s h => B.pv (V.idxS 1 (s 0) (s 6)) fun v51 =>
  B.ld h v51 fun v52 =>
  zd (ze.l69 (zba.E C) C Q Y7 (s 0) (s 5) (s 6)) [v52, (.int .i64 0)] h) (e1 hR) (fun s h hR => eS hC (fun s h => B.pv (V.bin .add (s 6) (.int .i64 1)) fun v48 =>
  Y7 [v48] h) (eK (eS hC (fun s h => zd (ze.l69 (zba.E C) C Q Y7 (s 0) (s 5) (s 6)) [(s 7), (.int .i64 0)] h) (e1 hR) (fun s h hR => eS hC (fun s h => B.pv (V.idxS 1 (s 5) (s 6)) fun v72 =>
  B.st h v72 (s 7) fun h =>
  B.pv (V.bin .add (s 6) (.int .i64 1)) fun v48 =>
  Y7 [v48] h) (eS hC (fun s h => zd (ze.l69 (zba.E C) C Q Y7 (s 0) (s 5) (s 6)) [(s 7), (s 8)] h) (e1 hR) (fun s h hR => eK (eL hC [0, 5, 6] [7, 8] (on3 (ze.l69 (zba.E C) C Q Y7)) hR (fun Y8 s h hR => e1 hR)))) (fun s h hR => e1 hR)))) (fun s h hR => e1 hR)))))) (fun s h hR => eS hC (fun s h => zd (ze.l40 (zba.E C) C Q (s 0) (s 5)) [(.int .i64 0)] h) (eS hC (fun s h => zd (ze.l59 (zba.E C) C Q (s 0) (s 5)) [(s 9)] h) (e1 hR) (fun s h hR => eK (eL hC [0, 5] [9] (on2 (ze.l59 (zba.E C) C Q)) hR (fun Y5 s h hR => eS hC (fun s h => zd (ze.l49 (zba.E C) C Q Y5 (s 0) (s 5) (s 9)) [(.int .i64 0)] h) (e1 hR) (fun s h hR => eS hC (fun s h => B.pv (V.bin .add (s 9) (.int .i64 1)) fun v78 =>
  Y5 [v78] h) (eK (eS hC (fun s h => zd (ze.l49 (zba.E C) C Q Y5 (s 0) (s 5) (s 9)) [(s 10)] h) (e1 hR) (fun s h hR => eK (eL hC [0, 5, 9] [10] (on3 (ze.l49 (zba.E C) C Q Y5)) hR (fun Y6 s h hR => e1 hR))))) (fun s h hR => e1 hR)))))) (fun s h hR => eS hC (fun s h => zd (ze.l15 (zba.E C) C Q (s 0) (s 5)) [(.int .i64 0)] h) (eS hC (fun s h => zd (ze.l40 (zba.E C) C Q (s 0) (s 5)) [(s 11)] h) (e1 hR) (fun s h hR => eK (eL hC [0, 5] [11] (on2 (ze.l40 (zba.E C) C Q)) hR (fun Y3 s h hR => eS hC (fun s h => 0 < 15 ∧ B.mks h 176 (some [.int .u8 0, .int .i64 0, .int .i64 0, .int .u8 0, .int .i64 0, .str [], .int .i64 0, .int .i64 0, .int .i64 0, .int .i64 0, .int .i64 0, .int .i64 0, .nils, .nils, .nils]) (.int .i64 64) (.int .i64 64) fun v129 h =>
  zd (ze.l26 (zba.E C) C Q Y3 (s 0) (s 5) (s 11) v129) [(.int .i64 0)] h) (e1 hR) (fun s h hR => eS hC (fun s h => B.pv (V.bin .add (s 11) (.int .i64 1)) fun v128 =>
  Y3 [v128] h) (eK (eS hC (fun s h => zd (ze.l26 (zba.E C) C Q Y3 (s 0) (s 5) (s 11) (s 12)) [(.int .i64 0)] h) (e1 hR) (fun s h hR => eS hC (fun s h => ze.k22 (zba.E C) C Q Y3 (s 0) (s 5) (s 11) (s 12) h) (eS hC (fun s h => zd (ze.l26 (zba.E C) C Q Y3 (s 0) (s 5) (s 11) (s 12)) [(s 13)] h) (e1 hR) (fun s h hR => eK (eL hC [0, 5, 11, 12] [13] (on4 (ze.l26 (zba.E C) C Q Y3)) hR (fun Y4 s h hR => e1 hR)))) (fun s h hR => e1 hR)))) (fun s h hR => e1 hR)))))) (fun s h hR => eS hC (fun s h => Q (.bool true) h) (eS hC (fun s h => zd (ze.l15 (zba.E C) C Q (s 0) (s 5)) [(s 14)] h) (e1 hR) (fun s h hR => eK (eL hC [0, 5] [14] (on2 (ze.l15 (zba.E C) C Q)) hR (fun Y1 s h hR => eS hC (fun s h => zd (ze.l5 (zba.E C) C Q Y1 (s 0) (s 5) (s 14)) [(.int .i64 0)] h) (e1 hR) (fun s h hR => eS hC (fun s h => B.pv (V.bin .add (s 14) (.int .i64 1)) fun v157 =>
  Y1 [v157] h) (eK (eS hC (fun s h => zd (ze.l5 (zba.E C) C Q Y1 (s 0) (s 5) (s 14)) [(s 15)] h) (e1 hR) (fun s h hR => eK (eL hC [0, 5, 14] [15] (on3 (ze.l5 (zba.E C) C Q Y1)) hR (fun Y2 s h hR => e1 hR))))) (fun s h hR => e1 hR)))))) (fun s h hR => e1 hR)))))))
theorem zba.imp : zba.Imp (AC P) N := fun v0 h Q hR => eF mixed (fn := Tryz.f69) (fun hC => zba.L hC (dn Q) (zck [v0]) h hR)
def z9.I : Bx := ⟨[], [], 193, [(7, pz [(7, [3])] 10), (24, pz [(9, [3, 6]), (30, [24, 27])] 35), (41, pz [(9, [3, 6]), (22, [16, 19])] 26)]⟩
abbrev z9.E (C : CSem) : z4 := opsD C 21 248 [.int .u8 0, .int .i64 0, .int .i64 0, .int .u8 0, .int .i64 0, .str [], .int .i64 0, .int .i64 0, .int .i64 0, .int .i64 0, .int .i64 0, .int .i64 0, .nils, .nils, .int .i64 0, .int .i64 0, .int .i64 0, .str [], .int .u8 0, .nils, .nils] (N 128) (N 129)
theorem z9.L : LkT P z9.I Tryz.f70 fun C Q s h => z9.cps C N (s 0) h Q := fun {C} hC Q s h hR =>
 eS hC (fun s h => zd (ze.l103 (z9.E C) C Q (s 0)) [(.int .i64 0)] h) (e1 hR) (fun s h hR => eS hC (fun s h => B.pv (V.zx (s 0)) fun v41 =>
  0 < 1 ∧ B.mks h 24 (some [.nils]) v41 v41 fun v42 h =>
  zd (ze.l82 (z9.E C) C Q (s 0) v42) [(.int .i64 0)] h) (eS hC (fun s h => zd (ze.l103 (z9.E C) C Q (s 0)) [(s 3)] h) (e1 hR) (fun s h hR => eK (eL hC [0] [3] (on1 (ze.l103 (z9.E C) C Q)) hR (fun Y9 s h hR => eS hC (fun s h => zd (ze.l93 (z9.E C) C Q Y9 (s 0) (s 3)) [(.int .i64 0)] h) (e1 hR) (fun s h hR => eS hC (fun s h => B.pv (V.bin .add (s 3) (.int .i64 1)) fun v21 =>
  Y9 [v21] h) (eK (eS hC (fun s h => zd (ze.l93 (z9.E C) C Q Y9 (s 0) (s 3)) [(s 4)] h) (e1 hR) (fun s h hR => eK (eL hC [0, 3] [4] (on2 (ze.l93 (z9.E C) C Q Y9)) hR (fun Y10 s h hR => e1 hR))))) (fun s h hR => e1 hR)))))) (fun s h hR => eS hC (fun s h => zd (ze.l82 (z9.E C) C Q (s 0) (s 5)) [(.int .i64 0)] h) (e1 hR) (fun s h hR => eS hC (fun s h => zd (ze.l59 (z9.E C) C Q (s 0) (s 5)) [(.int .i64 0)] h) (eS hC (fun s h => zd (ze.l82 (z9.E C) C Q (s 0) (s 5)) [(s 6)] h) (e1 hR) (fun s h hR => eK (eL hC [0, 5] [6] (on2 (ze.l82 (z9.E C) C Q)) hR (fun Y7 s h hR => eS hC (fun s h => B.pv (V.idxS 1 (s 0) (s 6)) fun v51 =>
  B.ld h v51 fun v52 =>
  zd (ze.l69 (z9.E C) C Q Y7 (s 0) (s 5) (s 6)) [v52, (.int .i64 0)] h) (e1 hR) (fun s h hR => eS hC (fun s h => B.pv (V.bin .add (s 6) (.int .i64 1)) fun v48 =>
  Y7 [v48] h) (eK (eS hC (fun s h => zd (ze.l69 (z9.E C) C Q Y7 (s 0) (s 5) (s 6)) [(s 7), (.int .i64 0)] h) (e1 hR) (fun s h hR => eS hC (fun s h => B.pv (V.idxS 1 (s 5) (s 6)) fun v72 =>
  B.st h v72 (s 7) fun h =>
  B.pv (V.bin .add (s 6) (.int .i64 1)) fun v48 =>
  Y7 [v48] h) (eS hC (fun s h => zd (ze.l69 (z9.E C) C Q Y7 (s 0) (s 5) (s 6)) [(s 7), (s 8)] h) (e1 hR) (fun s h hR => eK (eL hC [0, 5, 6] [7, 8] (on3 (ze.l69 (z9.E C) C Q Y7)) hR (fun Y8 s h hR => e1 hR)))) (fun s h hR => e1 hR)))) (fun s h hR => e1 hR)))))) (fun s h hR => eS hC (fun s h => zd (ze.l40 (z9.E C) C Q (s 0) (s 5)) [(.int .i64 0)] h) (eS hC (fun s h => zd (ze.l59 (z9.E C) C Q (s 0) (s 5)) [(s 9)] h) (e1 hR) (fun s h hR => eK (eL hC [0, 5] [9] (on2 (ze.l59 (z9.E C) C Q)) hR (fun Y5 s h hR => eS hC (fun s h => zd (ze.l49 (z9.E C) C Q Y5 (s 0) (s 5) (s 9)) [(.int .i64 0)] h) (e1 hR) (fun s h hR => eS hC (fun s h => B.pv (V.bin .add (s 9) (.int .i64 1)) fun v78 =>
  Y5 [v78] h) (eK (eS hC (fun s h => zd (ze.l49 (z9.E C) C Q Y5 (s 0) (s 5) (s 9)) [(s 10)] h) (e1 hR) (fun s h hR => eK (eL hC [0, 5, 9] [10] (on3 (ze.l49 (z9.E C) C Q Y5)) hR (fun Y6 s h hR => e1 hR))))) (fun s h hR => e1 hR)))))) (fun s h hR => eS hC (fun s h => zd (ze.l15 (z9.E C) C Q (s 0) (s 5)) [(.int .i64 0)] h) (eS hC (fun s h => zd (ze.l40 (z9.E C) C Q (s 0) (s 5)) [(s 11)] h) (e1 hR) (fun s h hR => eK (eL hC [0, 5] [11] (on2 (ze.l40 (z9.E C) C Q)) hR (fun Y3 s h hR => eS hC (fun s h => 0 < 21 ∧ B.mks h 248 (some [.int .u8 0, .int .i64 0, .int .i64 0, .int .u8 0, .int .i64 0, .str [], .int .i64 0, .int .i64 0, .int .i64 0, .int .i64 0, .int .i64 0, .int .i64 0, .nils, .nils, .int .i64 0, .int .i64 0, .int .i64 0, .str [], .int .u8 0, .nils, .nils]) (.int .i64 64) (.int .i64 64) fun v129 h =>
  zd (ze.l26 (z9.E C) C Q Y3 (s 0) (s 5) (s 11) v129) [(.int .i64 0)] h) (e1 hR) (fun s h hR => eS hC (fun s h => B.pv (V.bin .add (s 11) (.int .i64 1)) fun v128 =>
  Y3 [v128] h) (eK (eS hC (fun s h => zd (ze.l26 (z9.E C) C Q Y3 (s 0) (s 5) (s 11) (s 12)) [(.int .i64 0)] h) (e1 hR) (fun s h hR => eS hC (fun s h => ze.k22 (z9.E C) C Q Y3 (s 0) (s 5) (s 11) (s 12) h) (eS hC (fun s h => zd (ze.l26 (z9.E C) C Q Y3 (s 0) (s 5) (s 11) (s 12)) [(s 13)] h) (e1 hR) (fun s h hR => eK (eL hC [0, 5, 11, 12] [13] (on4 (ze.l26 (z9.E C) C Q Y3)) hR (fun Y4 s h hR => e1 hR)))) (fun s h hR => e1 hR)))) (fun s h hR => e1 hR)))))) (fun s h hR => eS hC (fun s h => Q (.bool true) h) (eS hC (fun s h => zd (ze.l15 (z9.E C) C Q (s 0) (s 5)) [(s 14)] h) (e1 hR) (fun s h hR => eK (eL hC [0, 5] [14] (on2 (ze.l15 (z9.E C) C Q)) hR (fun Y1 s h hR => eS hC (fun s h => zd (ze.l5 (z9.E C) C Q Y1 (s 0) (s 5) (s 14)) [(.int .i64 0)] h) (e1 hR) (fun s h hR => eS hC (fun s h => B.pv (V.bin .add (s 14) (.int .i64 1)) fun v157 =>
  Y1 [v157] h) (eK (eS hC (fun s h => zd (ze.l5 (z9.E C) C Q Y1 (s 0) (s 5) (s 14)) [(s 15)] h) (e1 hR) (fun s h hR => eK (eL hC [0, 5, 14] [15] (on3 (ze.l5 (z9.E C) C Q Y1)) hR (fun Y2 s h hR => e1 hR))))) (fun s h hR => e1 hR)))))) (fun s h hR => e1 hR)))))))
theorem z9.imp : z9.Imp (AC P) N := fun v0 h Q hR => eF mixed (fn := Tryz.f70) (fun hC => z9.L hC (dn Q) (zck [v0]) h hR)
def zdn.I : Bx := ⟨[4], [], 9, []⟩
theorem zdn.L : LkT P zdn.I Tryz.f71 fun C Q s h => zdn.cps C N (s 0) (s 1) h Q := fun {C} hC Q s h hR =>
 e1 hR
theorem zdn.imp : zdn.Imp (AC P) N := fun v0 v1 h Q hR => eF mixed (fn := Tryz.f71) (fun hC => zdn.L hC (dn Q) (zck [v0, v1]) h hR)
def zdh.I : Bx := ⟨[], [], 23, []⟩
theorem zdh.L : LkT P zdh.I Tryz.f72 fun C Q s h => zdh.cps C N (s 0) (s 1) h Q := fun {C} hC Q s h hR =>
 e1 hR
theorem zdh.imp : zdh.Imp (AC P) N := fun v0 v1 h Q hR => eF mixed (fn := Tryz.f72) (fun hC => zdh.L hC (dn Q) (zck [v0, v1]) h hR)
def zda.I : Bx := ⟨[], [], 40, []⟩
theorem zda.L : LkT P zda.I Tryz.f73 fun C Q s h => zda.cps C N (s 0) h Q := fun {C} hC Q s h hR =>
 eS hC (fun s h => B.zgo h (s 0) fun v6 h =>
  zd (zda.l3 C N Q (s 0) v6) [] h) (e1 hR) (fun s h hR => eS hC (fun s h => zda.k1 C N Q (s 0) h) (eS hC (fun s h => zd (zda.l3 C N Q (s 0) (s 6)) [] h) (e1 hR) (fun s h hR => eK (eL hC [0, 6] [] (on2 (zda.l3 C N Q)) hR (fun Y1 s h hR => e1 hR)))) (fun s h hR => e1 hR))
theorem zda.imp : zda.Imp (AC P) N := fun v0 h Q hR => eF mixed (fn := Tryz.f73) (fun hC => zda.L hC (dn Q) (zck [v0]) h hR)
def zdb.I : Bx := ⟨[1, 5], [6, 10, 14, 19, 27, 31, 35, 41, 47, 51], 56, []⟩
theorem zdb.L : LkT P zdb.I Tryz.f74 fun C Q s h => zdb.cps C N (s 0) h Q := fun {C} hC Q s h hR =>
 eS hC (fun s h => zdb.k5 C N Q (s 57) h) (e1 hR) (fun s h hR => eS hC (fun s h => zdb.k4 C N Q (s 57) h) (e1 hR) (fun s h hR => eS hC (fun s h => B.al (s 57) (B.pv (V.zc6 2 (s 57)) fun v20 =>
  B.pv (V.zx v20) fun v21 =>
  zd (zdb.l3 C N Q (s 3) v20 v21 (s 57)) [(.int .i64 0)] h)) (e1 hR) (fun s h hR => eS hC (fun s h => zdb.k1 C N Q (s 57) h) (eS hC (fun s h => zd (zdb.l3 C N Q (s 3) (s 20) (s 21) (s 57)) [(s 22)] h) (e1 hR) (fun s h hR => eK (eL hC [3, 20, 21, 57] [22] (on4 (zdb.l3 C N Q)) hR (fun Y1 s h hR => e1 hR)))) (fun s h hR => e1 hR))))
theorem zdb.imp : zdb.Imp (AC P) N := fun v0 h Q hR => eF mixed (fn := Tryz.f74) (fun hC => zdb.L hC (dn Q) (zck [v0]) h hR)
def zef.I : Bx := ⟨[5], [14], 19, []⟩
theorem zef.L : LkT P zef.I Tryz.f75 fun C Q s h => zef.cps C N (s 0) h Q := fun {C} hC Q s h hR =>
 eS hC (fun s h => B.zjl h fun v6 h =>
  B.pv (V.zx (s 0)) fun v8 =>
  zd (zef.l2 C N Q v6 (s 0) v8) [(.int .i64 0)] h) (e1 hR) (fun s h hR => eS hC (fun s h => B.pv (V.zx (s 0)) fun v8 =>
  zd (zef.l2 C N Q (s 3) (s 0) v8) [(.int .i64 0)] h) (e1 hR) (fun s h hR => eS hC (fun s h => Q (s 3) h) (eS hC (fun s h => zd (zef.l2 C N Q (s 3) (s 7) (s 8)) [(s 9)] h) (e1 hR) (fun s h hR => eK (eL hC [3, 7, 8] [9] (on3 (zef.l2 C N Q)) hR (fun Y1 s h hR => e1 hR)))) (fun s h hR => e1 hR)))
theorem zef.imp : zef.Imp (AC P) N := fun v0 h Q hR => eF mixed (fn := Tryz.f75) (fun hC => zef.L hC (dn Q) (zck [v0]) h hR)
def zc4.I : Bx := ⟨[], [], 20, []⟩
theorem zc4.L : LkT P zc4.I Tryz.f76 fun C Q s h => zc4.cps C N (s 0) h Q := fun {C} hC Q s h hR =>
 eS hC (fun s h => B.zjl h fun v7 h =>
  B.newO h (some [.nilm]) fun i4 h =>
  B.st h (.ptr i4 0 0) v7 fun h =>
  zc4.k3 C N Q (s 1) (.ptr i4 0 0) h) (e1 hR) (fun s h hR => eS hC (fun s h => zc4.k3 C N Q (s 1) (s 4) h) (e1 hR) (fun s h hR => eS hC (fun s h => B.st h (s 5) (.fn (N 374) [] [(s 4), (s 1), (s 5)]) fun h =>
  B.ld h (s 1) fun v9 =>
  B.rangeMap h v9 fun v10 h =>
  zd (zc4.l2 C N Q (s 4) (s 5) v10) [] h) (e1 hR) (fun s h hR => eS hC (fun s h => B.ld h (s 1) fun v9 =>
  B.rangeMap h v9 fun v10 h =>
  zd (zc4.l2 C N Q (s 4) (s 5) v10) [] h) (e1 hR) (fun s h hR => eS hC (fun s h => B.ld h (s 4) fun v19 =>
  Q (.tup [v19, (.bool true)]) h) (eS hC (fun s h => zd (zc4.l2 C N Q (s 4) (s 5) (s 10)) [] h) (e1 hR) (fun s h hR => eK (eL hC [4, 5, 10] [] (on3 (zc4.l2 C N Q)) hR (fun Y1 s h hR => e1 hR)))) (fun s h hR => e1 hR)))))
theorem zc4.imp : zc4.Imp (AC P) N := fun v0 h Q hR => eF mixed (fn := Tryz.f76) (fun hC => zc4.L hC (dn Q) (zck [v0]) h hR)
def zbt.I : Bx := ⟨[], [], 27, []⟩
theorem zbt.L : LkT P zbt.I Tryz.f77 fun C Q s h => zbt.cps C N (s 0) (s 1) h Q := fun {C} hC Q s h hR =>
 eS hC (fun s h => B.pv (V.bin .lss (s 1) (.int .i64 0)) fun v6 =>
  B.cond v6
  (False)
  (zf7.k1 C (opsS 16 (.str []) 0) Q (s 0) (s 1) h)) (e1 hR) (fun s h hR => eS hC (fun s h => zf7.k1 C (opsS 16 (.str []) 0) Q (s 0) (s 1) h) (e1 hR) (fun s h hR => e1 hR))
theorem zbt.imp : zbt.Imp (AC P) N := fun v0 v1 h Q hR => eF mixed (fn := Tryz.f77) (fun hC => zbt.L hC (dn Q) (zck [v0, v1]) h hR)
def zb3.I : Bx := ⟨[], [], 49, [(4, pz [] 15), (6, pz [] 18)]⟩
theorem zb3.L : LkT P zb3.I Tryz.f78 fun C Q s h => zb3.cps C N (s 0) (s 1) (s 2) h Q := fun {C} hC Q s h hR =>
 eS hC (fun s h => zd (zb2.l3 C (opsS 16 (.str []) 0) (N 377) Q (s 0) (s 1) (s 2)) [(s 6)] h) (e1 hR) (fun s h hR => eK (eL hC [0, 1, 2] [6] (on3 (zb2.l3 C (opsS 16 (.str []) 0) (N 377) Q)) hR (fun Y1 s h hR => eS hC (fun s h => zd (zb2.l2 C (opsS 16 (.str []) 0) (N 377) Q Y1 (s 0) (s 1) (s 2) (s 6)) [(s 6)] h) (e1 hR) (fun s h hR => eS hC (fun s h => B.pv (V.bin .add (s 6) (.int .i64 1)) fun v14 =>
  Y1 [v14] h) (eK (eS hC (fun s h => zd (zb2.l2 C (opsS 16 (.str []) 0) (N 377) Q Y1 (s 0) (s 1) (s 2) (s 6)) [(s 7)] h) (e1 hR) (fun s h hR => eK (eL hC [0, 1, 2, 6] [7] (on4 (zb2.l2 C (opsS 16 (.str []) 0) (N 377) Q Y1)) hR (fun Y2 s h hR => e1 hR))))) (fun s h hR => e1 hR)))))
theorem zb3.imp : zb3.Imp (AC P) N := fun v0 v1 v2 h Q hR => eF mixed (fn := Tryz.f78) (fun hC => zb3.L hC (dn Q) (zck [v0, v1, v2]) h hR)
def zci.I : Bx := ⟨[], [], 56, [(10, pz [] 20)]⟩
theorem zci.L : LkT P zci.I Tryz.f79 fun C Q s h => zci.cps C N (s 0) (s 1) (s 2) h Q := fun {C} hC Q s h hR =>
 eS hC (fun s h => B.pv (V.bin .sub (s 2) (s 1)) fun v14 =>
  zbp.k5 C (opsS 16 (.str []) 0) (N 386) Q (s 0) (s 6) (.int .i64 0) v14 h) (e1 hR) (fun s h hR => eS hC (fun s h => B.pv (V.bin .sub (s 2) (s 1)) fun v14 =>
  zbp.k5 C (opsS 16 (.str []) 0) (N 386) Q (s 0) (s 6) (s 7) v14 h) (e1 hR) (fun s h hR => eS hC (fun s h => zbp.k5 C (opsS 16 (.str []) 0) (N 386) Q (s 0) (s 6) (s 7) (s 8) h) (e1 hR) (fun s h hR => eS hC (fun s h => B.pv (V.bin .sub (s 8) (.int .i64 1)) fun v28 =>
  zd (zbp.l2 C (opsS 16 (.str []) 0) (N 386) Q (s 0) (s 6) (s 7)) [v28] h) (eS hC (fun s h => zd (zbp.l4 C (opsS 16 (.str []) 0) (N 386) Q (s 0) (s 6) (s 7) (s 8)) [(s 9)] h) (e1 hR) (fun s h hR => eK (eL hC [0, 6, 7, 8] [9] (on4 (zbp.l4 C (opsS 16 (.str []) 0) (N 386) Q)) hR (fun Y2 s h hR => e1 hR)))) (fun s h hR => eS hC (fun s h => zd (zbp.l2 C (opsS 16 (.str []) 0) (N 386) Q (s 0) (s 6) (s 7)) [(s 10)] h) (e1 hR) (fun s h hR => eK (eL hC [0, 6, 7] [10] (on3 (zbp.l2 C (opsS 16 (.str []) 0) (N 386) Q)) hR (fun Y1 s h hR => e1 hR)))))))
theorem zci.imp : zci.Imp (AC P) N := fun v0 v1 v2 h Q hR => eF mixed (fn := Tryz.f79) (fun hC => zci.L hC (dn Q) (zck [v0, v1, v2]) h hR)
def zb4.I : Bx := ⟨[], [], 65, [(10, pz [] 20)]⟩
theorem zb4.L : LkT P zb4.I Tryz.f80 fun C Q s h => zb4.cps C N (s 0) (s 1) (s 2) h Q := fun {C} hC Q s h hR =>
 eS hC (fun s h => B.pv (V.bin .geq (s 6) (.int .i64 8)) fun v15 =>
  B.cond v15 (zn.k7 C (opsS 16 (.str []) 0) (N 298) (N 299) Q (s 0) (s 1) (s 6) h) (Q (.tup []) h)) (e1 hR) (fun s h hR => eS hC (fun s h => B.cond (s 15) (zn.k7 C (opsS 16 (.str []) 0) (N 298) (N 299) Q (s 0) (s 1) (s 6) h) (Q (.tup []) h)) (e1 hR) (fun s h hR => eC 15 hR (fun hR => eS hC (fun s h => B.call C (N 299) [(s 6)] h fun v19 h =>
  zn.k6 C (opsS 16 (.str []) 0) (N 298) (N 299) Q (s 0) (s 1) (s 6) (s 7) v19 h) (e1 hR) (fun s h hR => eS hC (fun s h => zn.k6 C (opsS 16 (.str []) 0) (N 298) (N 299) Q (s 0) (s 1) (s 6) (s 7) (s 8) h) (e1 hR) (fun s h hR => eS hC (fun s h => zd (zn.l5 C (opsS 16 (.str []) 0) (N 298) (N 299) Q (s 0) (s 1) (s 6) (s 7) (s 8)) [(s 9)] h) (e1 hR) (fun s h hR => eK (eL hC [0, 1, 6, 7, 8] [9] (on5 (zn.l5 C (opsS 16 (.str []) 0) (N 298) (N 299) Q)) hR (fun Y1 s h hR => eS hC (fun s h => zn.k3 C (opsS 16 (.str []) 0) (N 298) (N 299) Q Y1 (s 0) (s 1) (s 6) (s 7) (s 8) (s 9) h) (e1 hR) (fun s h hR => eS hC (fun s h => B.pv (V.bin .add (s 9) (.int .i64 1)) fun v35 =>
  Y1 [v35] h) (eK (eS hC (fun s h => zn.k2 C (opsS 16 (.str []) 0) (N 298) (N 299) Q Y1 (s 0) (s 1) (s 6) (s 7) (s 8) (s 9) (s 10) h) (e1 hR) (fun s h hR => eS hC (fun s h => zn.k1 C (opsS 16 (.str []) 0) (N 298) (N 299) Q Y1 (s 0) (s 1) (s 6) (s 7) (s 8) (s 9) (s 10) h) (e1 hR) (fun s h hR => e1 hR)))) (fun s h hR => e1 hR)))))))) (fun hR => e1 hR)))
theorem zb4.imp : zb4.Imp (AC P) N := fun v0 v1 v2 h Q hR => eF mixed (fn := Tryz.f80) (fun hC => zb4.L hC (dn Q) (zck [v0, v1, v2]) h hR)
def zb9.I : Bx := ⟨[], [], 57, []⟩
theorem zb9.L : LkT P zb9.I Tryz.f81 fun C Q s h => zb9.cps C N (s 0) (s 1) (s 2) h Q := fun {C} hC Q s h hR =>
 eS hC (fun s h => B.pv (V.bin .sub (s 2) (s 1)) fun v15 =>
  B.newO h (some [.int .i64 0]) fun i9 h =>
  z5.k5 C (opsS 16 (.str []) 0) (N 387) (N 388) Q (s 0) (s 1) v15 (.ptr i9 0 0) h) (e1 hR) (fun s h hR => eS hC (fun s h => B.newO h (some [.int .i64 0]) fun i9 h =>
  z5.k5 C (opsS 16 (.str []) 0) (N 387) (N 388) Q (s 0) (s 1) (s 8) (.ptr i9 0 0) h) (e1 hR) (fun s h hR => eS hC (fun s h => z5.k5 C (opsS 16 (.str []) 0) (N 387) (N 388) Q (s 0) (s 1) (s 8) (s 9) h) (e1 hR) (fun s h hR => eS hC (fun s h => z5.k4 C (opsS 16 (.str []) 0) (N 387) (N 388) Q (s 0) (s 1) (s 8) (s 9) (s 10) h) (e1 hR) (fun s h hR => eS hC (fun s h => z5.k3 C (opsS 16 (.str []) 0) (N 387) (N 388) Q (s 0) (s 1) (s 8) (s 9) (s 10) (s 11) h) (e1 hR) (fun s h hR => eS hC (fun s h => z5.k2 C (opsS 16 (.str []) 0) (N 387) (N 388) Q (s 0) (s 8) (s 9) (s 10) (s 11) (s 12) h) (e1 hR) (fun s h hR => eS hC (fun s h => z5.k1 C (opsS 16 (.str []) 0) (N 387) (N 388) Q (s 9) (s 11) h) (e1 hR) (fun s h hR => e1 hR)))))))
theorem zb9.imp : zb9.Imp (AC P) N := fun v0 v1 v2 h Q hR => eF mixed (fn := Tryz.f81) (fun hC => zb9.L hC (dn Q) (zck [v0, v1, v2]) h hR)
def zb6.I : Bx := ⟨[], [], 32, [(3, pz [] 16)]⟩
theorem zb6.L : LkT P zb6.I Tryz.f82 fun C Q s h => zb6.cps C N (s 0) (s 1) (s 2) h Q := fun {C} hC Q s h hR =>
 eS hC (fun s h => B.pv (V.bin .sub (s 2) (.int .i64 1)) fun v10 =>
  zd (zcu.l2 C (opsS 16 (.str []) 0) Q (s 0)) [(s 6), v10] h) (e1 hR) (fun s h hR => eS hC (fun s h => zd (zcu.l2 C (opsS 16 (.str []) 0) Q (s 0)) [(s 6), (s 7)] h) (e1 hR) (fun s h hR => eK (eL hC [0] [6, 7] (on1 (zcu.l2 C (opsS 16 (.str []) 0) Q)) hR (fun Y1 s h hR => e1 hR))))
theorem zb6.imp : zb6.Imp (AC P) N := fun v0 v1 v2 h Q hR => eF mixed (fn := Tryz.f82) (fun hC => zb6.L hC (dn Q) (zck [v0, v1, v2]) h hR)
def zbk.I : Bx := ⟨[], [], 133, [(5, pz [] 16), (11, pz [] 18), (16, pz [] 11), (17, pz [] 18), (22, pz [] 11), (23, pz [] 18)]⟩
theorem zbk.L : LkT P zbk.I Tryz.f83 fun C Q s h => zbk.cps C N (s 0) (s 1) (s 2) h Q := fun {C} hC Q s h hR =>
 eS hC (fun s h => B.pv (V.bin .add (s 1) (.int .i64 1)) fun v12 =>
  zd (zf.l12 C (opsS 16 (.str []) 0) (N 377) Q (s 0) (s 1) (s 2)) [v12, (.int .i64 0)] h) (e1 hR) (fun s h hR => eS hC (fun s h => zd (zf.l12 C (opsS 16 (.str []) 0) (N 377) Q (s 0) (s 1) (s 2)) [(s 7), (.int .i64 0)] h) (e1 hR) (fun s h hR => eS hC (fun s h => Q (.bool false) h) (eS hC (fun s h => zd (zf.l12 C (opsS 16 (.str []) 0) (N 377) Q (s 0) (s 1) (s 2)) [(s 7), (s 8)] h) (e1 hR) (fun s h hR => eK (eL hC [0, 1, 2] [7, 8] (on3 (zf.l12 C (opsS 16 (.str []) 0) (N 377) Q)) hR (fun Y1 s h hR => eS hC (fun s h => zd (zf.l10 C (opsS 16 (.str []) 0) (N 377) Q Y1 (s 0) (s 1) (s 2) (s 8)) [(s 7)] h) (e1 hR) (fun s h hR => eS hC (fun s h => B.pv (V.bin .add (s 8) (.int .i64 1)) fun v16 =>
  Y1 [(s 7), v16] h) (eK (eS hC (fun s h => B.pv (V.bin .eql (s 7) (s 2)) fun v37 =>
  B.cond v37
  (Q (.bool true) h)
  (zf.k8 C (opsS 16 (.str []) 0) (N 377) Q Y1 (s 0) (s 1) (s 2) (s 7) (s 8) h)) (eK (eL hC [0, 1, 2, 8] [7] (on4 (zf.l10 C (opsS 16 (.str []) 0) (N 377) Q Y1)) hR (fun Y4 s h hR => e1 hR))) (fun s h hR => eS hC (fun s h => zf.k8 C (opsS 16 (.str []) 0) (N 377) Q Y1 (s 0) (s 1) (s 2) (s 7) (s 8) h) (e1 hR) (fun s h hR => eS hC (fun s h => zf.k7 C (opsS 16 (.str []) 0) (N 377) Q Y1 (s 0) (s 1) (s 2) (s 7) (s 8) h) (e1 hR) (fun s h hR => eS hC (fun s h => zf.k6 C (opsS 16 (.str []) 0) (N 377) Q Y1 (s 0) (s 1) (s 2) (s 7) (s 8) h) (e1 hR) (fun s h hR => eS hC (fun s h => zf.k3 C (opsS 16 (.str []) 0) (N 377) Q Y1 (s 0) (s 1) (s 2) (s 7) (s 8) h) (eS hC (fun s h => B.cond (s 61) (B.pv (V.bin .sub (s 7) (.int .i64 1)) fun v63 =>
  zd (zf.l5 C (opsS 16 (.str []) 0) (N 377) Q Y1 (s 0) (s 1) (s 2) (s 7) (s 8)) [v63] h) (zf.k3 C (opsS 16 (.str []) 0) (N 377) Q Y1 (s 0) (s 1) (s 2) (s 7) (s 8) h)) (e1 hR) (fun s h hR => eC 61 hR (fun hR => eS hC (fun s h => zd (zf.l5 C (opsS 16 (.str []) 0) (N 377) Q Y1 (s 0) (s 1) (s 2) (s 7) (s 8)) [(s 9)] h) (e1 hR) (fun s h hR => eK (eL hC [0, 1, 2, 7, 8] [9] (on5 (zf.l5 C (opsS 16 (.str []) 0) (N 377) Q Y1)) hR (fun Y3 s h hR => e1 hR)))) (fun hR => e1 hR))) (fun s h hR => eS hC (fun s h => B.cond (s 98) (B.pv (V.bin .add (s 7) (.int .i64 1)) fun v100 =>
  zd (zf.l2 C (opsS 16 (.str []) 0) (N 377) Q Y1 (s 0) (s 1) (s 2) (s 7) (s 8)) [v100] h) (B.pv (V.bin .add (s 8) (.int .i64 1)) fun v16 =>
  Y1 [(s 7), v16] h)) (e1 hR) (fun s h hR => eC 98 hR (fun hR => eS hC (fun s h => zd (zf.l2 C (opsS 16 (.str []) 0) (N 377) Q Y1 (s 0) (s 1) (s 2) (s 7) (s 8)) [(s 10)] h) (e1 hR) (fun s h hR => eK (eL hC [0, 1, 2, 7, 8] [10] (on5 (zf.l2 C (opsS 16 (.str []) 0) (N 377) Q Y1)) hR (fun Y2 s h hR => e1 hR)))) (fun hR => e1 hR))))))))) (fun s h hR => e1 hR)))))) (fun s h hR => e1 hR)))
theorem zbk.imp : zbk.Imp (AC P) N := fun v0 v1 v2 h Q hR => eF mixed (fn := Tryz.f83) (fun hC => zbk.L hC (dn Q) (zck [v0, v1, v2]) h hR)
def zc3.I : Bx := ⟨[], [], 17, []⟩
theorem zc3.L : LkT P zc3.I Tryz.f84 fun C Q s h => zc3.cps C N (s 0) (s 1) h Q := fun {C} hC Q s h hR =>
 e1 hR
theorem zc3.imp : zc3.Imp (AC P) N := fun v0 v1 h Q hR => eF mixed (fn := Tryz.f84) (fun hC => zc3.L hC (dn Q) (zck [v0, v1]) h hR)
def zbz.I : Bx := ⟨[], [], 84, [(1, pz [] 16), (3, pz [] 15), (5, pz [] 14), (8, pz [] 16)]⟩
theorem zbz.L : LkT P zbz.I Tryz.f85 fun C Q s h => zbz.cps C N (s 0) (s 1) (s 2) (s 3) h Q := fun {C} hC Q s h hR =>
 eS hC (fun s h => zo.k8 C (opsS 16 (.str []) 0) (N 377) Q (s 0) (s 1) (s 2) (s 3) h) (e1 hR) (fun s h hR => eS hC (fun s h => zo.k7 C (opsS 16 (.str []) 0) (N 377) Q (s 0) (s 1) (s 2) h) (e1 hR) (fun s h hR => eS hC (fun s h => zd (zo.l6 C (opsS 16 (.str []) 0) (N 377) Q (s 0) (s 1)) [(s 9), (s 10)] h) (e1 hR) (fun s h hR => eS hC (fun s h => Q (s 9) h) (eK (eL hC [0, 1] [9, 10] (on2 (zo.l6 C (opsS 16 (.str []) 0) (N 377) Q)) hR (fun Y1 s h hR => eK (eS hC (fun s h => zd (zo.l3 C (opsS 16 (.str []) 0) (N 377) Q Y1 (s 0) (s 1) (s 9)) [(s 10)] h) (eK (eL hC [0, 1, 10] [9] (on3 (zo.l5 C (opsS 16 (.str []) 0) (N 377) Q Y1)) hR (fun Y3 s h hR => e1 hR))) (fun s h hR => eS hC (fun s h => zo.k1 C (opsS 16 (.str []) 0) (N 377) Q Y1 (s 0) (s 1) (s 9) (s 10) h) (eK (eL hC [0, 1, 9] [10] (on3 (zo.l3 C (opsS 16 (.str []) 0) (N 377) Q Y1)) hR (fun Y2 s h hR => e1 hR))) (fun s h hR => e1 hR)))))) (fun s h hR => e1 hR))))
theorem zbz.imp : zbz.Imp (AC P) N := fun v0 v1 v2 v3 h Q hR => eF mixed (fn := Tryz.f85) (fun hC => zbz.L hC (dn Q) (zck [v0, v1, v2, v3]) h hR)
def zce.I : Bx := ⟨[], [], 168, [(1, pz [] 16), (3, pz [] 14), (5, pz [] 15), (8, pz [] 16), (10, pz [] 16), (13, pz [] 14), (15, pz [] 15), (18, pz [] 16), (21, pz [] 16)]⟩
theorem zce.L : LkT P zce.I Tryz.f86 fun C Q s h => zce.cps C N (s 0) (s 1) (s 2) (s 3) h Q := fun {C} hC Q s h hR =>
 eS hC (fun s h => zi.k16 C (opsS 16 (.str []) 0) (N 377) Q (s 0) (s 1) (s 2) (s 3) h) (e1 hR) (fun s h hR => eS hC (fun s h => zi.k15 C (opsS 16 (.str []) 0) (N 377) Q (s 0) (s 1) (s 2) h) (e1 hR) (fun s h hR => eS hC (fun s h => zd (zi.l14 C (opsS 16 (.str []) 0) (N 377) Q (s 0) (s 1) (s 11)) [(s 10)] h) (e1 hR) (fun s h hR => eS hC (fun s h => zd (zi.l12 C (opsS 16 (.str []) 0) (N 377) Q (s 0) (s 1) (s 10)) [(s 11)] h) (eK (eL hC [0, 1, 11] [10] (on3 (zi.l14 C (opsS 16 (.str []) 0) (N 377) Q)) hR (fun Y5 s h hR => e1 hR))) (fun s h hR => eS hC (fun s h => zi.k10 C (opsS 16 (.str []) 0) (N 377) Q (s 0) (s 1) (s 10) (s 11) h) (eK (eL hC [0, 1, 10] [11] (on3 (zi.l12 C (opsS 16 (.str []) 0) (N 377) Q)) hR (fun Y4 s h hR => e1 hR))) (fun s h hR => eS hC (fun s h => zi.k9 C (opsS 16 (.str []) 0) (N 377) Q (s 0) (s 1) (s 10) (s 11) h) (e1 hR) (fun s h hR => eS hC (fun s h => zi.k8 C (opsS 16 (.str []) 0) (N 377) Q (s 0) (s 1) (s 10) (s 11) h) (e1 hR) (fun s h hR => eS hC (fun s h => B.pv (V.bin .sub (s 11) (.int .i64 1)) fun v98 =>
  zd (zi.l7 C (opsS 16 (.str []) 0) (N 377) Q (s 0) (s 1)) [(s 10), v98] h) (e1 hR) (fun s h hR => eS hC (fun s h => zd (zi.l7 C (opsS 16 (.str []) 0) (N 377) Q (s 0) (s 1)) [(s 10), (s 11)] h) (e1 hR) (fun s h hR => eS hC (fun s h => zi.k1 C (opsS 16 (.str []) 0) (N 377) Q (s 0) (s 1) (s 11) h) (eK (eL hC [0, 1] [10, 11] (on2 (zi.l7 C (opsS 16 (.str []) 0) (N 377) Q)) hR (fun Y1 s h hR => eK (eS hC (fun s h => zd (zi.l4 C (opsS 16 (.str []) 0) (N 377) Q Y1 (s 0) (s 1) (s 10)) [(s 11)] h) (eK (eL hC [0, 1, 11] [10] (on3 (zi.l6 C (opsS 16 (.str []) 0) (N 377) Q Y1)) hR (fun Y3 s h hR => e1 hR))) (fun s h hR => eS hC (fun s h => zi.k2 C (opsS 16 (.str []) 0) (N 377) Q Y1 (s 0) (s 1) (s 10) (s 11) h) (eK (eL hC [0, 1, 10] [11] (on3 (zi.l4 C (opsS 16 (.str []) 0) (N 377) Q Y1)) hR (fun Y2 s h hR => e1 hR))) (fun s h hR => e1 hR)))))) (fun s h hR => e1 hR))))))))))
theorem zce.imp : zce.Imp (AC P) N := fun v0 v1 v2 v3 h Q hR => eF mixed (fn := Tryz.f86) (fun hC => zce.L hC (dn Q) (zck [v0, v1, v2, v3]) h hR)
def zbq.I : Bx := ⟨[], [], 25, []⟩
theorem zbq.L : LkT P zbq.I Tryz.f88 fun C Q s h => zbq.cps C N (s 0) h Q := fun {C} hC Q s h hR =>
 eS hC (fun s h => zbq.k4 C N Q (s 0) (s 2) h) (e1 hR) (fun s h hR => eS hC (fun s h => zbq.k3 C N Q (s 0) (s 2) h) (e1 hR) (fun s h hR => eS hC (fun s h => zbq.k2 C N Q (s 0) (s 2) h) (e1 hR) (fun s h hR => eS hC (fun s h => zbq.k1 C N Q (s 0) (s 2) h) (e1 hR) (fun s h hR => e1 hR))))
theorem zbq.imp : zbq.Imp (AC P) N := fun v0 h Q hR => eF mixed (fn := Tryz.f88) (fun hC => zbq.L hC (dn Q) (zck [v0]) h hR)
def zcs.I : Bx := ⟨[9], [29, 35], 44, []⟩
theorem zcs.L : LkT P zcs.I Tryz.f114 fun C Q s h => zcs.cps C N (s 0) (s 1) (s 2) (s 3) h Q := fun {C} hC Q s h hR =>
 eS hC (fun s h => zcs.k4 C N Q (s 0) (s 1) (s 2) (s 3) h) (e1 hR) (fun s h hR => eS hC (fun s h => B.ld h (s 1) fun v17 =>
  B.mset h .s v17 (s 0) (.int .i64 (-1)) fun h =>
  zcs.k3 C N Q (s 0) (s 1) (s 2) (s 3) (.int .i64 1) h) (e1 hR) (fun s h hR => eS hC (fun s h => zcs.k3 C N Q (s 0) (s 1) (s 2) (s 3) (.int .i64 1) h) (e1 hR) (fun s h hR => eS hC (fun s h => zcs.k3 C N Q (s 0) (s 1) (s 2) (s 3) (s 7) h) (e1 hR) (fun s h hR => eS hC (fun s h => B.ld h (s 1) fun v41 =>
  B.mset h .s v41 (s 0) (s 7) fun h =>
  Q (.bool true) h) (eS hC (fun s h => zd (zcs.l2 C N Q (s 0) (s 1) (s 3) (s 22) (s 23)) [(s 7), (s 24)] h) (e1 hR) (fun s h hR => eK (eL hC [0, 1, 3, 22, 23] [7, 24] (on5 (zcs.l2 C N Q)) hR (fun Y1 s h hR => e1 hR)))) (fun s h hR => e1 hR)))))
theorem zcs.imp : zcs.Imp (AC P) N := fun v0 v1 v2 v3 h Q hR => eF mixed (fn := Tryz.f114) (fun hC => zcs.L hC (dn Q) (zck [v0, v1, v2, v3]) h hR)
def zch.I : Bx := ⟨[], [], 76, [(3, pz [] 20), (5, pz [] 14), (6, pz [] 24)]⟩
theorem zch.L : LkT P zch.I Tryz.f115 fun C Q s h => zch.cps C N (s 0) (s 1) (s 2) (s 3) h Q := fun {C} hC Q s h hR =>
 eS hC (fun s h => zd (zb5.l4 C (opsS 16 (.str []) 0) (N 377) Q (s 0) (s 2) (s 3)) [(s 8)] h) (e1 hR) (fun s h hR => eK (eL hC [0, 2, 3] [8] (on3 (zb5.l4 C (opsS 16 (.str []) 0) (N 377) Q)) hR (fun Y1 s h hR => eK (eS hC (fun s h => B.pv (V.bin .geq (s 9) (s 2)) fun v16 =>
  B.cond v16
  (Q (.tup []) h)
  (zb5.k2 C (opsS 16 (.str []) 0) (N 377) Q Y1 (s 0) (s 2) (s 3) (s 8) (s 9) h)) (e1 hR) (fun s h hR => eS hC (fun s h => zb5.k2 C (opsS 16 (.str []) 0) (N 377) Q Y1 (s 0) (s 2) (s 3) (s 8) (s 9) h) (e1 hR) (fun s h hR => eS hC (fun s h => zb5.k1 C (opsS 16 (.str []) 0) (N 377) Q Y1 (s 0) (s 2) (s 3) (s 8) (s 9) h) (e1 hR) (fun s h hR => e1 hR)))))))
theorem zch.imp : zch.Imp (AC P) N := fun v0 v1 v2 v3 h Q hR => eF mixed (fn := Tryz.f115) (fun hC => zch.L hC (dn Q) (zck [v0, v1, v2, v3]) h hR)
def zct.I : Bx := ⟨[], [], 7, []⟩
theorem zct.L : LkT P zct.I Tryz.f116 fun C Q s h => zct.cps C N (s 0) h Q := fun {C} hC Q s h hR =>
 e1 hR
theorem zct.imp : zct.Imp (AC P) N := fun v0 h Q hR => eF mixed (fn := Tryz.f116) (fun hC => zct.L hC (dn Q) (zck [v0]) h hR)
def zcl.I : Bx := ⟨[], [], 33, [(1, pz [] 10), (2, pz [] 10), (3, pz [] 10)]⟩
theorem zcl.L : LkT P zcl.I Tryz.f117 fun C Q s h => zcl.cps C N (s 0) h Q := fun {C} hC Q s h hR =>
 e1 hR
theorem zcl.imp : zcl.Imp (AC P) N := fun v0 h Q hR => eF mixed (fn := Tryz.f117) (fun hC => zcl.L hC (dn Q) (zck [v0]) h hR)
def zb0.I : Bx := ⟨[], [], 15, []⟩
theorem zb0.L : LkT P zb0.I Tryz.f118 fun C Q s h => zb0.cps C N (s 0) (s 1) (s 2) h Q := fun {C} hC Q s h hR =>
 e1 hR
theorem zb0.imp : zb0.Imp (AC P) N := fun v0 v1 v2 h Q hR => eF mixed (fn := Tryz.f118) (fun hC => zb0.L hC (dn Q) (zck [v0, v1, v2]) h hR)
def zcq.I : Bx := ⟨[], [], 36, []⟩
theorem zcq.L : LkT P zcq.I Tryz.f119 fun C Q s h => zcq.cps C N (s 0) (s 1) (s 2) (s 3) (s 4) h Q := fun {C} hC Q s h hR =>
 e1 hR
theorem zcq.imp : zcq.Imp (AC P) N := fun v0 v1 v2 v3 v4 h Q hR => eF mixed (fn := Tryz.f119) (fun hC => zcq.L hC (dn Q) (zck [v0, v1, v2, v3, v4]) h hR)
def zc5.I : Bx := ⟨[], [], 6, []⟩
theorem zc5.L : LkT P zc5.I Tryz.f120 fun C Q s h => zc5.cps C N (s 0) h Q := fun {C} hC Q s h hR =>
 e1 hR
theorem zc5.imp : zc5.Imp (AC P) N := fun v0 h Q hR => eF mixed (fn := Tryz.f120) (fun hC => zc5.L hC (dn Q) (zck [v0]) h hR)
def zcp.I : Bx := ⟨[], [], 28, [(1, pz [] 9)]⟩
theorem zcp.L : LkT P zcp.I Tryz.f129 fun C Q s h => zcp.cps C N (s 0) (s 1) (s 2) (s 3) h Q := fun {C} hC Q s h hR =>
 e1 hR
theorem zcp.imp : zcp.Imp (AC P) N := fun v0 v1 v2 v3 h Q hR => eF mixed (fn := Tryz.f129) (fun hC => zcp.L hC (dn Q) (zck [v0, v1, v2, v3]) h hR)
end Go.Ab.S08z
namespace Go.Ab
variable {C : CSem} {N : Nat → Nat}
section
variable {h h' : zb} {x : AVal} {b : List UInt8}
end
theorem SlX.cutR {h : zb} {es : Nat} {x : AVal} {L R S : List (List AVal)} (hs : SlX h es x L (R ++ S)) : SlX h es x L R := by
 refine ⟨fun p hp => hs.len p (by rcases List.mem_append.1 hp with h | h; exact List.mem_append_left _ h; exact List.mem_append_right _ (List.mem_append_left _ h)), ?_⟩
 rcases hs.at_ with ⟨e, e2, e'⟩ | ⟨id, g, off, cp, b, hi, h1, h1', h2, h3, h4, hh, h5⟩
 ·exact .inl ⟨e, (List.append_eq_nil_iff.1 e2).1, e'⟩
 ·have hl : ∀ p ∈ L ++ R, p.length = es := fun p hp => hs.len p (by rcases List.mem_append.1 hp with h | h; exact List.mem_append_left _ h; exact List.mem_append_right _ (List.mem_append_left _ h))
  have hfl := zi6 hl
  rw [List.length_append] at h1' h4 h5 hfl
  have hm : (L.length + R.length) * es ≤ (L.length + (R.length + S.length)) * es := Nat.mul_le_mul_right _ (by omega)
  refine .inr ⟨id, g, off, cp, b, hi, h1, by omega, h2, h3, by omega, hh, ?_⟩
  have : ((b.cells.drop off).take ((L.length + (R.length + S.length)) * es)).take ((L.length + R.length) * es) = (L ++ R).flatten := by
   rw [h5, ← List.append_assoc, List.flatten_append (L₁ := L ++ R), List.take_append_of_le_length (by omega), List.take_of_length_le (by omega)]
  rw [← this, List.take_take, Nat.min_eq_left hm]
abbrev AllAt (h : zb) (l : List Ob) : Prop := ∀ o ∈ l, o.at h
theorem AllAt.mono {h h' : zb} {l : List Ob} (ha : AllAt h l) (hle : h.le h') : AllAt h' l := fun o hm => (ha o hm).keep fun _ _ _ e => hle _ _ e
structure DK (T Ad : Type) where
 n : Nat
 bytes : Nat
 z : List AVal
 pos : 0 < n
 small : bytes ≤ 1000
 zlen : z.length = n
 cells : T → Ad → List AVal
 len : ∀ t a, (cells t a).length = n
 at_ : zb → T → Ad → Prop
 mono : ∀ {h h' : zb} {t : T} {a : Ad}, h.le h' → at_ h t a → at_ h' t a
 ok : T → Prop
 at_ok : ∀ {h : zb} {t : T} {a : Ad}, at_ h t a → ok t
 obs : Bool → T → Ad → List Ob
 ofObs : ∀ {b : Bool} {h : zb} {t : T} {a : Ad}, ok t → AllAt h (obs b t a) → at_ h t a
section
variable {T Ad : Type} (K : DK T Ad)
abbrev DK.cs (p : T × Ad) : List AVal := K.cells p.1 p.2
def DK.os (b : Bool) (P : List (T × Ad)) : List Ob := P.flatMap fun p => K.obs b p.1 p.2
def Dl (h : zb) (x : AVal) (L : List T) : Prop := ∃ (P : List (T × Ad)) (R : List (List AVal)), P.map (·.1) = L ∧ SlX h K.n x (P.map K.cs) R ∧ ∀ p ∈ P, K.at_ h p.1 p.2
structure DEl (h : zb) (x : AVal) (i : Nat) (t : T) (a : Ad) : Prop where
 idx : V.idxS K.n x (.int .i64 (i : Int)) = some (elp K.n x i 0)
 ldn : A.ldnv h (elp K.n x i 0) K.n = some (.agg (K.cells t a))
 fld : ∀ f o, V.fieldAddr o (elp K.n x i f) = some (elp K.n x i (f + o))
 ld : ∀ f, f < K.n → A.ldv h (elp K.n x i f) = (K.cells t a)[f]?
 at_ : K.at_ h t a
variable {K} {h h' h0 : zb} {x : AVal} {L M : List T}
theorem slX_el {h : zb} {x : AVal} {P : List (T × Ad)} {R : List (List AVal)} (s : SlX h K.n x (P.map K.cs) R) (ha : ∀ p ∈ P, K.at_ h p.1 p.2) {i : Nat} {p : T × Ad} (hi : P[i]? = some p) : DEl K h x i p.1 p.2 := by
 have hc : (P.map K.cs)[i]? = some (K.cells p.1 p.2) := by rw [List.getElem?_map, hi]; rfl
 have hl : i < (P.map K.cs).length := (List.getElem?_eq_some_iff.1 hc).1
 exact ⟨s.idxN hl, s.elem hc, fun f o => s.zr5 hl f o, fun f hf => s.ldv hc hf, ha p (List.mem_of_getElem? hi)⟩
theorem Dl.get (hd : Dl K h x L) {i : Nat} {t : T} (hi : L[i]? = some t) : ∃ a, DEl K h x i t a := by
 obtain ⟨P, R, rfl, s, ha⟩ := hd
 rw [List.getElem?_map] at hi
 obtain ⟨p, hp, rfl⟩ := Option.map_eq_some_iff.1 hi
 exact ⟨p.2, slX_el s ha hp⟩
theorem Dl.mono (hd : Dl K h x L) (hle : h.le h') : Dl K h' x L := by
 obtain ⟨P, R, e, s, ha⟩ := hd
 exact ⟨P, R, e, s.mono hle, fun p hp => K.mono hle (ha p hp)⟩
theorem Dl.zx (hd : Dl K h x L) : V.zx x = some (.int .i64 L.length) := by
 obtain ⟨P, R, rfl, s, ha⟩ := hd
 simpa using s.zx
theorem Dl.ok (hd : Dl K h x L) : ∀ t ∈ L, K.ok t := by
 obtain ⟨P, R, rfl, s, ha⟩ := hd
 intro t ht
 obtain ⟨p, hp, rfl⟩ := List.mem_map.1 ht
 exact K.at_ok (ha p hp)
theorem DK.os_append (b : Bool) (P P' : List (T × Ad)) : K.os b (P ++ P') = K.os b P ++ K.os b P' := List.flatMap_append
theorem DK.os_one (b : Bool) (p : T × Ad) : K.os b [p] = K.obs b p.1 p.2 := by simp [DK.os]
def SameE (K : DK T Ad) [DecidableEq T] (C : CSem) (f : Nat) : Prop := ∀ (t u : T) (a b : Ad) (h : zb) (Q : AVal → zb → Prop), K.at_ h t a → K.at_ h u b → Q (.bool (decide (t = u))) h → C f [.agg (K.cells t a), .agg (K.cells u b)] h Q
def OneE (K : DK T Ad) (b : Bool) (C : CSem) (f : Nat) : Prop := ∀ (t : T) (a : Ad) (h : zb) (Q : AVal → zb → Prop), K.at_ h t a → (∀ a' h', Owns h h' (K.obs b t a') → Q (.agg (K.cells t a')) h') → C f [.agg (K.cells t a)] h Q
def KeptE (K : DK T Ad) [DecidableEq T] (C : CSem) (f : Nat) : Prop := ∀ (t u : T) (a b : Ad) (h : zb) (Q : AVal → zb → Prop), K.ok t → AllAt h (K.obs true t a) → K.at_ h u b → Q (.bool (decide (t = u))) h → C f [.agg (K.cells t a), .agg (K.cells u b)] h Q
def MarkE (K : DK T Ad) (mk : Int → Int → T) (C : CSem) (f : Nat) : Prop := ∀ (k i : Int) (h : zb) (Q : AVal → zb → Prop), (∀ a' h', Owns h h' (K.obs false (mk k i) a') → Q (.agg (K.cells (mk k i) a')) h') → C f [.int .i64 k, .int .i64 i] h Q
theorem fill_agg (K : DK T Ad) (t : T) (a : Ad) : zfr [(0, some K.n, .agg (K.cells t a))] (repL 1 K.z) = some (K.cells t a) := by
 have hrep : repL 1 K.z = K.z := by unfold repL; split <;> simp_all
 have h1 := K.len t a
 rw [hrep]
 simp [h1, K.zlen]
def mks12 (mk : Int → Int → T) : List T := (List.range 12).map fun (i : Nat) => mk 1 (i : Int)
@[simp] def zpg.k1 (C : CSem) (n bytes fm : Nat) (z : List AVal) (Q : AVal → zb → Prop) (Y1 : List AVal → zb → Prop) (v0 v3 v6 : AVal) (h : zb) : Prop :=
 B.pv (V.bin .lss v6 (.int .i64 12)) fun v27 =>
  B.cond v27
  (B.call C fm [(.int .i64 1), v6] h fun v32 h =>
  B.newO h (zfr [(0, some n, v32)] (repL 1 z)) fun i33 h =>
  B.appW h n bytes v3 (.sl i33 0 0 1 n 1) fun v34 h =>
  B.pv (V.bin .add v6 (.int .i64 1)) fun v29 =>
  Y1 [v34, v29] h)
  (B.pv (V.zx v0) fun v37 =>
  B.pv (V.zfj n v3 none (some v37)) fun v38 =>
  Q v38 h)
@[simp] def zpg.l2 (C : CSem) (n bytes fm : Nat) (z : List AVal) (Q : AVal → zb → Prop) (v0 : AVal) : List AVal → zb → (List AVal → zb → Prop) → Prop
 | [v3, v6], h, Y1 => zpg.k1 C n bytes fm z Q Y1 v0 v3 v6 h
 | _, _, _ => False
@[simp] def zpg.k3 (C : CSem) (n bytes fm fl : Nat) (z : List AVal) (Q : AVal → zb → Prop) (Y2 : List AVal → zb → Prop) (v0 v3 v4 : AVal) (h : zb) : Prop :=
 B.pv (V.zx v0) fun v13 =>
  B.pv (V.bin .lss v4 v13) fun v14 =>
  B.cond v14
  (B.pv (V.idxS n v0 v4) fun v19 =>
  B.ldn h v19 n fun v20 =>
  B.call C fl [v20] h fun v21 h =>
  B.pv (V.setN 0 n v21 (.agg z)) fun c5 =>
  B.pv (V.zfs 0 n c5) fun v23 =>
  B.newO h (zfr [(0, some n, v23)] (repL 1 z)) fun i24 h =>
  B.appW h n bytes v3 (.sl i24 0 0 1 n 1) fun v25 h =>
  B.pv (V.bin .add v4 (.int .i64 1)) fun v16 =>
  Y2 [v25, v16] h)
  (zd (zpg.l2 C n bytes fm z Q v0) [v3, (.int .i64 0)] h)
@[simp] def zpg.l4 (C : CSem) (n bytes fm fl : Nat) (z : List AVal) (Q : AVal → zb → Prop) (v0 : AVal) : List AVal → zb → (List AVal → zb → Prop) → Prop
 | [v3, v4], h, Y2 => zpg.k3 C n bytes fm fl z Q Y2 v0 v3 v4 h
 | _, _, _ => False
def zpg (C : CSem) (n bytes fm fl : Nat) (z : List AVal) (v0 : AVal) (h : zb) (Q : AVal → zb → Prop) : Prop :=
 B.pv (V.zx v0) fun v8 =>
  B.pv (V.bin .add v8 (.int .i64 12)) fun v9 =>
  0 < n ∧ B.mks h bytes (some z) (.int .i64 0) v9 fun v10 h =>
  zd (zpg.l4 C n bytes fm fl z Q v0) [v10, (.int .i64 0)] h
theorem setN_whole (K : DK T Ad) (t : T) (a : Ad) : V.setN 0 K.n (.agg (K.cells t a)) (.agg K.z) = some (.agg (K.cells t a)) := by
 simp [K.len t a, K.zlen]
theorem fieldN_whole (K : DK T Ad) (t : T) (a : Ad) : V.zfs 0 K.n (.agg (K.cells t a)) = some (.agg (K.cells t a)) := by
 have := K.len t a
 simp [this]
 rw [← this, List.take_length]
theorem lentD_spec {mk : Int → Int → T} {fm fl : Nat} (sm : MarkE K mk C fm) (sl : OneE K true C fl) {Q : AVal → zb → Prop} (hx : Dl K h x L) (hlen : L.length ≤ 100000000)
  (hq : ∀ x' (P PM : List (T × Ad)) h', P.map (·.1) = L → PM.map (·.1) = mks12 mk → Owns h h' (.sl K.n x' (P.map K.cs) (PM.map K.cs) :: (K.os true P ++ K.os false PM)) → Q x' h') : zpg C K.n K.bytes fm fl K.z x h Q := by
 have hlx := hx.zx
 have hmul : ∀ n : Nat, n ≤ 100000100 → n * K.bytes ≤ 140737488355328 := fun n hn => by
  have := Nat.mul_le_mul hn K.small
  omega
 have e1 : IntKind.i64.wrap ((L.length : Int) + 12) = (L.length : Int) + 12 := wrap_i64 (by omega) (by omega)
 simp -dsimp [zpg, hlx, e1]
 refine ⟨K.pos, (Owns.start h).mks (es := K.n) K.zlen (by omega) (by omega) ?_ (by omega) fun y h1 ho => ?_⟩
 ·have := hmul (L.length + 12) (by omega)
  have e : ((L.length : Int) + 12) * K.bytes = ((L.length + 12) * K.bytes : Nat) := by simp
  rw [e]; omega
 refine zd.intro (fun n vs hh => ∃ (k : Nat) (y : AVal) (P : List (T × Ad)) (R : List (List AVal)), k + n = L.length ∧ vs = [y, .int .i64 k] ∧ P.map (·.1) = L.take k ∧ Owns h hh (.sl K.n y (P.map K.cs) R :: K.os true P)) L.length ?_ ⟨0, y, [], _, by simp, by simp, by simp, by simpa [DK.os] using ho⟩
 rintro Y n vs hh ⟨k, y3, P, R3, hn, rfl, hP, ho3⟩ hY
 have hPl : P.length = k := by have := congrArg List.length hP; simp at this; omega
 simp -dsimp [hlx]
 refine B.zm (fun hc => ?_) (fun hc => ?_) <;> simp -dsimp at hc ⊢
 ·obtain ⟨w, hw⟩ := ze8 hc
  obtain ⟨a, ea⟩ := (hx.mono ho3.le).get hw
  simp -dsimp only [ea.idx, ea.ldn, B.zg, B.zqr]
  refine sl _ _ _ _ ea.at_ fun a' h4 o4 => ?_
  simp -dsimp only [setN_whole K _ a', fieldN_whole K _ a', fill_agg K _ a', B.zg]
  refine (ho3.join o4).push 0 rfl (K.len _ a') K.pos (by simp; exact hmul _ (by omega)) (by simp [maxLen]; omega) fun y5 h5 o5 _ => ?_
  simp -dsimp [zhu (n := k) (by omega)]
  refine hY (L.length - (k + 1)) _ _ (by omega) ⟨k + 1, y5, P ++ [(w, a')], [], by omega, by simp, ?_, ?_⟩
  ·rw [take_succ hw, List.map_append, hP]; rfl
  ·rw [DK.os_append, DK.os_one, List.map_append]
   simpa using o5
 ·have hk : k = L.length := by omega
  rw [hk, List.take_length] at hP
  refine zd.intro (fun n vs hh => ∃ (j : Nat) (y : AVal) (PM : List (T × Ad)) (R : List (List AVal)), j + n = 12 ∧ vs = [y, .int .i64 j] ∧ PM.map (·.1) = (List.range j).map (fun (i : Nat) => mk 1 (i : Int)) ∧ Owns h hh (.sl K.n y (P.map K.cs ++ PM.map K.cs) R :: (K.os true P ++ K.os false PM))) 12 ?_
   ⟨0, y3, [], R3, by simp, by simp, by simp, by simpa [DK.os] using ho3⟩
  rintro Z n' vs h4 ⟨j, y4, PM, R4, hj, rfl, hPM, o4⟩ hZ
  have hMl : PM.length = j := by have := congrArg List.length hPM; simpa using this
  simp -dsimp only [zpg.l2, zpg.k1, V.zfm, B.zg]
  refine B.zm (fun hd => ?_) (fun hd => ?_) <;> simp -dsimp at hd
  ·refine sm _ _ _ _ fun a' h5 o5 => ?_
   simp -dsimp only [fill_agg K _ a']
   refine (o4.join o5).push 0 rfl (K.len _ a') K.pos (by simp; exact hmul _ (by omega)) (by simp [maxLen]; omega) fun y6 h6 o6 _ => ?_
   simp -dsimp [zhu (n := j) (by omega)]
   refine hZ (12 - (j + 1)) _ _ (by omega) ⟨j + 1, y6, PM ++ [(mk 1 j, a')], [], by omega, by simp, ?_, ?_⟩
   ·rw [List.map_append, hPM, List.range_succ, List.map_append]; rfl
   ·rw [DK.os_append, DK.os_one, List.map_append]
    simpa using o6
  ·have hj12 : j = 12 := by omega
   subst hj12
   obtain ⟨x', e2, e3, e4⟩ := (o4.slAt 0 rfl).slice K.pos (lo := 0) (hi := L.length) (a := none) (b := some (.int .i64 L.length)) (.inl ⟨rfl, rfl⟩) (.inr ⟨_, rfl⟩) (by omega) (by simp; omega)
   simp -dsimp only [hlx, e2, B.zg]
   have h1 : ((P.map K.cs ++ PM.map K.cs ++ R4).take L.length).drop 0 = P.map K.cs := by
    rw [List.append_assoc, List.take_append_of_le_length (by simp; omega), List.take_of_length_le (by simp; omega), List.drop_zero]
   have h2 : (P.map K.cs ++ PM.map K.cs ++ R4).drop L.length = PM.map K.cs ++ R4 := by
    rw [List.append_assoc, List.drop_append_of_le_length (by simp; omega), List.drop_of_length_le (by simp; omega), List.nil_append]
   rw [h1, h2] at e3
   have e5 : SlX h4 K.n x' (P.map K.cs) (PM.map K.cs) := e3.cutR
   refine hq x' P PM h4 hP hPM ?_
   exact o4.turn 0 rfl (o' := .sl K.n x' (P.map K.cs) (PM.map K.cs)) e5 (fun id b hf hb => o4.zng 0 rfl id b (by show foot y4 = some id; rw [← e4]; exact hf) hb) (fun j b hb _ => hb) (.inl e4)
def zq8 (K : DK T Ad) (mk : Int → Int → T) (h : zb) (x : AVal) (L : List T) : Prop :=
 ∃ P PM : List (T × Ad), P.map (·.1) = L ∧ PM.map (·.1) = mks12 mk ∧ SlX h K.n x (P.map K.cs) (PM.map K.cs) ∧ AllAt h (K.os true P) ∧ (∀ p ∈ P, K.ok p.1) ∧ ∀ p ∈ PM, K.at_ h p.1 p.2
theorem zq8.mono {mk : Int → Int → T} (hd : zq8 K mk h x L) (hle : h.le h') : zq8 K mk h' x L := by
 obtain ⟨P, PM, e1, e2, s, a1, a0, a2⟩ := hd
 exact ⟨P, PM, e1, e2, s.mono hle, a1.mono hle, a0, fun p hp => K.mono hle (a2 p hp)⟩
theorem zq8.dl {mk : Int → Int → T} (hd : zq8 K mk h x L) : Dl K h x L := by
 obtain ⟨P, PM, e1, e2, s, a1, a0, a2⟩ := hd
 exact ⟨P, _, e1, s, fun p hp => K.ofObs (a0 p hp) fun o ho => a1 o (List.mem_flatMap.2 ⟨p, hp, ho⟩)⟩
theorem mks12_ok {mk : Int → Int → T} {PM : List (T × Ad)} (hmk : ∀ k i, K.ok (mk k i)) (e2 : PM.map (·.1) = mks12 mk) : ∀ p ∈ PM, K.ok p.1 := fun p hp => by
 have : p.1 ∈ PM.map (·.1) := List.mem_map.2 ⟨p, hp, rfl⟩
 rw [e2, mks12, List.mem_map] at this
 obtain ⟨i, _, e⟩ := this
 rw [← e]; exact hmk _ _
theorem zq8.of {mk : Int → Int → T} {P PM : List (T × Ad)} (hmk : ∀ k i, K.ok (mk k i)) (hok : ∀ t ∈ L, K.ok t) (e1 : P.map (·.1) = L) (e2 : PM.map (·.1) = mks12 mk) (ho : Owns h0 h (.sl K.n x (P.map K.cs) (PM.map K.cs) :: (K.os true P ++ K.os false PM))) : zq8 K mk h x L :=
 ⟨P, PM, e1, e2, ho.slAt 0 rfl, fun o hm => ho.is o (List.mem_cons_of_mem _ (List.mem_append_left _ hm)), fun p hp => hok _ (e1 ▸ List.mem_map.2 ⟨p, hp, rfl⟩), fun p hp => K.ofObs (mks12_ok hmk e2 p hp) fun o hm => ho.is o (List.mem_cons_of_mem _ (List.mem_append_right _ (List.mem_flatMap.2 ⟨p, hp, hm⟩)))⟩
@[simp] def keptD.k1 (C : CSem) (n fk fm fs : Nat) (Q : AVal → zb → Prop) (Y1 : List AVal → zb → Prop) (v1 v5 v6 : AVal) (h : zb) : Prop :=
 B.pv (V.zx v5) fun v19 =>
  B.pv (V.bin .lss v6 v19) fun v20 =>
  B.cond v20
  (B.pv (V.zx v1) fun v25 =>
  B.pv (V.bin .lss v6 v25) fun v26 =>
  B.gd h v26 true (fun K => K v5 h) fun v28 h =>
  B.gd h v26 true (fun K => K v6 h) fun v29 h =>
  B.gd h v26 true (fun K => B.pv (V.idxS n v28 v29) fun v => K v h) fun v30 h =>
  B.gd h v26 true (fun K => B.ldn h v30 n fun v => K v h) fun v31 h =>
  B.gd h v26 true (fun K => K v1 h) fun v32 h =>
  B.gd h v26 true (fun K => K v6 h) fun v33 h =>
  B.gd h v26 true (fun K => B.pv (V.idxS n v32 v33) fun v => K v h) fun v34 h =>
  B.gd h v26 true (fun K => B.ldn h v34 n fun v => K v h) fun v35 h =>
  B.gd h v26 true (fun K => B.call C fk [v31, v35] h K) fun v36 h =>
  B.gd h v26 true (fun K => B.pv (V.un .not v36) fun v => K v h) fun v37 h =>
  B.pick v26 v37 (.bool false) fun v38 =>
  B.gd h v38 false (fun K => K v6 h) fun v40 h =>
  B.gd h v38 false (fun K => K v1 h) fun v41 h =>
  B.gd h v38 false (fun K => B.pv (V.zx v41) fun v => K v h) fun v42 h =>
  B.gd h v38 false (fun K => B.pv (V.bin .geq v40 v42) fun v => K v h) fun v43 h =>
  B.gd h v38 false (fun K => K v43 h) fun v44 h =>
  B.gd h v44 true (fun K => K v5 h) fun v45 h =>
  B.gd h v44 true (fun K => K v6 h) fun v46 h =>
  B.gd h v44 true (fun K => B.pv (V.idxS n v45 v46) fun v => K v h) fun v47 h =>
  B.gd h v44 true (fun K => B.ldn h v47 n fun v => K v h) fun v48 h =>
  B.gd h v44 true (fun K => K v6 h) fun v49 h =>
  B.gd h v44 true (fun K => K v1 h) fun v50 h =>
  B.gd h v44 true (fun K => B.pv (V.zx v50) fun v => K v h) fun v51 h =>
  B.gd h v44 true (fun K => B.pv (V.bin .sub v49 v51) fun v => K v h) fun v52 h =>
  B.gd h v44 true (fun K => B.call C fm [(.int .i64 1), v52] h (B.zht h [(v47, some n)] K)) fun v53 h =>
  B.gd h v44 true (fun K => B.call C fs [v48, v53] h K) fun v54 h =>
  B.gd h v44 true (fun K => B.pv (V.un .not v54) fun v => K v h) fun v55 h =>
  B.gd h v38 false (fun K => B.pick v44 v55 (.bool false) fun v => K v h) fun v56 h =>
  B.pick v38 (.bool true) v56 fun v57 =>
  B.cond v57
  (Q (.bool false) h)
  (B.pv (V.bin .add v6 (.int .i64 1)) fun v22 =>
  Y1 [v22] h))
  (Q (.bool true) h)
@[simp] def keptD.l2 (C : CSem) (n fk fm fs : Nat) (Q : AVal → zb → Prop) (v1 v5 : AVal) : List AVal → zb → (List AVal → zb → Prop) → Prop
 | [v6], h, Y1 => keptD.k1 C n fk fm fs Q Y1 v1 v5 v6 h
 | _, _, _ => False
@[simp] def keptD.k3 (C : CSem) (n fk fm fs : Nat) (Q : AVal → zb → Prop) (v0 v1 : AVal) (h : zb) : Prop :=
 B.pv (V.zx v1) fun v14 =>
  B.pv (V.bin .add v14 (.int .i64 12)) fun v15 =>
  B.pv (V.zfj n v0 none (some v15)) fun v16 =>
  zd (keptD.l2 C n fk fm fs Q v1 v16) [(.int .i64 0)] h
def keptD (C : CSem) (n fk fm fs : Nat) (v0 v1 : AVal) (h : zb) (Q : AVal → zb → Prop) : Prop :=
 B.pv (V.zx v0) fun v8 =>
  B.pv (V.zx v1) fun v10 =>
  B.pv (V.bin .neq v8 v10) fun v11 =>
  B.cond v11
  (Q (.bool false) h)
  (keptD.k3 C n fk fm fs Q v0 v1 h)
theorem keptD_spec [DecidableEq T] {mk : Int → Int → T} {fk fm fs : Nat} (hmk : ∀ k i, K.ok (mk k i)) (sk : KeptE K C fk) (sm : MarkE K mk C fm) (ss : SameE K C fs) {y : AVal} {Q : AVal → zb → Prop} (hx : zq8 K mk h x L) (hy : Dl K h y M) (hlen : L.length ≤ 100000000)
  (hq : ∀ h', h.le h' → Q (.bool (decide (L = M))) h') : keptD C K.n fk fm fs x y h Q := by
 have hlx := hx.dl.zx
 have hly := hy.zx
 simp -dsimp [keptD, hlx, hly]
 refine B.zm (fun hb => ?_) (fun hb => ?_) <;> simp -dsimp at hb ⊢
 ·have hq := hq h (zb.le_refl h)
  rw [decide_eq_false fun e => hb (by rw [e])] at hq
  exact hq
 ·obtain ⟨P, PM, rfl, hPM, s, a1, a0, a2⟩ := hx
  have hMl : PM.length = 12 := by have := congrArg List.length hPM; simpa [mks12] using this
  rw [List.length_map] at hb hlen
  have e1 : IntKind.i64.wrap ((M.length : Int) + 12) = ((M.length + 12 : Nat) : Int) := by rw [wrap_i64 (by omega) (by omega)]; omega
  obtain ⟨z, e2, e3, e4⟩ := s.slice K.pos (lo := 0) (hi := M.length + 12) (a := none) (b := some (.int .i64 ((M.length + 12 : Nat) : Int))) (.inl ⟨rfl, rfl⟩) (.inr ⟨_, rfl⟩) (by omega) (by simp; omega)
  have h1 : ((P.map K.cs ++ PM.map K.cs).take (M.length + 12)).drop 0 = (P ++ PM).map K.cs := by rw [List.drop_zero, List.take_of_length_le, List.map_append]; simp; omega
  rw [h1] at e3
  have hlz := e3.zx
  simp only [List.length_map, List.length_append, hMl] at hlz
  simp only [hly, V.zdk, e1, e2, B.zg]
  refine zd.intro (fun n vs hh => ∃ k, k + n = P.length + 12 ∧ vs = [.int .i64 k] ∧ h.le hh ∧ (P.map (·.1)).take k = M.take k) (P.length + 12) ?_ ⟨0, by simp, by simp, zb.le_refl h, by simp⟩
  rintro Y n vs hh ⟨k, hn, rfl, hle, he⟩ hY
  have e3 := e3.mono hle
  simp -dsimp [hlz]
  refine B.zm (fun hc => ?_) (fun hc => ?_) <;> simp -dsimp at hc ⊢
  ·by_cases hkL : k < P.length
   ·obtain ⟨p, hp⟩ := ze8 hkL
    have hkM : k < M.length := by omega
    obtain ⟨u, hu⟩ := ze8 hkM
    obtain ⟨b, eb⟩ := (hy.mono hle).get hu
    have hpz : ((P ++ PM).map K.cs)[k]? = some (K.cells p.1 p.2) := by rw [List.getElem?_map, List.getElem?_append_left hkL, hp]; rfl
    have hkz : k < ((P ++ PM).map K.cs).length := by simp; omega
    have e5 := e3.elem hpz
    have e6 := e3.idxN (k := .i64) hkz
    have hw : (P.map (·.1))[k]? = some p.1 := by rw [List.getElem?_map, hp]; rfl
    simp -dsimp only [hly, V.zfm, show ((k : Int) < (M.length : Int)) by omega, decide_true, B.gd_t, B.zps, B.zea, zoi, e6, e5, eb.idx, eb.ldn, B.zg, B.zqr]
    refine sk _ _ _ _ _ _ (a0 p (List.mem_of_getElem? hp)) (AllAt.mono (l := K.obs true p.1 p.2) (fun o ho => a1 o (List.mem_flatMap.2 ⟨p, List.mem_of_getElem? hp, ho⟩)) hle) eb.at_ ?_
    simp -dsimp only [B.gd_t, B.zea, V.zkh, B.zg, B.zh0]
    by_cases hwu : p.1 = u
    ·simp -dsimp only [hwu, decide_true, Bool.not_true, B.gd_f, Bool.not_false, B.zea, hly, V.zkw, show ¬ ((M.length : Int) ≤ (k : Int)) by omega, decide_false, B.gd_t, B.ze9, B.zii, B.zg, B.cond_false, V.zdk, zhu (n := k) (by omega)]
     refine hY (P.length + 12 - (k + 1)) _ _ (by omega) ⟨k + 1, by omega, rfl, hle, ?_⟩
     rw [take_succ hw, take_succ hu, he, hwu]
    ·simp -dsimp only [hwu, decide_false, Bool.not_false, B.gd_f, Bool.not_true, B.ze9, B.zh0, B.cond_true, B.gd_tup]
     have hq := hq hh hle
     rw [decide_eq_false fun e => by rw [e, hu] at hw; cases hw; exact hwu rfl] at hq
     exact hq
   ·have hkM : ¬ k < M.length := by omega
    obtain ⟨p, hp⟩ := ze8 (L := PM) (k := k - P.length) (by omega)
    have hpz : ((P ++ PM).map K.cs)[k]? = some (K.cells p.1 p.2) := by rw [List.getElem?_map, List.getElem?_append_right (by omega), hp]; rfl
    have hkz : k < ((P ++ PM).map K.cs).length := by simp; omega
    have e5 := e3.elem hpz
    have e6 := e3.idxN (k := .i64) hkz
    have hm : p.1 = mk 1 ((k - M.length : Nat) : Int) := by
     have : (PM.map (·.1))[k - P.length]? = some p.1 := by rw [List.getElem?_map, hp]; rfl
     rw [hPM, mks12, List.getElem?_map, List.getElem?_range (by omega)] at this
     simp only [Option.map_some, Option.some.injEq] at this
     rw [← this]; congr 2; omega
    have e7 : IntKind.i64.wrap ((k : Int) - M.length) = ((k - M.length : Nat) : Int) := by rw [wrap_i64 (by omega) (by omega)]; omega
    simp -dsimp only [hly, V.zfm, show ¬ ((k : Int) < (M.length : Int)) by omega, decide_false, B.gd_t, B.zps, B.ze9, gv_false, B.zii, B.gd_f, Bool.not_false, B.zea, zoi, V.zkw, show ((M.length : Int) ≤ (k : Int)) by omega, decide_true, e6, e5, V.zff, e7, B.zg, B.zqr]
    refine sm _ _ _ _ fun a' h5 o5 => ⟨?_, ?_⟩
    ·intro q hq
     rw [List.mem_singleton.1 hq]
     exact ⟨_, e5, (e3.mono o5.le).elem hpz⟩
    ·simp -dsimp only [zoi, B.gd_t, B.zea, B.zg, decide_true]
     refine ss _ _ _ _ _ _ (K.mono (zb.le_trans hle o5.le) (a2 p (List.mem_of_getElem? hp))) (K.ofObs (hmk _ _) o5.is) ?_
     simp -dsimp only [hm, zoi, decide_true, decide_false, V.zkh, Bool.not_true, Bool.not_false, B.gd_t, B.gd_f, B.zea, B.zh0, B.zii, B.zg, B.cond_false, V.zdk, zhu (n := k) (by omega)]
     refine hY (P.length + 12 - (k + 1)) _ _ (by omega) ⟨k + 1, by omega, rfl, zb.le_trans hle o5.le, ?_⟩
     rw [List.take_of_length_le (by simp; omega), List.take_of_length_le (by omega)] at he ⊢
     exact he
  ·have hq := hq hh hle
   rw [List.take_of_length_le (by simp; omega), List.take_of_length_le (by omega)] at he
   rw [decide_eq_true he] at hq
   exact hq
end
end Go.Ab
set_option maxRecDepth 100000
namespace Go.Ab
variable {C : CSem} {N : Nat → Nat}
@[irreducible] def mark (k i : Int) : Int := IntKind.i64.wrap (IntKind.i64.wrap (1000003 * IntKind.i64.wrap (k + 7)) + i)
def zfc.Spec (C : CSem) (N : Nat → Nat) : Prop := ∀ (k i : Int) (h : zb) (Q : AVal → zb → Prop), Q (.int .i64 (mark k i)) h → C (N 20) [.int .i64 k, .int .i64 i] h Q
theorem zfc.spec (i : zfc.Imp C N) : zfc.Spec C N := by
 intro k j h Q hq
 apply i
 simp +contextual -dsimp
 unfold mark at hq
 exact zbi hq
structure LL where
 x : AVal
 n : Nat
 xs : Nat → AVal
 D : Nat → List (List AVal)
 R : Nat → List (List AVal)
 W : List (List AVal)
def LL.obs (es : Nat) (t : LL) : List Ob := Objs es t.n t.xs t.D t.R
structure LL.ok (t : LL) (h0 : zb) : Prop where
 is : SlX h0 1 t.x (zgb t.n fun j => [t.xs j]) t.W
 n_le : t.n ≤ 100000000
 zrx : ∀ j, j < t.n → (t.D j).length ≤ 100000000
def zk9 (C : CSem) (es g : Nat) : Prop := ∀ (t : LL) (h0 h : zb) (Q : AVal → zb → Prop), t.ok h0 → Owns h0 h (t.obs es) → (∀ h', h0.le h' → Q (.bool true) h') → C g [t.x] h Q
def zdp (C : CSem) (g : Nat) : Prop := ∀ (x : AVal) (W : List (List AVal)) (h0 h : zb) (Q : AVal → zb → Prop), SlX h0 1 x [] W → h0.le h → (∀ h', h0.le h' → Q (.bool true) h') → C g [x] h Q
theorem zd.once {F : List AVal → zb → (List AVal → zb → Prop) → Prop} {vs : List AVal} {h : zb} (hF : ∀ Y, F vs h Y) : zd F vs h := fun Y hY => hY vs h (hF Y)
theorem zfh {E : z4} {x : AVal} {W : List (List AVal)} {h0 h : zb} {Q : AVal → zb → Prop} (hx : SlX h0 1 x [] W) (hle : h0.le h) (hq : ∀ h', h0.le h' → Q (.bool true) h') : ze E C x h Q := by
 have hl := (hx.mono hle).zx
 refine zd.once fun Y1 => ?_
 simp -dsimp [hl]
 refine (Owns.start h).mks (bytes := 24) (es := 1) (n := 0) (c := 0) (z := [.nils]) rfl (by omega) (by omega) (by omega) (by omega) fun y h1 ho => ?_
 have hl1 := (hx.mono (zb.le_trans hle ho.le)).zx
 refine zd.once fun Y2 => ?_
 simp -dsimp [hl1]
 refine zd.once fun Y3 => ?_
 simp -dsimp [hl1]
 refine zd.once fun Y4 => ?_
 simp -dsimp [hl1]
 refine zd.once fun Y5 => ?_
 simp -dsimp [hl1]
 exact hq _ (zb.le_trans hle ho.le)
def zk0 (k i : Int) : Part := ⟨[], mark k i⟩
def zdn.Spec (C : CSem) (N : Nat → Nat) : Prop := ∀ (k i : Int) (h : zb) (Q : AVal → zb → Prop), Q (.agg (zk0 k i).cs) h → C (N 108) [.int .i64 k, .int .i64 i] h Q
theorem zdn.spec (i : zdn.Imp C N) (s1 : zfc.Spec C N) : zdn.Spec C N := by
 intro k j h Q hq
 apply i
 simp +contextual -dsimp
 refine s1 _ _ _ _ ?_
 simp +contextual -dsimp
 exact zbi hq
abbrev zin : List (List AVal) := marks partF (zk0 1) 12
def zdd.Spec (C : CSem) (N : Nat → Nat) : Prop := ∀ (x y : AVal) (L M : List Part) (R S : List (List AVal)) (h : zb) (Q : AVal → zb → Prop), SlX h 2 x (L.map Part.cs) R → SlX h 2 y (M.map Part.cs) S → L.length < 4611686018427387904 →
 Q (.bool (decide (L = M))) h → C (N 132) [x, y] h Q
theorem zdd.spec (i : zdd.Imp C N) : zdd.Spec C N := fun x y L M R S h Q hx hy hlen hq =>
 i x y h Q (sameG_spec partF hx hy hlen (zbi hq))
def zdf.Spec (C : CSem) (N : Nat → Nat) : Prop := ∀ (x : AVal) (L : List Part) (R : List (List AVal)) (h : zb) (Q : AVal → zb → Prop), SlX h 2 x (L.map Part.cs) R → L.length ≤ 100000000 →
 (∀ x' h', Owns h h' [.sl 2 x' (L.map Part.cs) zin] → Q x' h') → C (N 319) [x] h Q
theorem zdf.spec (i : zdf.Imp C N) (s1 : zdn.Spec C N) : zdf.Spec C N := fun x L R h Q hx hlen hq =>
 i x h Q (lentG_spec partF (z := [.str [], .int .i64 0]) (m := 1) (mk := zk0 1) rfl (by omega) (s1 1) hx hlen fun x' h' ho => zbi (hq x' h' ho))
def zc2.Spec (C : CSem) (N : Nat → Nat) : Prop := ∀ (x y : AVal) (L M : List Part) (R : List (List AVal)) (h : zb) (Q : AVal → zb → Prop), SlX h 2 x (L.map Part.cs) zin → SlX h 2 y (M.map Part.cs) R → L.length ≤ 100000000 →
 Q (.bool (decide (L = M))) h → C (N 324) [x, y] h Q
theorem zc2.spec (i : zc2.Imp C N) (s1 : zdn.Spec C N) : zc2.Spec C N := fun x y L M R h Q hx hy hlen hq =>
 i x y h Q (keptG_spec partF (m := 1) (mk := zk0 1) (s1 1) hx hy hlen (zbi hq))
def zdm.Spec (C : CSem) (N : Nat → Nat) : Prop := ∀ (h0 h : zb) (x : AVal) (L R : List (List AVal)) (Q : AVal → zb → Prop), Owns h0 h [.sl 2 x L R] → R.length = 12 → L.length ≤ 100000000 → (∀ h', h0.le h' → Q (.tup []) h') → C (N 408) [x] h Q
theorem zdm.spec (i : zdm.Imp C N) (s1 : zdn.Spec C N) : zdm.Spec C N := fun h0 h x L R Q ho hR hlen hq =>
 i x h Q (zrp (es := 2) (st := fun h p v K => B.stn h p 2 v K) (by omega) (v := fun i => .agg (zk0 2 i).cs) (s1 2) (fun {_ _ _ _ _ _ k _} ho hi hK => over_stN (xs := (zk0 2 k).cs) rfl ho hi hK) ho hR hlen fun h' hle => zbi (hq h' hle))
@[irreducible] def zjx (k i : Int) : List UInt8 := [35, byt k, byt (k.fdiv 256), byt (k.fdiv 65536), 47, byt i, byt (i.fdiv 256), byt (i.fdiv 65536)]
def zdh.Spec (C : CSem) (N : Nat → Nat) : Prop := ∀ (k i : Int) (h : zb) (Q : AVal → zb → Prop), Q (.str (zjx k i)) h → C (N 106) [.int .i64 k, .int .i64 i] h Q
theorem zdh.spec (i : zdh.Imp C N) : zdh.Spec C N := by
 intro k j h Q hq
 apply i
 simp +contextual -dsimp [bin_shr (k := .i64) (j := .u64) (b := 8) (by omega) (by simp [IntKind.bits]), bin_shr (k := .i64) (j := .u64) (b := 16) (by omega) (by simp [IntKind.bits]), u8_byt]
 intro id hid
 unfold zjx at hq
 have hx : SlX (upd h id (zeh [.int .u8 35, .int .u8 ((byt k).toNat : Int), .int .u8 ((byt (k.fdiv 256)).toNat : Int), .int .u8 ((byt (k.fdiv 65536)).toNat : Int), .int .u8 47, .int .u8 ((byt j).toNat : Int), .int .u8 ((byt (j.fdiv 256)).toNat : Int), .int .u8 ((byt (j.fdiv 65536)).toNat : Int)])) 1 (.sl id 0 0 8 1 8) (([35, byt k, byt (k.fdiv 256), byt (k.fdiv 65536), 47, byt j, byt (j.fdiv 256), byt (j.fdiv 65536)] : List UInt8).map bc) [] :=
  SlX.lit (zbu ..) (by simp) rfl (by simp) rfl
 rw [bytesStr_bc hx]
 exact zkf (zgh _ hid) hq
abbrev zhq : List (List AVal) := zf4 tS (zjx 1) 12
def zc7.Spec (C : CSem) (N : Nat → Nat) : Prop := ∀ (x y : AVal) (L M : List (List UInt8)) (R S : List (List AVal)) (h : zb) (Q : AVal → zb → Prop), SlX h 1 x (L.map tc) R → SlX h 1 y (M.map tc) S → L.length < 4611686018427387904 →
 Q (.bool (decide (L = M))) h → C (N 133) [x, y] h Q
theorem zc7.spec (i : zc7.Imp C N) : zc7.Spec C N := fun x y L M R S h Q hx hy hlen hq =>
 i x y h Q (sameS_spec tS hx hy hlen (zbi hq))
def zde.Spec (C : CSem) (N : Nat → Nat) : Prop := ∀ (x : AVal) (L : List (List UInt8)) (R : List (List AVal)) (h : zb) (Q : AVal → zb → Prop), SlX h 1 x (L.map tc) R → L.length ≤ 100000000 →
 (∀ x' h', Owns h h' [.sl 1 x' (L.map tc) zhq] → Q x' h') → C (N 406) [x] h Q
theorem zde.spec (i : zde.Imp C N) (s1 : zdh.Spec C N) : zde.Spec C N := fun x L R h Q hx hlen hq =>
 i x h Q (lentS_spec tS (z := .str []) (m := 1) (mk := zjx 1) (by omega) (s1 1) hx hlen fun x' h' ho => zbi (hq x' h' ho))
def zc1.Spec (C : CSem) (N : Nat → Nat) : Prop := ∀ (x y : AVal) (L M : List (List UInt8)) (R : List (List AVal)) (h : zb) (Q : AVal → zb → Prop), SlX h 1 x (L.map tc) zhq → SlX h 1 y (M.map tc) R → L.length ≤ 100000000 →
 Q (.bool (decide (L = M))) h → C (N 407) [x, y] h Q
theorem zc1.spec (i : zc1.Imp C N) (s1 : zdh.Spec C N) : zc1.Spec C N := fun x y L M R h Q hx hy hlen hq =>
 i x y h Q (keptS_spec tS (m := 1) (mk := zjx 1) (s1 1) hx hy hlen (zbi hq))
def zdl.Spec (C : CSem) (N : Nat → Nat) : Prop := ∀ (h0 h : zb) (x : AVal) (L R : List (List AVal)) (Q : AVal → zb → Prop), Owns h0 h [.sl 1 x L R] → R.length = 12 → L.length ≤ 100000000 → (∀ h', h0.le h' → Q (.tup []) h') → C (N 409) [x] h Q
theorem zdl.spec (i : zdl.Imp C N) (s1 : zdh.Spec C N) : zdl.Spec C N := fun h0 h x L R Q ho hR hlen hq =>
 i x h Q (zrp (es := 1) (st := fun h p v K => B.st h p v K) (by omega) (v := fun i => .str (zjx 2 i)) (s1 2) (fun ho hi hK => over_stS rfl ho hi hK) ho hR hlen fun h' hle => zbi (hq h' hle))
theorem zee.spec (i : zee.Imp C N) (s1 : zdh.Spec C N) : zk9 C 1 (N 83) := fun t h0 h Q ht ho hq =>
 i t.x h Q (flatG_spec (elS (bytes := 16) (z := .str []) (mv := fun k i => .str (zjx k i)) (fun _ _ => rfl) (fun _ _ => by rw [V.znx]; simp) (by omega) s1) ht.is ho ht.n_le ht.zrx fun h' hle => zbi (hq h' hle))
theorem zel.nil (i : zel.Imp C N) : zdp C (N 81) := fun x W h0 h Q hx hle hq => i x h Q (zfh hx hle fun h' hle => zbi (hq h' hle))
theorem zbc.nil (i : zbc.Imp C N) : zdp C (N 90) := fun x W h0 h Q hx hle hq => i x h Q (zfh hx hle fun h' hle => zbi (hq h' hle))
theorem zbo.nil (i : zbo.Imp C N) : zdp C (N 92) := fun x W h0 h Q hx hle hq => i x h Q (zfh hx hle fun h' hle => zbi (hq h' hle))
theorem z8.nil (i : z8.Imp C N) : zdp C (N 93) := fun x W h0 h Q hx hle hq => i x h Q (zfh hx hle fun h' hle => zbi (hq h' hle))
theorem z3.nil (i : z3.Imp C N) : zdp C (N 94) := fun x W h0 h Q hx hle hq => i x h Q (zfh hx hle fun h' hle => zbi (hq h' hle))
theorem zbn.nil (i : zbn.Imp C N) : zdp C (N 95) := fun x W h0 h Q hx hle hq => i x h Q (zfh hx hle fun h' hle => zbi (hq h' hle))
theorem z7.nil (i : z7.Imp C N) : zdp C (N 96) := fun x W h0 h Q hx hle hq => i x h Q (zfh hx hle fun h' hle => zbi (hq h' hle))
theorem zbd.nil (i : zbd.Imp C N) : zdp C (N 97) := fun x W h0 h Q hx hle hq => i x h Q (zfh hx hle fun h' hle => zbi (hq h' hle))
theorem zw.nil (i : zw.Imp C N) : zdp C (N 98) := fun x W h0 h Q hx hle hq => i x h Q (zfh hx hle fun h' hle => zbi (hq h' hle))
theorem zbb.nil (i : zbb.Imp C N) : zdp C (N 99) := fun x W h0 h Q hx hle hq => i x h Q (zfh hx hle fun h' hle => zbi (hq h' hle))
theorem zu.nil (i : zu.Imp C N) : zdp C (N 100) := fun x W h0 h Q hx hle hq => i x h Q (zfh hx hle fun h' hle => zbi (hq h' hle))
theorem zba.nil (i : zba.Imp C N) : zdp C (N 101) := fun x W h0 h Q hx hle hq => i x h Q (zfh hx hle fun h' hle => zbi (hq h' hle))
theorem z9.nil (i : z9.Imp C N) : zdp C (N 102) := fun x W h0 h Q hx hle hq => i x h Q (zfh hx hle fun h' hle => zbi (hq h' hle))
theorem zj.nil (i : zj.Imp C N) : zdp C (N 80) := by
 intro x W h0 h Q hx hle hq
 apply i
 have hl := (hx.mono hle).zx
 refine zd.once fun Y1 => ?_
 simp -dsimp [hl]
 refine (Owns.start h).mks (bytes := 24) (es := 1) (n := 0) (c := 0) (z := [.nils]) rfl (by omega) (by omega) (by omega) (by omega) fun y h1 ho => ?_
 have hl1 := (hx.mono (zb.le_trans hle ho.le)).zx
 refine zd.once fun Y2 => ?_
 simp -dsimp [hl1]
 refine zd.once fun Y3 => ?_
 simp -dsimp [hl1]
 refine zd.once fun Y4 => ?_
 simp -dsimp [hl1]
 refine zd.once fun Y5 => ?_
 simp -dsimp [hl1]
 exact zbi (hq _ (zb.le_trans hle ho.le))
theorem zk.nil (i : zk.Imp C N) : zdp C (N 82) := by
 intro x W h0 h Q hx hle hq
 apply i
 have hl := (hx.mono hle).zx
 refine zd.once fun Y1 => ?_
 simp -dsimp [hl]
 refine (Owns.start h).mks (bytes := 24) (es := 1) (n := 0) (c := 0) (z := [.nils]) rfl (by omega) (by omega) (by omega) (by omega) fun y h1 ho => ?_
 have hl1 := (hx.mono (zb.le_trans hle ho.le)).zx
 refine zd.once fun Y2 => ?_
 simp -dsimp [hl1]
 refine zd.once fun Y3 => ?_
 simp -dsimp [hl1]
 refine zd.once fun Y4 => ?_
 simp -dsimp [hl1]
 refine zd.once fun Y5 => ?_
 simp -dsimp [hl1]
 exact zbi (hq _ (zb.le_trans hle ho.le))
end Go.Ab
namespace Go.Ab
variable {C : CSem} {N : Nat → Nat}
structure Itm where
 Code : List UInt8
 Life : Int
 zb7 : List Part
 zby : List (List UInt8)
 deriving DecidableEq
def few : Nat := 100000000
abbrev Itm.ok (t : Itm) : Prop := t.zb7.length ≤ few ∧ t.zby.length ≤ few
def zn7 (b : Bool) (x : AVal) (l : List Part) : Ob := .sl 2 x (l.map Part.cs) (bif b then zin else [])
def znz (b : Bool) (x : AVal) (l : List (List UInt8)) : Ob := .sl 1 x (l.map tc) (bif b then zhq else [])
def zej : DK Itm (AVal × AVal) where
 n := 4
 bytes := 72
 z := [.str [], .int .i64 0, .nils, .nils]
 pos := by omega
 small := by omega
 zlen := rfl
 cells t a := [.str t.Code, .int .i64 t.Life, a.1, a.2]
 len _ _ := rfl
 at_ h t a := (∃ R, SlX h 2 a.1 (t.zb7.map Part.cs) R) ∧ (∃ R, SlX h 1 a.2 (t.zby.map tc) R) ∧ t.ok
 mono hle ha := ⟨ha.1.imp fun _ r => r.mono hle, ha.2.1.imp fun _ r => r.mono hle, ha.2.2⟩
 ok := Itm.ok
 at_ok ha := ha.2.2
 obs b t a := [zn7 b a.1 t.zb7, znz b a.2 t.zby]
 ofObs {b h t a} hk ha := ⟨⟨_, show SlX h 2 a.1 (t.zb7.map Part.cs) (bif b then zin else []) from ha (zn7 b a.1 t.zb7) (by simp)⟩, ⟨_, show SlX h 1 a.2 (t.zby.map tc) (bif b then zhq else []) from ha (znz b a.2 t.zby) (by simp)⟩, hk⟩
abbrev zlu (t : Itm) (a : AVal × AVal) : List AVal := [.str t.Code, .int .i64 t.Life, a.1, a.2]
theorem Itm.eq_iff (t u : Itm) : t = u ↔ ((t.Code = u.Code ∧ t.Life = u.Life) ∧ t.zb7 = u.zb7) ∧ t.zby = u.zby := by
 cases t; cases u; simp [Itm.mk.injEq, and_assoc]
def zds.Spec (C : CSem) (N : Nat → Nat) : Prop := SameE zej C (N 110)
theorem zds.spec (i : zds.Imp C N) (s1 : zdd.Spec C N) (s2 : zc7.Spec C N) : zds.Spec C N := by
 intro t u a b h Q ha hb hq
 obtain ⟨⟨R1, a1⟩, ⟨R2, a2⟩, a3, a4⟩ : (∃ R, SlX h 2 a.1 (t.zb7.map Part.cs) R) ∧ (∃ R, SlX h 1 a.2 (t.zby.map tc) R) ∧ t.ok := ha
 obtain ⟨⟨S1, b1⟩, ⟨S2, b2⟩, b3, b4⟩ : (∃ R, SlX h 2 b.1 (u.zb7.map Part.cs) R) ∧ (∃ R, SlX h 1 b.2 (u.zby.map tc) R) ∧ u.ok := hb
 unfold few at a3 a4
 apply i
 simp +contextual -dsimp [zej]
 refine B.zpt (v := .bool (decide (t.zb7 = u.zb7))) (fun _ Q hq => s1 _ _ _ _ _ _ _ _ a1 b1 (by omega) hq) ?_
 simp +contextual -dsimp
 refine B.zpt (v := .bool (decide (t.zby = u.zby))) (fun _ Q hq => s2 _ _ _ _ _ _ _ _ a2 b2 (by omega) hq) ?_
 simp -dsimp
 refine zbi ?_
 have : decide (t = u) = (((decide (t.Code = u.Code) && decide (t.Life = u.Life)) && decide (t.zb7 = u.zb7)) && decide (t.zby = u.zby)) := by
  rw [Bool.eq_iff_iff]
  simp only [decide_eq_true_eq, Bool.and_eq_true]
  exact Itm.eq_iff t u
 rw [this] at hq
 exact hq
def zdx.Spec (C : CSem) (N : Nat → Nat) : Prop := OneE zej true C (N 399)
theorem zdx.spec (i : zdx.Imp C N) (s1 : zdf.Spec C N) (s2 : zde.Spec C N) : zdx.Spec C N := by
 intro t a h Q ha hq
 obtain ⟨⟨R1, a1⟩, ⟨R2, a2⟩, a3, a4⟩ : (∃ R, SlX h 2 a.1 (t.zb7.map Part.cs) R) ∧ (∃ R, SlX h 1 a.2 (t.zby.map tc) R) ∧ t.ok := ha
 apply i
 simp -dsimp [zej]
 refine s1 _ _ _ _ _ a1 a3 fun x1 h1 o1 => ?_
 have c1 := (o1.slAt 0 rfl).zdz
 simp -dsimp [c1]
 refine s2 _ _ _ _ _ (a2.mono o1.le) a4 fun x2 h2 o2 => ?_
 have c2 := (o2.slAt 0 rfl).zdz
 simp -dsimp [c2]
 exact zbi (hq (x1, x2) h2 (o1.join o2))
def zdy.Spec (C : CSem) (N : Nat → Nat) : Prop := KeptE zej C (N 400)
theorem zdy.spec (i : zdy.Imp C N) (s0 : zds.Spec C N) (s1 : zc2.Spec C N) (s2 : zc1.Spec C N) : zdy.Spec C N := by
 intro t u a b h Q hok ha hb hq
 apply i
 have ha' := zej.ofObs hok ha
 obtain ⟨⟨S1, b1⟩, ⟨S2, b2⟩, b3, b4⟩ : (∃ R, SlX h 2 b.1 (u.zb7.map Part.cs) R) ∧ (∃ R, SlX h 1 b.2 (u.zby.map tc) R) ∧ u.ok := hb
 have k1 : SlX h 2 a.1 (t.zb7.map Part.cs) zin := ha (zn7 true a.1 t.zb7) (by simp [zej])
 have k2 : SlX h 1 a.2 (t.zby.map tc) zhq := ha (znz true a.2 t.zby) (by simp [zej])
 simp -dsimp [zej]
 refine s0 t u a b h _ ha' ⟨⟨S1, b1⟩, ⟨S2, b2⟩, b3, b4⟩ ?_
 simp +contextual -dsimp
 refine B.zpt (v := .bool (decide (t.zb7 = u.zb7))) (fun _ Q hq => s1 _ _ _ _ _ _ _ k1 b1 hok.1 hq) ?_
 simp +contextual -dsimp
 refine B.zpt (v := .bool (decide (t.zby = u.zby))) (fun _ Q hq => s2 _ _ _ _ _ _ _ k2 b2 hok.2 hq) ?_
 simp -dsimp
 refine zbi ?_
 have : decide (t = u) = (decide (t = u) && decide (t.zb7 = u.zb7) && decide (t.zby = u.zby)) := by
  by_cases h : t = u
  ·subst h; simp
  ·simp [h]
 rw [this] at hq
 exact hq
def zi3 (k i : Int) : Itm := ⟨[], mark k i, [], []⟩
theorem zqn (k i : Int) : zej.ok (zi3 k i) := ⟨by simp [zi3], by simp [zi3]⟩
def zdo.Spec (C : CSem) (N : Nat → Nat) : Prop := MarkE zej zi3 C (N 109)
theorem zdo.spec (i : zdo.Imp C N) (s1 : zfc.Spec C N) : zdo.Spec C N := by
 intro k j h Q hq
 apply i
 simp -dsimp
 refine s1 _ _ _ _ ?_
 simp -dsimp
 exact zbi (hq (.nils, .nils) _ (by simpa [zej, zi3, zn7, znz] using ((Owns.start h).nils 2).nils 1))
def zb8.Spec (C : CSem) (N : Nat → Nat) : Prop := ∀ (x : AVal) (L : List Itm) (h : zb) (Q : AVal → zb → Prop), Dl zej h x L → L.length ≤ 100000000 →
 (∀ x' P PM h', P.map (·.1) = L → PM.map (·.1) = mks12 zi3 → Owns h h' (.sl 4 x' (P.map zej.cs) (PM.map zej.cs) :: (zej.os true P ++ zej.os false PM)) → Q x' h') → C (N 391) [x] h Q
theorem zb8.spec (i : zb8.Imp C N) (s1 : zdo.Spec C N) (s2 : zdx.Spec C N) : zb8.Spec C N := fun x L h Q hx hl hq =>
 i x h Q (lentD_spec (K := zej) s1 s2 hx hl fun x' P PM h' e1 e2 ho => zbi (hq x' P PM h' e1 e2 ho))
def zcj.Spec (C : CSem) (N : Nat → Nat) : Prop := ∀ (x y : AVal) (L M : List Itm) (h : zb) (Q : AVal → zb → Prop), zq8 zej zi3 h x L → Dl zej h y M → L.length ≤ 100000000 →
 Q (.bool (decide (L = M))) h → C (N 392) [x, y] h Q
theorem zcj.spec (i : zcj.Imp C N) (s1 : zdy.Spec C N) (s2 : zdo.Spec C N) (s3 : zds.Spec C N) : zcj.Spec C N := fun x y L M h Q hx hy hl hq =>
 i x y h Q (keptD_spec (K := zej) zqn s1 s2 s3 hx hy hl fun h' hle => zkf hle hq)
end Go.Ab
namespace Go.Ab
abbrev zgm : List UInt8 → List UInt8 → Bool := Op.bytesLess
theorem lessB_nil (a : List UInt8) : zgm a [] = false := by cases a <;> rfl
theorem zni (a b : UInt8) (as1 bs : List UInt8) : zgm (a :: as1) (b :: bs) = (decide (a < b) || (a == b && zgm as1 bs)) := rfl
theorem u8_tri (a b : UInt8) : a < b ∨ a = b ∨ b < a := by
 simp only [UInt8.lt_iff_toNat_lt, ← UInt8.toNat_inj]; omega
theorem zqp : ∀ a : List UInt8, zgm a a = false
 | [] => rfl
 | a :: as1 => by rw [zni, zqp as1]; simp
theorem zjy : ∀ {a b c : List UInt8}, zgm a b = true → zgm b c = true → zgm a c = true
 | _, [], _, h, _ => by rw [lessB_nil] at h; cases h
 | _, _ :: _, [], _, h => by rw [lessB_nil] at h; cases h
 | [], _ :: _, _ :: _, _, _ => rfl
 | a :: as1, b :: bs, c :: cs, h1, h2 => by
  rw [zni] at h1 h2 ⊢
  simp only [Bool.or_eq_true, decide_eq_true_eq, Bool.and_eq_true, beq_iff_eq] at h1 h2 ⊢
  rcases h1 with h1 | ⟨rfl, h1⟩
  ·rcases h2 with h2 | ⟨rfl, h2⟩
   ·left; simp only [UInt8.lt_iff_toNat_lt] at *; omega
   ·exact .inl h1
  ·rcases h2 with h2 | ⟨rfl, h2⟩
   ·exact .inl h2
   ·exact .inr ⟨rfl, zjy h1 h2⟩
theorem zmt : ∀ {a b : List UInt8}, zgm a b = false → zgm b a = false → a = b
 | [], [], _, _ => rfl
 | [], _ :: _, h, _ => by cases h
 | _ :: _, [], _, h => by cases h
 | a :: as1, b :: bs, h1, h2 => by
  rw [zni] at h1 h2
  simp only [Bool.or_eq_false_iff, decide_eq_false_iff_not, Bool.and_eq_false_iff, beq_eq_false_iff_ne] at h1 h2
  obtain rfl : a = b := by rcases u8_tri a b with h | h | h <;> simp_all
  rw [zmt (h1.2.resolve_left fun h => h rfl) (h2.2.resolve_left fun h => h rfl)]
theorem lessB_asym {a b : List UInt8} (h : zgm a b = true) : zgm b a = false := by
 cases e : zgm b a with
 | false => rfl
 | true => have := zjy h e; rw [zqp] at this; cases this
theorem lessB_ne {a b : List UInt8} (h : zgm a b = true) : a ≠ b := fun e => by subst e; rw [zqp] at h; cases h
theorem lessB_or {a b : List UInt8} (h : zgm a b = false) (hne : a ≠ b) : zgm b a = true := by
 cases e : zgm b a with
 | true => rfl
 | false => exact absurd (zmt h e) hne
abbrev cmpB := Lib.compareBytes
theorem cmpB_spec : ∀ a b : List UInt8, cmpB a b = if zgm a b then -1 else if zgm b a then 1 else 0
 | [], [] => rfl
 | [], _ :: _ => rfl
 | _ :: _, [] => rfl
 | a :: as1, b :: bs => by
  have ih := cmpB_spec as1 bs
  show (if a < b then -1 else if b < a then 1 else cmpB as1 bs) = _
  rw [ih, zni, zni]
  rcases u8_tri a b with h | rfl | h
  ·simp [h]
  ·have hi : ¬ a < a := by simp only [UInt8.lt_iff_toNat_lt]; omega
   simp
  ·have h1 : ¬ a < b := by simp only [UInt8.lt_iff_toNat_lt] at *; omega
   have h2 : a ≠ b := fun e => by subst e; exact h1 h
   have h3 : (a == b) = false := by simp [h2]
   simp [h, h1, h3]
theorem cmpB_neg {a b : List UInt8} : cmpB a b < 0 ↔ zgm a b = true := by
 rw [cmpB_spec]; split
 ·simp [*]
 ·split <;> simp [*]
end Go.Ab
namespace Go.Ab
variable {C : CSem} {N : Nat → Nat}
theorem nextStr_at {h : zb} {id : Nat} {b : Blk} {s : List UInt8} {pos : Nat} {K : AVal → zb → Prop} (hb : h id = some b) (ho : b.obj = some (.iter s pos)) :
  (B.zfq h (.ptr id 0 0) K : Prop) = if pos < s.length then K (.tup [.bool true, .int .i64 pos, .int .i32 (A.rune s pos).1]) (upd h id { b with obj := some (.iter s (pos + (A.rune s pos).2)) }) else K (.tup [.bool false]) h := by
 simp only [B.zfq, A.zfq, hb, ho]
theorem get_bang {s : List UInt8} {pos : Nat} {b : UInt8} (hb : s[pos]? = some b) : ((⟨s.toArray⟩ : ByteArray).get! pos) = b := by
 simp [ByteArray.get!, hb]
theorem rune_ascii {s : List UInt8} {pos : Nat} {b : UInt8} (hb : s[pos]? = some b) (h : b.toNat < 128) : A.rune s pos = (b.toNat, 1) := by
 unfold A.rune Utf8.decode
 simp only [Nat.add_zero, get_bang hb]
 rw [if_pos h]
theorem rune_high {s : List UInt8} {pos : Nat} {b : UInt8} (hb : s[pos]? = some b) (h : 128 ≤ b.toNat) : 128 ≤ (A.rune s pos).1 := by
 unfold A.rune Utf8.decode
 simp only [Nat.add_zero, get_bang hb]
 rw [if_neg (by omega)]
 split
 ·split <;> simp_all [Utf8.runeError]
 ·split
  ·split <;> simp_all [Utf8.runeError]; omega
  ·split
   ·split <;> simp_all [Utf8.runeError]; omega
   ·simp [Utf8.runeError]
def zku (i : Nat) (b : UInt8) : Bool := (decide (65 ≤ b.toNat) && decide (b.toNat ≤ 90)) || (decide (0 < i) && ((decide (48 ≤ b.toNat) && decide (b.toNat ≤ 57)) || decide (b.toNat = 45)))
def zkb (s : List UInt8) : Nat → Bool
 | 0 => true
 | n + 1 => zkb s n && zku n (s.getD n 0)
def ze3 (s : List UInt8) : Bool := !s.isEmpty && decide (s.length ≤ 12) && zkb s s.length
theorem zsc {s : List UInt8} {k : Nat} (h : zkb s k = true) {b : UInt8} (hb : s[k]? = some b) (hc : zku k b = false) : ∀ n, k < n → zkb s n = false
 | 0, h => by omega
 | n + 1, hn => by
  by_cases e : n = k
  ·subst e; simp [zkb, List.getD, hb, hc]
  ·rw [zkb, zsc h hb hc n (by omega)]; rfl
theorem zq6 {s : List UInt8} {k : Nat} (h : zkb s k = true) {b : UInt8} (hb : s[k]? = some b) (hc : zku k b = true) : zkb s (k + 1) = true := by
 simp [zkb, List.getD, hb, hc, h]
theorem zj5 {s : List UInt8} {k : Nat} (h : zkb s k = true) {b : UInt8} (hb : s[k]? = some b) (hc : zku k b = false) : ze3 s = false := by
 have := zsc h hb hc s.length (List.getElem?_eq_some_iff.1 hb).1
 simp [ze3, this]
def zda.Spec (C : CSem) (N : Nat → Nat) : Prop := ∀ (s : List UInt8) (h : zb) (Q : AVal → zb → Prop), Q (.bool (ze3 s)) h → C (N 53) [.str s] h Q
def itB (s : List UInt8) (k : Nat) : Blk := { cells := [], gens := [], next := 1, own := true, obj := some (.iter s k) }
theorem zda.spec (i : zda.Imp C N) : zda.Spec C N := by
 intro s h Q hq
 apply i
 simp only [zda.cps]
 intro id hid
 refine zd.intro (fun n vs hh => ∃ k, k + n = s.length ∧ vs = [] ∧ hh = upd h id (itB s k) ∧ zkb s k = true) s.length ?_ ⟨0, by simp, rfl, rfl, rfl⟩
 rintro Y n vs hh ⟨k, hn, rfl, rfl, hc⟩ hY
 simp only [zda.l3, zda.k2]
 rw [nextStr_at (zbu ..) rfl]
 have hle : h.le (upd h id (itB s k)) := zgh _ hid
 split
 ·rename_i hk
  obtain ⟨b, hb⟩ := ze8 hk
  by_cases hlt : b.toNat < 128
  ·rw [rune_ascii hb hlt, upd_upd]
   have next : zku k b = true → Y [] (upd h id { cells := (itB s k).cells, gens := (itB s k).gens, next := (itB s k).next, own := (itB s k).own, obj := some (.iter s (k + 1)) }) := fun hcc =>
    hY (n - 1) _ _ (by omega) ⟨k + 1, by omega, rfl, rfl, zq6 hc hb hcc⟩
   simp +contextual -dsimp
   refine B.zm (fun h1 => ?_) (fun h1 => ?_)
   ·exact next (by simp at h1; simp [zku]; omega)
   ·simp +contextual -dsimp
    refine B.zm (fun h2 => ?_) (fun h2 => ?_)
    ·exact next (by simp at h2; simp [zku]; omega)
    ·have := zj5 hc hb (by simp at h1 h2; simp [zku]; omega)
     rw [this] at hq
     exact zkf (zgh _ hid) hq
  ·have hr := rune_high hb (by omega)
   have := zj5 hc hb (by simp [zku]; omega)
   rw [this] at hq
   simp +contextual -dsimp
   refine B.zm (fun h1 => ?_) (fun h1 => ?_)
   ·simp at h1; omega
   ·simp +contextual -dsimp
    refine B.zm (fun h2 => ?_) (fun h2 => ?_)
    ·simp at h2; omega
    ·exact zkf (zgh _ hid) hq
 ·have hk : k = s.length := by omega
  subst hk
  have : ze3 s = (!decide (s = []) && decide ((s.length : Int) ≤ 12)) := by
   unfold ze3
   rw [hc, Bool.and_true]
   cases s with
   | nil => rfl
   | cons a r => simp; omega
  rw [this] at hq
  simp +contextual -dsimp
  exact zkf hle hq
def zc8.Spec (C : CSem) (N : Nat → Nat) : Prop := ∀ (s : List UInt8) (h : zb) (Q : AVal → zb → Prop), Q (.bool (ze3 s)) h → C (N 61) [.str s] h Q
theorem idxStr_at {s : List UInt8} {k : Nat} {b : UInt8} (hb : s[k]? = some b) : V.zh4 (.str s) (.int .i64 (k : Int)) = some (.int .u8 b.toNat) := by
 simp [V.zh4, hb]
theorem zc8.spec (i : zc8.Imp C N) : zc8.Spec C N := by
 intro s h Q hq
 apply i
 simp +contextual -dsimp
 refine B.zm (fun h1 => ?_) (fun h1 => ?_)
 ·have : ze3 s = false := by
   simp at h1
   cases s with
   | nil => rfl
   | cons a r => simp [ze3]; simp at h1; omega
  rw [this] at hq
  exact zbi hq
 ·simp at h1
  refine zd.intro (fun n vs hh => ∃ k : Nat, k + n = s.length ∧ vs = [.int .i64 k] ∧ hh = h ∧ zkb s k = true) s.length ?_ ⟨0, by simp, by simp, rfl, rfl⟩
  rintro Y n vs hh ⟨k, hn, rfl, rfl, hc⟩ hY
  simp +contextual -dsimp
  refine B.zm (fun h2 => ?_) (fun h2 => ?_)
  ·simp at h2
   obtain ⟨b, hb⟩ := ze8 h2
   simp +contextual -dsimp [idxStr_at hb]
   refine B.zm (fun h3 => ?_) (fun h3 => ?_)
   ·have := zj5 hc hb (by simp at h3; simp [zku]; omega)
    rw [this] at hq
    exact zbi hq
   ·simp +contextual -dsimp [zhu (n := k) (by omega)]
    exact hY (n - 1) _ _ (by omega) ⟨k + 1, by omega, by simp, rfl, zq6 hc hb (by simp at h3; simp [zku]; omega)⟩
  ·have hk : k = s.length := by simp at h2; omega
   subst hk
   have : ze3 s = true := by
    unfold ze3
    rw [hc]
    cases s with
    | nil => simp at h1
    | cons a r => simp; simp at h1; omega
   rw [this] at hq
   exact zbi hq
theorem SlX.sliceIn {T : Type} {h : zb} {es : Nat} {x : AVal} {f : T → List AVal} {L : List T} {R : List (List AVal)} (hs : SlX h es x (L.map f) R) (hes : 0 < es) {lo hi : Nat} {a b : Option AVal} (ha : a = none ∧ lo = 0 ∨ ∃ k, a = some (.int k lo)) (hb : b = none ∧ hi = L.length ∨ ∃ k, b = some (.int k hi)) (h1 : lo ≤ hi) (h2 : hi ≤ L.length) :
  ∃ x' R', V.zfj es x a b = some x' ∧ SlX h es x' (((L.take hi).drop lo).map f) R' ∧ foot x' = foot x := by
 obtain ⟨x', e1, e2, e3⟩ := hs.slice hes ha (by simpa using hb) h1 (by simp; omega)
 refine ⟨x', (L.map f ++ R).drop hi, e1, ?_, e3⟩
 rwa [List.take_append_of_le_length (by simpa using h2), ← List.map_take, ← List.map_drop] at e2
end Go.Ab
