/- What is proved: a part of the way to the statement: L06, SrtT, SrtA, SrtB, SrtC, SrtD, SrtE, SrtF, SrtG, SrtH, SrtI, SrtJ, SrtK, SrtP, SrtP2, SrtP3. No conditions. -/
import Derived.Test.YteckamcjoodjfaaRows
import Derived.Test.YteckamcjoodjfaaQ6
set_option linter.unusedVariables false
set_option linter.unusedSimpArgs false
set_option maxRecDepth 100000
namespace Go.Ab.S06
open Go.Ab Go.Proofs
noncomputable abbrev P : Program := Try.prog
def N (k : Nat) : Nat := [0, 52, 0, 0, 0, 44, 87, 36, 70, 0, 31, 0, 13, 24, 0, 0, 65, 0, 0, 32, 39, 0, 0, 0, 0, 0, 0, 0, 0, 0, 0, 0, 0, 0, 0, 0, 0, 0, 0, 0, 0, 0, 0, 0, 0, 0, 0, 0, 8, 0, 0, 0, 47, 49, 16, 0, 0, 0, 0, 0, 68, 86, 0, 0, 0, 0, 0, 0, 0, 0, 0, 0, 0, 0, 0, 0, 0, 26, 0, 0, 0, 0, 0, 0, 0, 0, 0, 0, 0, 0, 0, 0, 0, 0, 0, 0, 0, 0, 0, 0, 0, 0, 0, 0, 0, 0, 0, 27, 28, 0, 0, 0, 0, 0, 0, 0, 0, 0, 0, 0, 0, 0, 0, 0, 0, 0, 0, 0, 0, 0, 0, 0, 0, 0, 0, 0, 0, 0, 0, 0, 0, 0, 0, 0, 62, 59, 0, 0, 0, 45, 0, 0, 0, 0, 0, 23, 0, 73, 72, 0, 60, 61, 0, 0, 0, 0, 71, 89, 88, 98, 101, 90, 0, 0, 0, 0, 0, 0, 0, 0, 0, 0, 0, 0, 0, 0, 0, 0, 0, 0, 0, 0, 0, 0, 0, 0, 0, 0, 0, 0, 0, 0, 0, 0, 0, 0, 0, 0, 0, 0, 0, 0, 0, 0, 0, 19, 0, 0, 9, 0, 43, 0, 0, 17, 0, 22, 0, 0, 0, 21, 0, 0, 33, 0, 57, 58, 38, 37, 35, 34, 46, 69, 0, 48, 51, 64, 63, 50, 74, 92, 91, 99, 102, 0, 0, 0, 0, 0, 0, 0, 0, 0, 0, 0, 0, 0, 0, 0, 0, 0, 0, 0, 0, 0, 0, 0, 0, 0, 0, 0, 0, 0, 0, 0, 0, 0, 0, 67, 0, 0, 0, 0, 0, 0, 0, 0, 0, 0, 95, 94, 0, 0, 0, 0, 84, 85, 0, 0, 0, 0, 0, 0, 0, 0, 0, 0, 0, 6, 7, 10, 11, 12, 14, 15, 18, 3, 20, 4, 5, 25, 29, 30, 40, 42, 41, 53, 54, 55, 56, 66, 81, 82, 83, 80, 79, 78, 77, 76, 75, 93, 96, 97, 100].getD k 0
theorem mixed : P.follows .mixedOrders = true := by kernel_rfl
def zcr.I : Bx := ⟨[], [], 89, []⟩
theorem zcr.L {C : CSem} (hC : zdb C) (Q : AVal → za → Prop) (s : z0) (h : za) (hR : zcr.cps C N (s 0) (s 1) (s 2) (s 3) (s 4) h Q) : bwp P C zcr.I (Try.f3.body.getD .skip) (retB P zcr.I Try.f3.results.toList Q) s h :=
 e1 hR
theorem zcr.imp : zcr.Imp (AC P) N := fun v0 v1 v2 v3 v4 h Q hR => eF mixed (fn := Try.f3) (fun hC => zcr.L hC (dn Q) (zca [v0, v1, v2, v3, v4]) h hR)
def z6.I : Bx := ⟨[], [], 95, []⟩
theorem z6.L {C : CSem} (hC : zdb C) (Q : AVal → za → Prop) (s : z0) (h : za) (hR : z6.cps C N (s 0) (s 1) (s 2) (s 3) (s 4) h Q) : bwp P C z6.I (Try.f4.body.getD .skip) (retB P z6.I Try.f4.results.toList Q) s h :=
 eS hC (fun s h => B.call C (N 317) [] h fun v16 h =>
  B.pv (V.un .not v16) fun v17 =>
  B.cond v17
  (Q (.bool false) h)
  (z6.k9 C N Q (s 0) (s 1) (s 2) (s 3) (s 4) h)) (e1 hR) (fun s h hR => eS hC (fun s h => z6.k9 C N Q (s 0) (s 1) (s 2) (s 3) (s 4) h) (e1 hR) (fun s h hR => eS hC (fun s h => z6.k8 C N Q (s 0) (s 1) (s 2) (s 3) (s 4) h) (e1 hR) (fun s h hR => eS hC (fun s h => z6.k7 C N Q (s 0) (s 1) (s 2) (s 3) (s 4) (s 11) (s 12) h) (e1 hR) (fun s h hR => eS hC (fun s h => zm (z6.l6 C N Q (s 0) (s 1) (s 2) (s 3) (s 4) (s 11) (s 12)) [(s 3)] h) (e1 hR) (fun s h hR => eS hC (fun s h => z6.k4 C N Q (s 0) (s 1) (s 2) (s 3) (s 4) (s 11) (s 12) h) (eS hC (fun s h => zm (z6.l6 C N Q (s 0) (s 1) (s 2) (s 3) (s 4) (s 11) (s 12)) [(s 13)] h) (e1 hR) (fun s h hR => eK (eL hC [0, 1, 2, 3, 4, 11, 12] [13] (fun kv lv h Y2 => match kv with | [v0, v1, v2, v3, v4, v11, v12] => z6.l6 C N Q v0 v1 v2 v3 v4 v11 v12 lv h Y2 | _ => False) hR (fun Y2 s h hR => e1 hR)))) (fun s h hR => eS hC (fun s h => B.pv (V.bin .eql (s 11) (s 3)) fun v63 =>
  zm (z6.l3 C N Q (s 0) (s 1) (s 2) (s 4) (s 11)) [v63, (.int .i64 0)] h) (e1 hR) (fun s h hR => eS hC (fun s h => zm (z6.l3 C N Q (s 0) (s 1) (s 2) (s 4) (s 11)) [(s 14), (.int .i64 0)] h) (e1 hR) (fun s h hR => eS hC (fun s h => z6.k1 C N Q (s 0) (s 1) (s 2) (s 4) (s 11) (s 14) h) (eS hC (fun s h => zm (z6.l3 C N Q (s 0) (s 1) (s 2) (s 4) (s 11)) [(s 14), (s 15)] h) (e1 hR) (fun s h hR => eK (eL hC [0, 1, 2, 4, 11] [14, 15] (fun kv lv h Y1 => match kv with | [v0, v1, v2, v4, v11] => z6.l3 C N Q v0 v1 v2 v4 v11 lv h Y1 | _ => False) hR (fun Y1 s h hR => e1 hR)))) (fun s h hR => e1 hR)))))))))
def zd9.I : Bx := ⟨[], [], 68, []⟩
theorem zd9.L {C : CSem} (hC : zdb C) (Q : AVal → za → Prop) (s : z0) (h : za) (hR : zd9.cps C N h Q) : bwp P C zd9.I (Try.f6.body.getD .skip) (retB P zd9.I Try.f6.results.toList Q) s h :=
 e1 hR
theorem zd9.imp : zd9.Imp (AC P) N := fun h Q hR => eF mixed (fn := Try.f6) (fun hC => zd9.L hC (dn Q) (zca []) h hR)
def zdx.I : Bx := ⟨[], [], 39, []⟩
theorem zdx.L {C : CSem} (hC : zdb C) (Q : AVal → za → Prop) (s : z0) (h : za) (hR : zdx.cps C N (s 0) (s 1) (s 2) (s 3) (s 4) h Q) : bwp P C zdx.I (Try.f7.body.getD .skip) (retB P zdx.I Try.f7.results.toList Q) s h :=
 e1 hR
theorem zdx.imp : zdx.Imp (AC P) N := fun v0 v1 v2 v3 v4 h Q hR => eF mixed (fn := Try.f7) (fun hC => zdx.L hC (dn Q) (zca [v0, v1, v2, v3, v4]) h hR)
def zdn.I : Bx := ⟨[], [], 25, []⟩
theorem zdn.L {C : CSem} (hC : zdb C) (Q : AVal → za → Prop) (s : z0) (h : za) (hR : zdn.cps C N (s 0) h Q) : bwp P C zdn.I (Try.f8.body.getD .skip) (retB P zdn.I Try.f8.results.toList Q) s h :=
 eS hC (fun s h => zdn.k3 C N Q (s 0) h) (e1 hR) (fun s h hR => eS hC (fun s h => B.appW h 6 56 (s 3) (s 0) fun v11 h =>
  zm (zjw.l4 C 6 56 (N 77) [.int .i64 0, .str [], .int .i64 0, .int .i64 0, .int .i64 0, .bool false] 1 Q (s 0)) [v11, (.int .i64 0)] h) (e1 hR) (fun s h hR => eS hC (fun s h => zm (zjw.l4 C 6 56 (N 77) [.int .i64 0, .str [], .int .i64 0, .int .i64 0, .int .i64 0, .bool false] 1 Q (s 0)) [(s 3), (.int .i64 0)] h) (e1 hR) (fun s h hR => eS hC (fun s h => B.pv (V.zcj (s 0)) fun v23 =>
  B.pv (V.zhe 6 (s 3) none (some v23)) fun v24 =>
  Q v24 h) (eS hC (fun s h => zm (zjw.l4 C 6 56 (N 77) [.int .i64 0, .str [], .int .i64 0, .int .i64 0, .int .i64 0, .bool false] 1 Q (s 0)) [(s 3), (s 4)] h) (e1 hR) (fun s h hR => eK (eL hC [0] [3, 4] (fun kv lv h Y1 => match kv with | [v0] => zjw.l4 C 6 56 (N 77) [.int .i64 0, .str [], .int .i64 0, .int .i64 0, .int .i64 0, .bool false] 1 Q v0 lv h Y1 | _ => False) hR (fun Y1 s h hR => e1 hR)))) (fun s h hR => e1 hR))))
theorem zdn.imp : zdn.Imp (AC P) N := fun v0 h Q hR => eF mixed (fn := Try.f8) (fun hC => zdn.L hC (dn Q) (zca [v0]) h hR)
def zc9.I : Bx := ⟨[], [], 25, []⟩
theorem zc9.L {C : CSem} (hC : zdb C) (Q : AVal → za → Prop) (s : z0) (h : za) (hR : zc9.cps C N (s 0) h Q) : bwp P C zc9.I (Try.f9.body.getD .skip) (retB P zc9.I Try.f9.results.toList Q) s h :=
 eS hC (fun s h => zc9.k3 C N Q (s 0) h) (e1 hR) (fun s h hR => eS hC (fun s h => B.appW h 3 32 (s 3) (s 0) fun v11 h =>
  zm (zjw.l4 C 3 32 (N 107) [.str [], .int .i64 0, .int .i64 0] 1 Q (s 0)) [v11, (.int .i64 0)] h) (e1 hR) (fun s h hR => eS hC (fun s h => zm (zjw.l4 C 3 32 (N 107) [.str [], .int .i64 0, .int .i64 0] 1 Q (s 0)) [(s 3), (.int .i64 0)] h) (e1 hR) (fun s h hR => eS hC (fun s h => B.pv (V.zcj (s 0)) fun v23 =>
  B.pv (V.zhe 3 (s 3) none (some v23)) fun v24 =>
  Q v24 h) (eS hC (fun s h => zm (zjw.l4 C 3 32 (N 107) [.str [], .int .i64 0, .int .i64 0] 1 Q (s 0)) [(s 3), (s 4)] h) (e1 hR) (fun s h hR => eK (eL hC [0] [3, 4] (fun kv lv h Y1 => match kv with | [v0] => zjw.l4 C 3 32 (N 107) [.str [], .int .i64 0, .int .i64 0] 1 Q v0 lv h Y1 | _ => False) hR (fun Y1 s h hR => e1 hR)))) (fun s h hR => e1 hR))))
theorem zc9.imp : zc9.Imp (AC P) N := fun v0 h Q hR => eF mixed (fn := Try.f9) (fun hC => zc9.L hC (dn Q) (zca [v0]) h hR)
def zda.I : Bx := ⟨[], [], 25, []⟩
theorem zda.L {C : CSem} (hC : zdb C) (Q : AVal → za → Prop) (s : z0) (h : za) (hR : zda.cps C N (s 0) h Q) : bwp P C zda.I (Try.f10.body.getD .skip) (retB P zda.I Try.f10.results.toList Q) s h :=
 eS hC (fun s h => zda.k3 C N Q (s 0) h) (e1 hR) (fun s h hR => eS hC (fun s h => B.appW h 2 24 (s 3) (s 0) fun v11 h =>
  zm (zjw.l4 C 2 24 (N 108) [.str [], .int .i64 0] 1 Q (s 0)) [v11, (.int .i64 0)] h) (e1 hR) (fun s h hR => eS hC (fun s h => zm (zjw.l4 C 2 24 (N 108) [.str [], .int .i64 0] 1 Q (s 0)) [(s 3), (.int .i64 0)] h) (e1 hR) (fun s h hR => eS hC (fun s h => B.pv (V.zcj (s 0)) fun v23 =>
  B.pv (V.zhe 2 (s 3) none (some v23)) fun v24 =>
  Q v24 h) (eS hC (fun s h => zm (zjw.l4 C 2 24 (N 108) [.str [], .int .i64 0] 1 Q (s 0)) [(s 3), (s 4)] h) (e1 hR) (fun s h hR => eK (eL hC [0] [3, 4] (fun kv lv h Y1 => match kv with | [v0] => zjw.l4 C 2 24 (N 108) [.str [], .int .i64 0] 1 Q v0 lv h Y1 | _ => False) hR (fun Y1 s h hR => e1 hR)))) (fun s h hR => e1 hR))))
theorem zda.imp : zda.Imp (AC P) N := fun v0 h Q hR => eF mixed (fn := Try.f10) (fun hC => zda.L hC (dn Q) (zca [v0]) h hR)
def zdk.I : Bx := ⟨[12], [23], 25, []⟩
theorem zdk.L {C : CSem} (hC : zdb C) (Q : AVal → za → Prop) (s : z0) (h : za) (hR : zdk.cps C N (s 0) (s 1) (s 2) (s 3) (s 4) h Q) : bwp P C zdk.I (Try.f11.body.getD .skip) (retB P zdk.I Try.f11.results.toList Q) s h :=
 eS hC (fun s h => zdk.k3 C N Q (s 0) (s 1) (s 2) (s 3) (s 4) (s 10) (s 11) h) (e1 hR) (fun s h hR => eS hC (fun s h => B.st h (s 10) (.int .i64 0) fun h =>
  B.st h (s 11) (.bool false) fun h =>
  B.pv (oneOf (zfe (A.ldv h (s 10)) (zfe (A.ldv h (s 11)) (some [])))) fun v => Q v h) (eS hC (fun s h => zow C (s 19) (W2 fun v20 v21 h Z1 => zdk.r2 C N Q (s 10) (s 11) v20 v21 h Z1) h (RK [(0, fun h => B.st h (s 10) (.int .i64 0) fun h =>
  B.st h (s 11) (.bool false) fun h =>
  B.pv (oneOf (zfe (A.ldv h (s 10)) (zfe (A.ldv h (s 11)) (some [])))) fun v => Q v h), (1, fun h => B.pv (oneOf (zfe (A.ldv h (s 10)) (zfe (A.ldv h (s 11)) (some [])))) fun v => Q v h)])) (e1 hR) (fun s h hR => eK (eR2 hC 19 20 21 [10, 11] (fun kv v20 v21 h Z1 => match kv with | [v10, v11] => zdk.r2 C N Q v10 v11 v20 v21 h Z1 | _ => False) hR (zrb (fun h hR => e0 hR) (zrb (fun h hR => e0 hR) rk_nil)) (fun Z1 s h hR => e1 hR)))) (fun s h hR => e1 hR))
theorem zdk.imp : zdk.Imp (AC P) N := fun v0 v1 v2 v3 v4 h Q hR => eF mixed (fn := Try.f11) (fun hC => zdk.L hC (dn Q) (zca [v0, v1, v2, v3, v4]) h hR)
def zd3.I : Bx := ⟨[], [], 30, []⟩
theorem zd3.L {C : CSem} (hC : zdb C) (Q : AVal → za → Prop) (s : z0) (h : za) (hR : zd3.cps C N (s 0) (s 1) (s 2) (s 3) (s 4) h Q) : bwp P C zd3.I (Try.f12.body.getD .skip) (retB P zd3.I Try.f12.results.toList Q) s h :=
 eS hC (fun s h => B.pv (V.max2 (s 3) (.int .i64 0)) fun v14 =>
  zm (zd3.l2 C N Q (s 0) (s 1) (s 2) (s 4)) [v14] h) (e1 hR) (fun s h hR => eS hC (fun s h => Q (.tup [(.int .i64 0), (.bool false)]) h) (eS hC (fun s h => zm (zd3.l2 C N Q (s 0) (s 1) (s 2) (s 4)) [(s 12)] h) (e1 hR) (fun s h hR => eK (eL hC [0, 1, 2, 4] [12] (fun kv lv h Y1 => match kv with | [v0, v1, v2, v4] => zd3.l2 C N Q v0 v1 v2 v4 lv h Y1 | _ => False) hR (fun Y1 s h hR => e1 hR)))) (fun s h hR => e1 hR))
theorem zd3.imp : zd3.Imp (AC P) N := fun v0 v1 v2 v3 v4 h Q hR => eF mixed (fn := Try.f12) (fun hC => zd3.L hC (dn Q) (zca [v0, v1, v2, v3, v4]) h hR)
def zcs.I : Bx := ⟨[], [], 26, [(6, [(0, []), (1, []), (2, []), (3, []), (4, []), (5, []), (6, []), (7, []), (8, [])])]⟩
theorem zcs.L {C : CSem} (hC : zdb C) (Q : AVal → za → Prop) (s : z0) (h : za) (hR : zcs.cps C N (s 0) (s 1) h Q) : bwp P C zcs.I (Try.f13.body.getD .skip) (retB P zcs.I Try.f13.results.toList Q) s h :=
 eS hC (fun s h => zcs.k3 C N Q (s 0) (s 1) h) (e1 hR) (fun s h hR => eS hC (fun s h => zm (zsj.l4 2 [.i .i64, .i .i64] Q (s 0) (s 1)) [(.int .i64 0)] h) (e1 hR) (fun s h hR => eS hC (fun s h => Q (.bool true) h) (eS hC (fun s h => zm (zsj.l4 2 [.i .i64, .i .i64] Q (s 0) (s 1)) [(s 5)] h) (e1 hR) (fun s h hR => eK (eL hC [0, 1] [5] (fun kv lv h Y1 => match kv with | [v0, v1] => zsj.l4 2 [.i .i64, .i .i64] Q v0 v1 lv h Y1 | _ => False) hR (fun Y1 s h hR => e1 hR)))) (fun s h hR => e1 hR)))
theorem zcs.imp : zcs.Imp (AC P) N := fun v0 v1 h Q hR => eF mixed (fn := Try.f13) (fun hC => zcs.L hC (dn Q) (zca [v0, v1]) h hR)
def zc2.I : Bx := ⟨[12], [], 29, []⟩
theorem zc2.L {C : CSem} (hC : zdb C) (Q : AVal → za → Prop) (s : z0) (h : za) (hR : zc2.cps C N (s 0) (s 1) (s 2) (s 3) (s 4) h Q) : bwp P C zc2.I (Try.f14.body.getD .skip) (retB P zc2.I Try.f14.results.toList Q) s h :=
 eS hC (fun s h => B.newO h (some [.nils]) fun i11 h =>
  zc2.k3 C N Q (s 0) (s 1) (s 2) (s 3) (s 4) (.ptr i11 0 0) h) (e1 hR) (fun s h hR => eS hC (fun s h => zc2.k3 C N Q (s 0) (s 1) (s 2) (s 3) (s 4) (s 11) h) (e1 hR) (fun s h hR => eS hC (fun s h => B.ld h (s 11) fun v27 =>
  B.call C (N 10) [v27] h fun v28 h =>
  Q v28 h) (eS hC (fun s h => zow C (s 19) (W2 fun v20 v21 h Z1 => zc2.r2 C N Q (s 11) v20 v21 h Z1) h (RK [(0, fun h => B.ld h (s 11) fun v27 =>
  B.call C (N 10) [v27] h fun v28 h =>
  Q v28 h)])) (e1 hR) (fun s h hR => eK (eR2 hC 19 20 21 [11] (fun kv v20 v21 h Z1 => match kv with | [v11] => zc2.r2 C N Q v11 v20 v21 h Z1 | _ => False) hR (zrb (fun h hR => e0 hR) rk_nil) (fun Z1 s h hR => e1 hR)))) (fun s h hR => e1 hR)))
theorem zc2.imp : zc2.Imp (AC P) N := fun v0 v1 v2 v3 v4 h Q hR => eF mixed (fn := Try.f14) (fun hC => zc2.L hC (dn Q) (zca [v0, v1, v2, v3, v4]) h hR)
def zc3.I : Bx := ⟨[], [], 35, []⟩
theorem zc3.L {C : CSem} (hC : zdb C) (Q : AVal → za → Prop) (s : z0) (h : za) (hR : zc3.cps C N (s 0) (s 1) (s 2) (s 3) (s 4) h Q) : bwp P C zc3.I (Try.f15.body.getD .skip) (retB P zc3.I Try.f15.results.toList Q) s h :=
 eS hC (fun s h => zc3.k3 C N Q (s 0) (s 1) (s 2) (s 3) (s 4) h) (e1 hR) (fun s h hR => eS hC (fun s h => B.pv (V.max2 (s 3) (.int .i64 0)) fun v15 =>
  zm (zc3.l2 C N Q (s 0) (s 1) (s 2) (s 4) (s 11)) [v15] h) (e1 hR) (fun s h hR => eS hC (fun s h => B.call C (N 19) [(s 11)] h fun v34 h =>
  Q v34 h) (eS hC (fun s h => zm (zc3.l2 C N Q (s 0) (s 1) (s 2) (s 4) (s 11)) [(s 12)] h) (e1 hR) (fun s h hR => eK (eL hC [0, 1, 2, 4, 11] [12] (fun kv lv h Y1 => match kv with | [v0, v1, v2, v4, v11] => zc3.l2 C N Q v0 v1 v2 v4 v11 lv h Y1 | _ => False) hR (fun Y1 s h hR => e1 hR)))) (fun s h hR => e1 hR)))
theorem zc3.imp : zc3.Imp (AC P) N := fun v0 v1 v2 v3 v4 h Q hR => eF mixed (fn := Try.f15) (fun hC => zc3.L hC (dn Q) (zca [v0, v1, v2, v3, v4]) h hR)
def zc7.I : Bx := ⟨[], [], 58, [(7, [(0, []), (1, []), (2, []), (3, []), (4, []), (5, []), (6, []), (7, []), (8, []), (9, []), (10, []), (11, []), (12, []), (13, []), (14, []), (15, []), (16, []), (17, []), (18, []), (19, []), (20, []), (21, []), (22, []), (23, []), (24, []), (25, []), (26, []), (27, []), (28, []), (29, []), (30, [25]), (31, []), (32, []), (33, []), (34, [])])]⟩
theorem zc7.L {C : CSem} (hC : zdb C) (Q : AVal → za → Prop) (s : z0) (h : za) (hR : zc7.cps C N (s 0) (s 1) h Q) : bwp P C zc7.I (Try.f16.body.getD .skip) (retB P zc7.I Try.f16.results.toList Q) s h :=
 eS hC (fun s h => zc7.k4 C N Q (s 0) (s 1) h) (e1 hR) (fun s h hR => eS hC (fun s h => zc7.k3 C N Q (s 0) (s 1) h) (e1 hR) (fun s h hR => eS hC (fun s h => zm (zk4.l4 C 6 (N 77) [.i .i64, .s, .i .i64, .i .i64, .i .i64, .b] 1 Q (s 1) (s 5)) [(.int .i64 0)] h) (e1 hR) (fun s h hR => eS hC (fun s h => Q (.bool true) h) (eS hC (fun s h => zm (zk4.l4 C 6 (N 77) [.i .i64, .s, .i .i64, .i .i64, .i .i64, .b] 1 Q (s 1) (s 5)) [(s 6)] h) (e1 hR) (fun s h hR => eK (eL hC [1, 5] [6] (fun kv lv h Y1 => match kv with | [v1, v5] => zk4.l4 C 6 (N 77) [.i .i64, .s, .i .i64, .i .i64, .i .i64, .b] 1 Q v1 v5 lv h Y1 | _ => False) hR (fun Y1 s h hR => e1 hR)))) (fun s h hR => e1 hR))))
theorem zc7.imp : zc7.Imp (AC P) N := fun v0 v1 h Q hR => eF mixed (fn := Try.f16) (fun hC => zc7.L hC (dn Q) (zca [v0, v1]) h hR)
def zcz.I : Bx := ⟨[], [], 58, [(7, [(0, []), (1, []), (2, []), (3, []), (4, []), (5, []), (6, []), (7, []), (8, []), (9, []), (10, []), (11, []), (12, []), (13, []), (14, []), (15, []), (16, []), (17, []), (18, []), (19, []), (20, []), (21, []), (22, []), (23, []), (24, []), (25, []), (26, []), (27, []), (28, []), (29, []), (30, [25]), (31, []), (32, []), (33, []), (34, [])])]⟩
theorem zcz.L {C : CSem} (hC : zdb C) (Q : AVal → za → Prop) (s : z0) (h : za) (hR : zcz.cps C N (s 0) (s 1) h Q) : bwp P C zcz.I (Try.f17.body.getD .skip) (retB P zcz.I Try.f17.results.toList Q) s h :=
 eS hC (fun s h => zcz.k4 C N Q (s 0) (s 1) h) (e1 hR) (fun s h hR => eS hC (fun s h => zcz.k3 C N Q (s 0) (s 1) h) (e1 hR) (fun s h hR => eS hC (fun s h => zm (zk4.l4 C 3 (N 107) [.s, .i .i64, .i .i64] 1 Q (s 1) (s 5)) [(.int .i64 0)] h) (e1 hR) (fun s h hR => eS hC (fun s h => Q (.bool true) h) (eS hC (fun s h => zm (zk4.l4 C 3 (N 107) [.s, .i .i64, .i .i64] 1 Q (s 1) (s 5)) [(s 6)] h) (e1 hR) (fun s h hR => eK (eL hC [1, 5] [6] (fun kv lv h Y1 => match kv with | [v1, v5] => zk4.l4 C 3 (N 107) [.s, .i .i64, .i .i64] 1 Q v1 v5 lv h Y1 | _ => False) hR (fun Y1 s h hR => e1 hR)))) (fun s h hR => e1 hR))))
theorem zcz.imp : zcz.Imp (AC P) N := fun v0 v1 h Q hR => eF mixed (fn := Try.f17) (fun hC => zcz.L hC (dn Q) (zca [v0, v1]) h hR)
def zc0.I : Bx := ⟨[], [], 58, [(7, [(0, []), (1, []), (2, []), (3, []), (4, []), (5, []), (6, []), (7, []), (8, []), (9, []), (10, []), (11, []), (12, []), (13, []), (14, []), (15, []), (16, []), (17, []), (18, []), (19, []), (20, []), (21, []), (22, []), (23, []), (24, []), (25, []), (26, []), (27, []), (28, []), (29, []), (30, [25]), (31, []), (32, []), (33, []), (34, [])])]⟩
theorem zc0.L {C : CSem} (hC : zdb C) (Q : AVal → za → Prop) (s : z0) (h : za) (hR : zc0.cps C N (s 0) (s 1) h Q) : bwp P C zc0.I (Try.f18.body.getD .skip) (retB P zc0.I Try.f18.results.toList Q) s h :=
 eS hC (fun s h => zc0.k4 C N Q (s 0) (s 1) h) (e1 hR) (fun s h hR => eS hC (fun s h => zc0.k3 C N Q (s 0) (s 1) h) (e1 hR) (fun s h hR => eS hC (fun s h => zm (zk4.l4 C 2 (N 108) [.s, .i .i64] 1 Q (s 1) (s 5)) [(.int .i64 0)] h) (e1 hR) (fun s h hR => eS hC (fun s h => Q (.bool true) h) (eS hC (fun s h => zm (zk4.l4 C 2 (N 108) [.s, .i .i64] 1 Q (s 1) (s 5)) [(s 6)] h) (e1 hR) (fun s h hR => eK (eL hC [1, 5] [6] (fun kv lv h Y1 => match kv with | [v1, v5] => zk4.l4 C 2 (N 108) [.s, .i .i64] 1 Q v1 v5 lv h Y1 | _ => False) hR (fun Y1 s h hR => e1 hR)))) (fun s h hR => e1 hR))))
theorem zc0.imp : zc0.Imp (AC P) N := fun v0 v1 h Q hR => eF mixed (fn := Try.f18) (fun hC => zc0.L hC (dn Q) (zca [v0, v1]) h hR)
def ze0.I : Bx := ⟨[], [], 16, []⟩
theorem ze0.L {C : CSem} (hC : zdb C) (Q : AVal → za → Prop) (s : z0) (h : za) (hR : ze0.cps C N (s 0) (s 1) h Q) : bwp P C ze0.I (Try.f19.body.getD .skip) (retB P ze0.I Try.f19.results.toList Q) s h :=
 e1 hR
theorem ze0.imp : ze0.Imp (AC P) N := fun v0 v1 h Q hR => eF mixed (fn := Try.f19) (fun hC => ze0.L hC (dn Q) (zca [v0, v1]) h hR)
def zei.I : Bx := ⟨[], [], 6, []⟩
theorem zei.L {C : CSem} (hC : zdb C) (Q : AVal → za → Prop) (s : z0) (h : za) (hR : zei.cps C N h Q) : bwp P C zei.I (Try.f25.body.getD .skip) (retB P zei.I Try.f25.results.toList Q) s h :=
 e1 hR
theorem zei.imp : zei.Imp (AC P) N := fun h Q hR => eF mixed (fn := Try.f25) (fun hC => zei.L hC (dn Q) (zca []) h hR)
def zd2.I : Bx := ⟨[4], [], 9, []⟩
theorem zd2.L {C : CSem} (hC : zdb C) (Q : AVal → za → Prop) (s : z0) (h : za) (hR : zd2.cps C N (s 0) (s 1) h Q) : bwp P C zd2.I (Try.f26.body.getD .skip) (retB P zd2.I Try.f26.results.toList Q) s h :=
 e1 hR
theorem zd2.imp : zd2.Imp (AC P) N := fun v0 v1 h Q hR => eF mixed (fn := Try.f26) (fun hC => zd2.L hC (dn Q) (zca [v0, v1]) h hR)
def zdl.I : Bx := ⟨[4], [], 9, []⟩
theorem zdl.L {C : CSem} (hC : zdb C) (Q : AVal → za → Prop) (s : z0) (h : za) (hR : zdl.cps C N (s 0) (s 1) h Q) : bwp P C zdl.I (Try.f27.body.getD .skip) (retB P zdl.I Try.f27.results.toList Q) s h :=
 e1 hR
theorem zdl.imp : zdl.Imp (AC P) N := fun v0 v1 h Q hR => eF mixed (fn := Try.f27) (fun hC => zdl.L hC (dn Q) (zca [v0, v1]) h hR)
def zdm.I : Bx := ⟨[4], [], 9, []⟩
theorem zdm.L {C : CSem} (hC : zdb C) (Q : AVal → za → Prop) (s : z0) (h : za) (hR : zdm.cps C N (s 0) (s 1) h Q) : bwp P C zdm.I (Try.f28.body.getD .skip) (retB P zdm.I Try.f28.results.toList Q) s h :=
 e1 hR
theorem zdm.imp : zdm.Imp (AC P) N := fun v0 v1 h Q hR => eF mixed (fn := Try.f28) (fun hC => zdm.L hC (dn Q) (zca [v0, v1]) h hR)
def zdp.I : Bx := ⟨[], [], 12, []⟩
theorem zdp.L {C : CSem} (hC : zdb C) (Q : AVal → za → Prop) (s : z0) (h : za) (hR : zdp.cps C N (s 0) (s 1) (s 2) (s 3) (s 4) h Q) : bwp P C zdp.I (Try.f29.body.getD .skip) (retB P zdp.I Try.f29.results.toList Q) s h :=
 e1 hR
theorem zdp.imp : zdp.Imp (AC P) N := fun v0 v1 v2 v3 v4 h Q hR => eF mixed (fn := Try.f29) (fun hC => zdp.L hC (dn Q) (zca [v0, v1, v2, v3, v4]) h hR)
def zdv.I : Bx := ⟨[], [], 44, [(5, [(0, []), (1, []), (2, []), (3, []), (4, []), (5, []), (6, []), (7, []), (8, []), (9, []), (10, []), (11, []), (12, []), (13, []), (14, []), (15, [])])]⟩
theorem zdv.L {C : CSem} (hC : zdb C) (Q : AVal → za → Prop) (s : z0) (h : za) (hR : zdv.cps C N (s 0) (s 1) (s 2) (s 3) h Q) : bwp P C zdv.I (Try.f30.body.getD .skip) (retB P zdv.I Try.f30.results.toList Q) s h :=
 eS hC (fun s h => B.appW h 3 32 .sz (s 1) fun v15 h =>
  zm (zdv.l2 C N Q (s 0) (s 2) (s 3)) [v15, (.int .i64 0)] h) (e1 hR) (fun s h hR => eS hC (fun s h => zm (zdv.l2 C N Q (s 0) (s 2) (s 3)) [(s 9), (.int .i64 0)] h) (e1 hR) (fun s h hR => eS hC (fun s h => B.call C (N 220) [(s 0), (s 9)] h fun v40 h =>
  B.pv (V.ext 0 v40) fun v41 =>
  B.pv (V.ext 1 v40) fun v42 =>
  Q v42 h) (eS hC (fun s h => zm (zdv.l2 C N Q (s 0) (s 2) (s 3)) [(s 9), (s 10)] h) (e1 hR) (fun s h hR => eK (eL hC [0, 2, 3] [9, 10] (fun kv lv h Y1 => match kv with | [v0, v2, v3] => zdv.l2 C N Q v0 v2 v3 lv h Y1 | _ => False) hR (fun Y1 s h hR => e1 hR)))) (fun s h hR => e1 hR)))
theorem zdv.imp : zdv.Imp (AC P) N := fun v0 v1 v2 v3 h Q hR => eF mixed (fn := Try.f30) (fun hC => zdv.L hC (dn Q) (zca [v0, v1, v2, v3]) h hR)
def zb6.I : Bx := ⟨[5], [19, 25], 69, []⟩
theorem zb6.L {C : CSem} (hC : zdb C) (Q : AVal → za → Prop) (s : z0) (h : za) (hR : zb6.cps C N (s 0) h Q) : bwp P C zb6.I (Try.f31.body.getD .skip) (retB P zb6.I Try.f31.results.toList Q) s h :=
 eS hC (fun s h => B.newO h (some (zrep 4002 (.int .i64 0))) fun i3 h =>
  B.pv (V.zcj (s 0)) fun v11 =>
  zm (zb6.l4 C N Q (.ptr i3 0 0) (s 0) v11) [(.int .i64 0)] h) (e1 hR) (fun s h hR => eS hC (fun s h => B.pv (V.zcj (s 0)) fun v11 =>
  zm (zb6.l4 C N Q (s 3) (s 0) v11) [(.int .i64 0)] h) (e1 hR) (fun s h hR => eS hC (fun s h => zm (zb6.l2 C N Q (s 3)) [.nils, (.int .i64 0), (.int .i64 0)] h) (eS hC (fun s h => zm (zb6.l4 C N Q (s 3) (s 10) (s 11)) [(s 12)] h) (e1 hR) (fun s h hR => eK (eL hC [3, 10, 11] [12] (fun kv lv h Y2 => match kv with | [v3, v10, v11] => zb6.l4 C N Q v3 v10 v11 lv h Y2 | _ => False) hR (fun Y2 s h hR => e1 hR)))) (fun s h hR => eS hC (fun s h => zm (zb6.l2 C N Q (s 3)) [(s 6), (.int .i64 0), (.int .i64 0)] h) (e1 hR) (fun s h hR => eS hC (fun s h => zm (zb6.l2 C N Q (s 3)) [(s 6), (s 7), (.int .i64 0)] h) (e1 hR) (fun s h hR => eS hC (fun s h => Q (s 6) h) (eS hC (fun s h => zm (zb6.l2 C N Q (s 3)) [(s 6), (s 7), (s 32)] h) (e1 hR) (fun s h hR => eK (eL hC [3] [6, 7, 32] (fun kv lv h Y1 => match kv with | [v3] => zb6.l2 C N Q v3 lv h Y1 | _ => False) hR (fun Y1 s h hR => e1 hR)))) (fun s h hR => e1 hR))))))
theorem zb6.imp : zb6.Imp (AC P) N := fun v0 h Q hR => eF mixed (fn := Try.f31) (fun hC => zb6.L hC (dn Q) (zca [v0]) h hR)
def zem.I : Bx := ⟨[], [], 46, []⟩
theorem zem.L {C : CSem} (hC : zdb C) (Q : AVal → za → Prop) (s : z0) (h : za) (hR : zem.cps C N (s 0) h Q) : bwp P C zem.I (Try.f32.body.getD .skip) (retB P zem.I Try.f32.results.toList Q) s h :=
 eS hC (fun s h => zm (zem.l2 C N Q (s 0)) [.nils, (.int .i64 0)] h) (e1 hR) (fun s h hR => eS hC (fun s h => zm (zem.l2 C N Q (s 0)) [(s 3), (.int .i64 0)] h) (e1 hR) (fun s h hR => eS hC (fun s h => Q (s 3) h) (eS hC (fun s h => zm (zem.l2 C N Q (s 0)) [(s 3), (s 4)] h) (e1 hR) (fun s h hR => eK (eL hC [0] [3, 4] (fun kv lv h Y1 => match kv with | [v0] => zem.l2 C N Q v0 lv h Y1 | _ => False) hR (fun Y1 s h hR => e1 hR)))) (fun s h hR => e1 hR)))
theorem zem.imp : zem.Imp (AC P) N := fun v0 h Q hR => eF mixed (fn := Try.f32) (fun hC => zem.L hC (dn Q) (zca [v0]) h hR)
def zbb.I : Bx := ⟨[10, 14, 17], [33, 35, 38, 41, 59, 62, 72, 79, 81, 87, 97], 109, [(9, [(0, []), (1, []), (2, []), (3, []), (4, []), (5, []), (7, []), (6, [2, 7]), (8, []), (9, [2]), (10, [])])]⟩
theorem zbb.L {C : CSem} (hC : zdb C) (Q : AVal → za → Prop) (s : z0) (h : za) (hR : zbb.cps C N (s 0) (s 1) h Q) : bwp P C zbb.I (Try.f33.body.getD .skip) (retB P zbb.I Try.f33.results.toList Q) s h :=
 eS hC (fun s h => zbb.k11 C N Q (s 0) (s 1) h) (e1 hR) (fun s h hR => eS hC (fun s h => B.zmn h fun v23 h =>
  zbb.k10 C N Q (s 0) (s 1) v23 h) (e1 hR) (fun s h hR => eS hC (fun s h => zbb.k10 C N Q (s 0) (s 1) (s 7) h) (e1 hR) (fun s h hR => eS hC (fun s h => B.call C (N 149) [(s 0)] h fun v26 h =>
  B.pv (V.zcj v26) fun v27 =>
  zm (zbb.l9 C N Q (s 1) (s 7) (s 8) v26 v27) [(.int .i64 0)] h) (e1 hR) (fun s h hR => eS hC (fun s h => B.call C (N 240) [(s 1)] h fun v49 h =>
  B.pv (V.zcj v49) fun v50 =>
  zm (zbb.l7 C N Q (s 1) (s 7) (s 8) v49 v50) [.nils, (.int .i64 0)] h) (eS hC (fun s h => zm (zbb.l9 C N Q (s 1) (s 7) (s 8) (s 26) (s 27)) [(s 28)] h) (e1 hR) (fun s h hR => eK (eL hC [1, 7, 8, 26, 27] [28] (fun kv lv h Y3 => match kv with | [v1, v7, v8, v26, v27] => zbb.l9 C N Q v1 v7 v8 v26 v27 lv h Y3 | _ => False) hR (fun Y3 s h hR => e1 hR)))) (fun s h hR => eS hC (fun s h => B.call C (N 240) [(s 1)] h fun v49 h =>
  B.pv (V.zcj v49) fun v50 =>
  zm (zbb.l7 C N Q (s 1) (s 7) (s 8) v49 v50) [(s 11), (.int .i64 0)] h) (e1 hR) (fun s h hR => eS hC (fun s h => Q (.tup [(s 11), (s 7), (.bool true)]) h) (eS hC (fun s h => zm (zbb.l7 C N Q (s 1) (s 7) (s 8) (s 49) (s 50)) [(s 11), (s 51)] h) (e1 hR) (fun s h hR => eK (eL hC [1, 7, 8, 49, 50] [11, 51] (fun kv lv h Y1 => match kv with | [v1, v7, v8, v49, v50] => zbb.l7 C N Q v1 v7 v8 v49 v50 lv h Y1 | _ => False) hR (fun Y1 s h hR => eS hC (fun s h => zbb.k6 C N Q Y1 (s 1) (s 7) (s 8) (s 11) (s 49) (s 50) (s 51) (s 52) h) (e1 hR) (fun s h hR => eS hC (fun s h => B.pv (V.idxS 1 (s 49) (s 51)) fun v53 =>
  B.ld h v53 fun v54 =>
  zbb.k5 C N Q Y1 (s 1) (s 7) (s 8) (s 11) v54 (s 49) (s 50) (s 51) h) (e1 hR) (fun s h hR => eS hC (fun s h => B.pv (V.bin .add (s 51) (.int .i64 1)) fun v106 =>
  Y1 [(s 11), v106] h) (eK (eS hC (fun s h => zbb.k5 C N Q Y1 (s 1) (s 7) (s 8) (s 11) (s 13) (s 49) (s 50) (s 51) h) (e1 hR) (fun s h hR => eS hC (fun s h => B.al (s 123) (B.pv (V.zbu 2 (s 123)) fun v60 =>
  zbb.k4 C N Q Y1 (s 1) (s 7) (s 8) (s 11) (s 13) v60 (s 49) (s 50) (s 51) (s 123) h)) (e1 hR) (fun s h hR => eS hC (fun s h => zbb.k4 C N Q Y1 (s 1) (s 7) (s 8) (s 11) (s 13) (s 15) (s 49) (s 50) (s 51) (s 123) h) (e1 hR) (fun s h hR => eS hC (fun s h => zbb.k1 C N Q Y1 (s 1) (s 7) (s 8) (s 11) (s 15) (s 49) (s 50) (s 51) h) (eS hC (fun s h => zm (zbb.l3 C N Q Y1 (s 1) (s 7) (s 8) (s 13) (s 49) (s 50) (s 51) (s 64) (s 65) (s 123)) [(s 11), (s 15), (s 66)] h) (e1 hR) (fun s h hR => eK (eL hC [1, 7, 8, 13, 49, 50, 51, 64, 65, 123] [11, 15, 66] (fun kv lv h Y2 => match kv with | [v1, v7, v8, v13, v49, v50, v51, v64, v65, c14] => zbb.l3 C N Q Y1 v1 v7 v8 v13 v49 v50 v51 v64 v65 c14 lv h Y2 | _ => False) hR (fun Y2 s h hR => e1 hR)))) (fun s h hR => e1 hR)))))) (fun s h hR => e1 hR))))))) (fun s h hR => e1 hR)))))))
theorem zbb.imp : zbb.Imp (AC P) N := fun v0 v1 h Q hR => eF mixed (fn := Try.f33) (fun hC => zbb.L hC (dn Q) (zca [v0, v1]) h hR)
def zb4.I : Bx := ⟨[7], [28, 33], 39, []⟩
theorem zb4.L {C : CSem} (hC : zdb C) (Q : AVal → za → Prop) (s : z0) (h : za) (hR : zb4.cps C N (s 0) (s 1) h Q) : bwp P C zb4.I (Try.f34.body.getD .skip) (retB P zb4.I Try.f34.results.toList Q) s h :=
 eS hC (fun s h => zb4.k3 C N Q (s 0) (s 1) h) (e1 hR) (fun s h hR => eS hC (fun s h => B.zmn h fun v16 h =>
  B.pv (V.zcj (s 0)) fun v18 =>
  zm (zb4.l2 C N Q (s 1) v16 (s 0) v18) [(.int .i64 0)] h) (e1 hR) (fun s h hR => eS hC (fun s h => B.pv (V.zcj (s 0)) fun v18 =>
  zm (zb4.l2 C N Q (s 1) (s 5) (s 0) v18) [(.int .i64 0)] h) (e1 hR) (fun s h hR => eS hC (fun s h => B.call C (N 237) [(s 1), (.fn (N 243) [] [])] h fun v37 h =>
  B.pv (V.un .not v37) fun v38 =>
  Q v38 h) (eS hC (fun s h => zm (zb4.l2 C N Q (s 1) (s 5) (s 17) (s 18)) [(s 19)] h) (e1 hR) (fun s h hR => eK (eL hC [1, 5, 17, 18] [19] (fun kv lv h Y1 => match kv with | [v1, v5, v17, v18] => zb4.l2 C N Q v1 v5 v17 v18 lv h Y1 | _ => False) hR (fun Y1 s h hR => e1 hR)))) (fun s h hR => e1 hR))))
theorem zb4.imp : zb4.Imp (AC P) N := fun v0 v1 h Q hR => eF mixed (fn := Try.f34) (fun hC => zb4.L hC (dn Q) (zca [v0, v1]) h hR)
def zec.I : Bx := ⟨[2], [8, 15], 19, []⟩
theorem zec.L {C : CSem} (hC : zdb C) (Q : AVal → za → Prop) (s : z0) (h : za) (hR : zec.cps C N (s 0) (s 1) h Q) : bwp P C zec.I (Try.f36.body.getD .skip) (retB P zec.I Try.f36.results.toList Q) s h :=
 e1 hR
theorem zec.imp : zec.Imp (AC P) N := fun v0 v1 h Q hR => eF mixed (fn := Try.f36) (fun hC => zec.L hC (dn Q) (zca [v0, v1]) h hR)
def zp.I : Bx := ⟨[], [], 9, []⟩
theorem zp.L {C : CSem} (hC : zdb C) (Q : AVal → za → Prop) (s : z0) (h : za) (hR : zp.cps C N (s 0) (s 1) h Q) : bwp P C zp.I (Try.f37.body.getD .skip) (retB P zp.I Try.f37.results.toList Q) s h :=
 e1 hR
theorem zp.imp : zp.Imp (AC P) N := fun v0 v1 h Q hR => eF mixed (fn := Try.f37) (fun hC => zp.L hC (dn Q) (zca [v0, v1]) h hR)
def ze8.I : Bx := ⟨[], [], 10, []⟩
theorem ze8.L {C : CSem} (hC : zdb C) (Q : AVal → za → Prop) (s : z0) (h : za) (hR : ze8.cps C N (s 0) (s 1) h Q) : bwp P C ze8.I (Try.f39.body.getD .skip) (retB P ze8.I Try.f39.results.toList Q) s h :=
 e1 hR
theorem ze8.imp : ze8.Imp (AC P) N := fun v0 v1 h Q hR => eF mixed (fn := Try.f39) (fun hC => ze8.L hC (dn Q) (zca [v0, v1]) h hR)
def zbo.I : Bx := ⟨[], [], 35, [(1, [(0, []), (1, []), (2, []), (3, []), (4, []), (5, [])]), (6, [(0, []), (1, []), (2, []), (3, []), (4, []), (5, []), (6, []), (7, []), (8, [0]), (9, []), (10, [])])]⟩
theorem zbo.L {C : CSem} (hC : zdb C) (Q : AVal → za → Prop) (s : z0) (h : za) (hR : zbo.cps C N (s 0) (s 1) (s 2) (s 3) (s 4) (s 5) h Q) : bwp P C zbo.I (Try.f40.body.getD .skip) (retB P zbo.I Try.f40.results.toList Q) s h :=
 eS hC (fun s h => zbo.k4 C N Q (s 1) (s 2) (s 3) (s 4) (s 5) (s 6) h) (e1 hR) (fun s h hR => eS hC (fun s h => B.pv (V.bin .gtr (s 7) (s 8)) fun v17 =>
  B.cond v17
  (Q (.tup []) h)
  (zbo.k3 C N Q (s 3) (s 4) (s 5) (s 6) (s 7) (s 8) h)) (e1 hR) (fun s h hR => eS hC (fun s h => zbo.k3 C N Q (s 3) (s 4) (s 5) (s 6) (s 7) (s 8) h) (e1 hR) (fun s h hR => eS hC (fun s h => zow C (s 21) (W2 fun v22 v23 h Z1 => zbo.r2 C N Q (s 3) (s 4) (s 5) (s 6) v22 v23 h Z1) h (RK [(0, fun h => Q (.tup []) h), (1, fun h => Q (.tup []) h)])) (e1 hR) (fun s h hR => eK (eR2 hC 21 22 23 [3, 4, 5, 6] (fun kv v22 v23 h Z1 => match kv with | [v3, v4, v5, v6] => zbo.r2 C N Q v3 v4 v5 v6 v22 v23 h Z1 | _ => False) hR (zrb (fun h hR => e0 hR) (zrb (fun h hR => e0 hR) rk_nil)) (fun Z1 s h hR => e1 hR))))))
theorem zbo.imp : zbo.Imp (AC P) N := fun v0 v1 v2 v3 v4 v5 h Q hR => eF mixed (fn := Try.f40) (fun hC => zbo.L hC (dn Q) (zca [v0, v1, v2, v3, v4, v5]) h hR)
def zcp.I : Bx := ⟨[9, 10], [23, 34, 36], 46, []⟩
theorem zcp.L {C : CSem} (hC : zdb C) (Q : AVal → za → Prop) (s : z0) (h : za) (hR : zcp.cps C N (s 0) (s 1) (s 2) h Q) : bwp P C zcp.I (Try.f41.body.getD .skip) (retB P zcp.I Try.f41.results.toList Q) s h :=
 eS hC (fun s h => zcp.k4 C N Q (s 0) (s 1) (s 2) h) (e1 hR) (fun s h hR => eS hC (fun s h => B.pv (V.zcj (s 2)) fun v17 =>
  zm (zcp.l3 C N Q (s 0) (s 1) (s 7) (s 2) v17) [(.int .i64 0)] h) (e1 hR) (fun s h hR => eS hC (fun s h => zcp.k1 C N Q (s 7) h) (eS hC (fun s h => zm (zcp.l3 C N Q (s 0) (s 1) (s 7) (s 16) (s 17)) [(s 18)] h) (e1 hR) (fun s h hR => eK (eL hC [0, 1, 7, 16, 17] [18] (fun kv lv h Y1 => match kv with | [v0, v1, v7, v16, v17] => zcp.l3 C N Q v0 v1 v7 v16 v17 lv h Y1 | _ => False) hR (fun Y1 s h hR => e1 hR)))) (fun s h hR => e1 hR)))
theorem zcp.imp : zcp.Imp (AC P) N := fun v0 v1 v2 h Q hR => eF mixed (fn := Try.f41) (fun hC => zcp.L hC (dn Q) (zca [v0, v1, v2]) h hR)
def zdq.I : Bx := ⟨[11], [21, 24], 33, []⟩
theorem zdq.L {C : CSem} (hC : zdb C) (Q : AVal → za → Prop) (s : z0) (h : za) (hR : zdq.cps C N (s 0) (s 1) (s 2) (s 3) h Q) : bwp P C zdq.I (Try.f42.body.getD .skip) (retB P zdq.I Try.f42.results.toList Q) s h :=
 eS hC (fun s h => B.call C (N 338) [(s 1)] h fun v13 h =>
  B.pv (V.zcj (s 2)) fun v15 =>
  zm (zdq.l2 C N Q (s 0) (s 3) (s 2) v15) [v13, (.int .i64 0)] h) (e1 hR) (fun s h hR => eS hC (fun s h => B.pv (V.zcj (s 2)) fun v15 =>
  zm (zdq.l2 C N Q (s 0) (s 3) (s 2) v15) [(s 9), (.int .i64 0)] h) (e1 hR) (fun s h hR => eS hC (fun s h => B.call C (N 215) [(s 0), (s 9)] h fun v32 h =>
  Q v32 h) (eS hC (fun s h => zm (zdq.l2 C N Q (s 0) (s 3) (s 14) (s 15)) [(s 9), (s 16)] h) (e1 hR) (fun s h hR => eK (eL hC [0, 3, 14, 15] [9, 16] (fun kv lv h Y1 => match kv with | [v0, v3, v14, v15] => zdq.l2 C N Q v0 v3 v14 v15 lv h Y1 | _ => False) hR (fun Y1 s h hR => e1 hR)))) (fun s h hR => e1 hR)))
theorem zdq.imp : zdq.Imp (AC P) N := fun v0 v1 v2 v3 h Q hR => eF mixed (fn := Try.f42) (fun hC => zdq.L hC (dn Q) (zca [v0, v1, v2, v3]) h hR)
def zu.I : Bx := ⟨[], [], 157, [(17, [(0, []), (1, []), (2, []), (3, []), (4, []), (5, []), (6, []), (7, []), (8, []), (9, []), (10, []), (11, []), (12, []), (13, []), (14, []), (15, []), (16, []), (17, []), (18, []), (19, []), (20, []), (21, [])]), (26, [(0, []), (1, []), (2, []), (3, []), (4, []), (5, []), (6, []), (7, []), (8, []), (9, []), (10, []), (11, []), (12, []), (13, []), (14, []), (15, []), (16, []), (17, []), (18, []), (19, []), (20, []), (21, []), (22, []), (23, []), (24, []), (25, []), (26, []), (27, []), (28, []), (29, []), (30, []), (31, [])])]⟩
theorem zu.L {C : CSem} (hC : zdb C) (Q : AVal → za → Prop) (s : z0) (h : za) (hR : zu.cps C N (s 0) (s 1) h Q) : bwp P C zu.I (Try.f43.body.getD .skip) (retB P zu.I Try.f43.results.toList Q) s h :=
 eS hC (fun s h => zu.k14 C N Q (s 0) (s 1) h) (e1 hR) (fun s h hR => eS hC (fun s h => B.pv (V.zcj (s 0)) fun v22 =>
  0 < 1 ∧ B.mks h 8 (some [.int .i64 0]) v22 v22 fun v23 h =>
  zm (zu.l13 C N Q (s 0) (s 1) v23) [(.int .i64 0)] h) (e1 hR) (fun s h hR => eS hC (fun s h => zm (zu.l13 C N Q (s 0) (s 1) (s 6)) [(.int .i64 0)] h) (e1 hR) (fun s h hR => eS hC (fun s h => zu.k11 C N Q (s 0) (s 1) (s 6) h) (eS hC (fun s h => zm (zu.l13 C N Q (s 0) (s 1) (s 6)) [(s 7)] h) (e1 hR) (fun s h hR => eK (eL hC [0, 1, 6] [7] (fun kv lv h Y5 => match kv with | [v0, v1, v6] => zu.l13 C N Q v0 v1 v6 lv h Y5 | _ => False) hR (fun Y5 s h hR => e1 hR)))) (fun s h hR => eS hC (fun s h => zm (zu.l10 C N Q (s 0) (s 1) (s 6) (s 8)) [.nils, (.int .i64 0)] h) (e1 hR) (fun s h hR => eS hC (fun s h => zm (zu.l10 C N Q (s 0) (s 1) (s 6) (s 8)) [(s 9), (.int .i64 0)] h) (e1 hR) (fun s h hR => eS hC (fun s h => Q (.tup [(s 9), (.bool true)]) h) (eS hC (fun s h => zm (zu.l10 C N Q (s 0) (s 1) (s 6) (s 8)) [(s 9), (s 10)] h) (e1 hR) (fun s h hR => eK (eL hC [0, 1, 6, 8] [9, 10] (fun kv lv h Y1 => match kv with | [v0, v1, v6, v8] => zu.l10 C N Q v0 v1 v6 v8 lv h Y1 | _ => False) hR (fun Y1 s h hR => eS hC (fun s h => zm (zu.l8 C N Q Y1 (s 0) (s 1) (s 6) (s 8) (s 9) (s 10)) [(.int .i64 (-1)), (.int .i64 0)] h) (e1 hR) (fun s h hR => eS hC (fun s h => B.pv (V.bin .add (s 10) (.int .i64 1)) fun v46 =>
  Y1 [(s 9), v46] h) (eK (eS hC (fun s h => zm (zu.l8 C N Q Y1 (s 0) (s 1) (s 6) (s 8) (s 9) (s 10)) [(s 11), (.int .i64 0)] h) (e1 hR) (fun s h hR => eS hC (fun s h => B.pv (V.idxS 1 (s 8) (s 11)) fun v78 =>
  B.st h v78 (.bool true) fun h =>
  zu.k6 C N Q Y1 (s 0) (s 1) (s 6) (s 8) (s 9) (s 10) (s 11) h) (eS hC (fun s h => zm (zu.l8 C N Q Y1 (s 0) (s 1) (s 6) (s 8) (s 9) (s 10)) [(s 11), (s 12)] h) (e1 hR) (fun s h hR => eK (eL hC [0, 1, 6, 8, 9, 10] [11, 12] (fun kv lv h Y4 => match kv with | [v0, v1, v6, v8, v9, v10] => zu.l8 C N Q Y1 v0 v1 v6 v8 v9 v10 lv h Y4 | _ => False) hR (fun Y4 s h hR => e1 hR)))) (fun s h hR => eS hC (fun s h => zu.k6 C N Q Y1 (s 0) (s 1) (s 6) (s 8) (s 9) (s 10) (s 11) h) (e1 hR) (fun s h hR => eS hC (fun s h => zm (zu.l5 C N Q Y1 (s 0) (s 1) (s 6) (s 8) (s 10) (s 11)) [(s 9), (s 13)] h) (e1 hR) (fun s h hR => eK (eL hC [0, 1, 6, 8, 10, 11] [9, 13] (fun kv lv h Y2 => match kv with | [v0, v1, v6, v8, v10, v11] => zu.l5 C N Q Y1 v0 v1 v6 v8 v10 v11 lv h Y2 | _ => False) hR (fun Y2 s h hR => eS hC (fun s h => zm (zu.l3 C N Q Y1 Y2 (s 0) (s 1) (s 6) (s 8) (s 9) (s 10) (s 11) (s 13)) [(.int .i64 (-1)), (.int .i64 0)] h) (e1 hR) (fun s h hR => eK (eS hC (fun s h => zm (zu.l3 C N Q Y1 Y2 (s 0) (s 1) (s 6) (s 8) (s 9) (s 10) (s 11) (s 13)) [(s 14), (.int .i64 0)] h) (e1 hR) (fun s h hR => eS hC (fun s h => zu.k1 C N Q Y1 Y2 (s 0) (s 1) (s 6) (s 8) (s 9) (s 10) (s 11) (s 13) (s 14) h) (eS hC (fun s h => zm (zu.l3 C N Q Y1 Y2 (s 0) (s 1) (s 6) (s 8) (s 9) (s 10) (s 11) (s 13)) [(s 14), (s 15)] h) (e1 hR) (fun s h hR => eK (eL hC [0, 1, 6, 8, 9, 10, 11, 13] [14, 15] (fun kv lv h Y3 => match kv with | [v0, v1, v6, v8, v9, v10, v11, v13] => zu.l3 C N Q Y1 Y2 v0 v1 v6 v8 v9 v10 v11 v13 lv h Y3 | _ => False) hR (fun Y3 s h hR => e1 hR)))) (fun s h hR => e1 hR)))))))))))) (fun s h hR => e1 hR)))))) (fun s h hR => e1 hR)))))))
theorem zu.imp : zu.Imp (AC P) N := fun v0 v1 h Q hR => eF mixed (fn := Try.f43) (fun hC => zu.L hC (dn Q) (zca [v0, v1]) h hR)
def zdc.I : Bx := ⟨[1], [3, 7, 9, 14], 18, []⟩
theorem zdc.L {C : CSem} (hC : zdb C) (Q : AVal → za → Prop) (s : z0) (h : za) (hR : zdc.cps C N (s 0) h Q) : bwp P C zdc.I (Try.f44.body.getD .skip) (retB P zdc.I Try.f44.results.toList Q) s h :=
 e1 hR
theorem zdc.imp : zdc.Imp (AC P) N := fun v0 h Q hR => eF mixed (fn := Try.f44) (fun hC => zdc.L hC (dn Q) (zca [v0]) h hR)
def zfj.I : Bx := ⟨[], [], 9, []⟩
theorem zfj.L {C : CSem} (hC : zdb C) (Q : AVal → za → Prop) (s : z0) (h : za) (hR : zfj.cps C N (s 0) h Q) : bwp P C zfj.I (Try.f45.body.getD .skip) (retB P zfj.I Try.f45.results.toList Q) s h :=
 e1 hR
theorem zfj.imp : zfj.Imp (AC P) N := fun v0 h Q hR => eF mixed (fn := Try.f45) (fun hC => zfj.L hC (dn Q) (zca [v0]) h hR)
def zdo.I : Bx := ⟨[], [], 22, []⟩
theorem zdo.L {C : CSem} (hC : zdb C) (Q : AVal → za → Prop) (s : z0) (h : za) (hR : zdo.cps C N (s 0) h Q) : bwp P C zdo.I (Try.f46.body.getD .skip) (retB P zdo.I Try.f46.results.toList Q) s h :=
 eS hC (fun s h => zdo.k3 C N Q (s 1) h) (e1 hR) (fun s h hR => eS hC (fun s h => B.pv (V.zcj (s 3)) fun v9 =>
  zm (zdo.l2 C N Q (s 1) (s 3) v9) [(.int .i64 0)] h) (e1 hR) (fun s h hR => eS hC (fun s h => B.call C (N 246) [(s 3), (.fn (N 245) [] [(s 1)])] h fun v20 h =>
  Q (s 3) h) (eS hC (fun s h => zm (zdo.l2 C N Q (s 1) (s 3) (s 9)) [(s 10)] h) (e1 hR) (fun s h hR => eK (eL hC [1, 3, 9] [10] (fun kv lv h Y1 => match kv with | [v1, v3, v9] => zdo.l2 C N Q v1 v3 v9 lv h Y1 | _ => False) hR (fun Y1 s h hR => e1 hR)))) (fun s h hR => e1 hR)))
theorem zdo.imp : zdo.Imp (AC P) N := fun v0 h Q hR => eF mixed (fn := Try.f46) (fun hC => zdo.L hC (dn Q) (zca [v0]) h hR)
def zet.I : Bx := ⟨[1], [3, 7, 12, 17, 18, 20, 21, 26, 31], 35, []⟩
theorem zet.L {C : CSem} (hC : zdb C) (Q : AVal → za → Prop) (s : z0) (h : za) (hR : zet.cps C N (s 0) h Q) : bwp P C zet.I (Try.f47.body.getD .skip) (retB P zet.I Try.f47.results.toList Q) s h :=
 e1 hR
theorem zet.imp : zet.Imp (AC P) N := fun v0 h Q hR => eF mixed (fn := Try.f47) (fun hC => zet.L hC (dn Q) (zca [v0]) h hR)
def zcx.I : Bx := ⟨[1], [3, 8, 13, 18, 23], 28, []⟩
theorem zcx.L {C : CSem} (hC : zdb C) (Q : AVal → za → Prop) (s : z0) (h : za) (hR : zcx.cps C N (s 0) h Q) : bwp P C zcx.I (Try.f48.body.getD .skip) (retB P zcx.I Try.f48.results.toList Q) s h :=
 e1 hR
theorem zcx.imp : zcx.Imp (AC P) N := fun v0 h Q hR => eF mixed (fn := Try.f48) (fun hC => zcx.L hC (dn Q) (zca [v0]) h hR)
def zc4.I : Bx := ⟨[], [], 40, []⟩
theorem zc4.L {C : CSem} (hC : zdb C) (Q : AVal → za → Prop) (s : z0) (h : za) (hR : zc4.cps C N (s 0) h Q) : bwp P C zc4.I (Try.f49.body.getD .skip) (retB P zc4.I Try.f49.results.toList Q) s h :=
 eS hC (fun s h => B.zg0 h (s 0) fun v6 h =>
  zm (zc4.l3 C N Q (s 0) v6) [] h) (e1 hR) (fun s h hR => eS hC (fun s h => zc4.k1 C N Q (s 0) h) (eS hC (fun s h => zm (zc4.l3 C N Q (s 0) (s 6)) [] h) (e1 hR) (fun s h hR => eK (eL hC [0, 6] [] (fun kv lv h Y1 => match kv with | [v0, v6] => zc4.l3 C N Q v0 v6 lv h Y1 | _ => False) hR (fun Y1 s h hR => e1 hR)))) (fun s h hR => e1 hR))
theorem zc4.imp : zc4.Imp (AC P) N := fun v0 h Q hR => eF mixed (fn := Try.f49) (fun hC => zc4.L hC (dn Q) (zca [v0]) h hR)
def zdt.I : Bx := ⟨[], [], 9, []⟩
theorem zdt.L {C : CSem} (hC : zdb C) (Q : AVal → za → Prop) (s : z0) (h : za) (hR : zdt.cps C N (s 0) h Q) : bwp P C zdt.I (Try.f50.body.getD .skip) (retB P zdt.I Try.f50.results.toList Q) s h :=
 e1 hR
theorem zdt.imp : zdt.Imp (AC P) N := fun v0 h Q hR => eF mixed (fn := Try.f50) (fun hC => zdt.L hC (dn Q) (zca [v0]) h hR)
def zw.I : Bx := ⟨[], [], 19, []⟩
theorem zw.L {C : CSem} (hC : zdb C) (Q : AVal → za → Prop) (s : z0) (h : za) (hR : zw.cps C N (s 0) (s 1) h Q) : bwp P C zw.I (Try.f51.body.getD .skip) (retB P zw.I Try.f51.results.toList Q) s h :=
 eS hC (fun s h => B.pv (V.zcj (s 0)) fun v7 =>
  zm (zdz.l2 C (opsF 3 32 [.str [], .int .i64 0, .int .i64 0] 0 []) Q (s 0) (s 1) v7) [(.int .i64 0)] h) (e1 hR) (fun s h hR => eS hC (fun s h => Q (.int .i64 (-1)) h) (eS hC (fun s h => zm (zdz.l2 C (opsF 3 32 [.str [], .int .i64 0, .int .i64 0] 0 []) Q (s 0) (s 1) (s 7)) [(s 8)] h) (e1 hR) (fun s h hR => eK (eL hC [0, 1, 7] [8] (fun kv lv h Y1 => match kv with | [v0, v1, v7] => zdz.l2 C (opsF 3 32 [.str [], .int .i64 0, .int .i64 0] 0 []) Q v0 v1 v7 lv h Y1 | _ => False) hR (fun Y1 s h hR => e1 hR)))) (fun s h hR => e1 hR))
theorem zw.imp : zw.Imp (AC P) N := fun v0 v1 h Q hR => eF mixed (fn := Try.f51) (fun hC => zw.L hC (dn Q) (zca [v0, v1]) h hR)
def zd4.I : Bx := ⟨[2, 3, 4], [15, 17, 20, 22], 28, []⟩
theorem zd4.L {C : CSem} (hC : zdb C) (Q : AVal → za → Prop) (s : z0) (h : za) (hR : zd4.cps C N (s 0) (s 1) h Q) : bwp P C zd4.I (Try.f52.body.getD .skip) (retB P zd4.I Try.f52.results.toList Q) s h :=
 e1 hR
theorem zd4.imp : zd4.Imp (AC P) N := fun v0 v1 h Q hR => eF mixed (fn := Try.f52) (fun hC => zd4.L hC (dn Q) (zca [v0, v1]) h hR)
def zb9.I : Bx := ⟨[], [], 11, []⟩
theorem zb9.L {C : CSem} (hC : zdb C) (Q : AVal → za → Prop) (s : z0) (h : za) (hR : zb9.cps C N (s 0) h Q) : bwp P C zb9.I (Try.f53.body.getD .skip) (retB P zb9.I Try.f53.results.toList Q) s h :=
 e1 hR
theorem zb9.imp : zb9.Imp (AC P) N := fun v0 h Q hR => eF mixed (fn := Try.f53) (fun hC => zb9.L hC (dn Q) (zca [v0]) h hR)
def zbj.I : Bx := ⟨[], [], 61, [(6, [(0, []), (1, []), (2, []), (3, []), (4, []), (5, []), (6, []), (7, []), (8, []), (9, [])]), (11, [(0, []), (1, []), (2, []), (3, []), (4, []), (5, []), (6, []), (7, []), (8, []), (9, [])])]⟩
theorem zbj.L {C : CSem} (hC : zdb C) (Q : AVal → za → Prop) (s : z0) (h : za) (hR : zbj.cps C N (s 0) h Q) : bwp P C zbj.I (Try.f54.body.getD .skip) (retB P zbj.I Try.f54.results.toList Q) s h :=
 eS hC (fun s h => zb2.k5 C (opsS 8 (.int .i64 0) 0) Q (s 0) h) (e1 hR) (fun s h hR => eS hC (fun s h => zm (zb2.l4 C (opsS 8 (.int .i64 0) 0) Q (s 0)) [(.int .i64 1)] h) (e1 hR) (fun s h hR => eS hC (fun s h => Q (s 0) h) (eS hC (fun s h => zm (zb2.l4 C (opsS 8 (.int .i64 0) 0) Q (s 0)) [(s 3)] h) (e1 hR) (fun s h hR => eK (eL hC [0] [3] (fun kv lv h Y1 => match kv with | [v0] => zb2.l4 C (opsS 8 (.int .i64 0) 0) Q v0 lv h Y1 | _ => False) hR (fun Y1 s h hR => eS hC (fun s h => zb2.k3 C (opsS 8 (.int .i64 0) 0) Q Y1 (s 0) (s 3) h) (e1 hR) (fun s h hR => eS hC (fun s h => B.pv (V.bin .add (s 3) (.int .i64 1)) fun v15 =>
  Y1 [v15] h) (eK (eS hC (fun s h => B.cond (s 25) (B.pv (V.zhe (opsS 8 (.int .i64 0) 0).es (s 0) (some (s 3)) none) fun v28 =>
  zm (zb2.l2 C (opsS 8 (.int .i64 0) 0) Q Y1 (s 0) v28) [(s 3), (.int .i64 1)] h) (B.pv (V.bin .add (s 3) (.int .i64 1)) fun v15 =>
  Y1 [v15] h)) (e1 hR) (fun s h hR => eC 25 hR (fun hR => eS hC (fun s h => zm (zb2.l2 C (opsS 8 (.int .i64 0) 0) Q Y1 (s 0) (s 4)) [(s 3), (.int .i64 1)] h) (e1 hR) (fun s h hR => eS hC (fun s h => B.pv (V.zhe (opsS 8 (.int .i64 0) 0).es (s 0) (some (s 3)) none) fun v56 =>
  B.clr h (opsS 8 (.int .i64 0) 0).z v56 fun _ h =>
  B.pv (V.zhe (opsS 8 (.int .i64 0) 0).es (s 0) none (some (s 3))) fun v59 =>
  Q v59 h) (eS hC (fun s h => zm (zb2.l2 C (opsS 8 (.int .i64 0) 0) Q Y1 (s 0) (s 4)) [(s 3), (s 5)] h) (e1 hR) (fun s h hR => eK (eL hC [0, 4] [3, 5] (fun kv lv h Y2 => match kv with | [v0, v4] => zb2.l2 C (opsS 8 (.int .i64 0) 0) Q Y1 v0 v4 lv h Y2 | _ => False) hR (fun Y2 s h hR => e1 hR)))) (fun s h hR => e1 hR))) (fun hR => e1 hR)))) (fun s h hR => e1 hR)))))) (fun s h hR => e1 hR)))
theorem zbj.imp : zbj.Imp (AC P) N := fun v0 h Q hR => eF mixed (fn := Try.f54) (fun hC => zbj.L hC (dn Q) (zca [v0]) h hR)
def zci.I : Bx := ⟨[], [], 23, [(3, [(0, []), (1, []), (2, []), (3, []), (4, []), (5, []), (6, []), (7, []), (8, []), (9, []), (10, []), (11, [])])]⟩
theorem zci.L {C : CSem} (hC : zdb C) (Q : AVal → za → Prop) (s : z0) (h : za) (hR : zci.cps C N (s 0) (s 1) h Q) : bwp P C zci.I (Try.f55.body.getD .skip) (retB P zci.I Try.f55.results.toList Q) s h :=
 eS hC (fun s h => zm (zci.l2 C N Q (s 0) (s 1) (s 6)) [(s 7)] h) (e1 hR) (fun s h hR => eK (eL hC [0, 1, 6] [7] (fun kv lv h Y1 => match kv with | [v0, v1, v6] => zci.l2 C N Q v0 v1 v6 lv h Y1 | _ => False) hR (fun Y1 s h hR => e1 hR)))
theorem zci.imp : zci.Imp (AC P) N := fun v0 v1 h Q hR => eF mixed (fn := Try.f55) (fun hC => zci.L hC (dn Q) (zca [v0, v1]) h hR)
def z4.I : Bx := ⟨[], [], 9, []⟩
theorem z4.L {C : CSem} (hC : zdb C) (Q : AVal → za → Prop) (s : z0) (h : za) (hR : z4.cps C N (s 0) h Q) : bwp P C z4.I (Try.f56.body.getD .skip) (retB P z4.I Try.f56.results.toList Q) s h :=
 e1 hR
theorem z4.imp : z4.Imp (AC P) N := fun v0 h Q hR => eF mixed (fn := Try.f56) (fun hC => z4.L hC (dn Q) (zca [v0]) h hR)
def zb5.I : Bx := ⟨[], [], 56, [(11, [(0, []), (1, []), (2, []), (3, []), (4, []), (5, []), (6, []), (7, []), (8, []), (9, []), (10, [])])]⟩
theorem zb5.L {C : CSem} (hC : zdb C) (Q : AVal → za → Prop) (s : z0) (h : za) (hR : zb5.cps C N (s 0) (s 1) h Q) : bwp P C zb5.I (Try.f57.body.getD .skip) (retB P zb5.I Try.f57.results.toList Q) s h :=
 eS hC (fun s h => zb5.k8 C N Q (s 0) (s 1) h) (e1 hR) (fun s h hR => eS hC (fun s h => zm (zb5.l7 C N Q (s 0) (s 1)) [(.int .i64 0)] h) (e1 hR) (fun s h hR => eS hC (fun s h => zm (zb5.l2 C N Q (s 1)) [(.int .i64 0)] h) (eS hC (fun s h => zm (zb5.l7 C N Q (s 0) (s 1)) [(s 5)] h) (e1 hR) (fun s h hR => eK (eL hC [0, 1] [5] (fun kv lv h Y2 => match kv with | [v0, v1] => zb5.l7 C N Q v0 v1 lv h Y2 | _ => False) hR (fun Y2 s h hR => eS hC (fun s h => zb5.k5 C N Q Y2 (s 0) (s 1) (s 5) h) (e1 hR) (fun s h hR => eS hC (fun s h => B.pv (V.bin .add (s 5) (.int .i64 1)) fun v21 =>
  Y2 [v21] h) (eK (eS hC (fun s h => zm (zb5.l4 C N Q Y2 (s 0) (s 1) (s 5)) [(.int .i64 0)] h) (e1 hR) (fun s h hR => eS hC (fun s h => zm (zb5.l4 C N Q Y2 (s 0) (s 1) (s 5)) [(s 6)] h) (e1 hR) (fun s h hR => eK (eL hC [0, 1, 5] [6] (fun kv lv h Y3 => match kv with | [v0, v1, v5] => zb5.l4 C N Q Y2 v0 v1 v5 lv h Y3 | _ => False) hR (fun Y3 s h hR => e1 hR)))))) (fun s h hR => e1 hR)))))) (fun s h hR => eS hC (fun s h => Q (.bool true) h) (eS hC (fun s h => zm (zb5.l2 C N Q (s 1)) [(s 7)] h) (e1 hR) (fun s h hR => eK (eL hC [1] [7] (fun kv lv h Y1 => match kv with | [v1] => zb5.l2 C N Q v1 lv h Y1 | _ => False) hR (fun Y1 s h hR => e1 hR)))) (fun s h hR => e1 hR))))
theorem zb5.imp : zb5.Imp (AC P) N := fun v0 v1 h Q hR => eF mixed (fn := Try.f57) (fun hC => zb5.L hC (dn Q) (zca [v0, v1]) h hR)
def zde.I : Bx := ⟨[2, 3], [5, 7, 11, 13], 17, []⟩
theorem zde.L {C : CSem} (hC : zdb C) (Q : AVal → za → Prop) (s : z0) (h : za) (hR : zde.cps C N (s 0) (s 1) h Q) : bwp P C zde.I (Try.f58.body.getD .skip) (retB P zde.I Try.f58.results.toList Q) s h :=
 e1 hR
theorem zde.imp : zde.Imp (AC P) N := fun v0 v1 h Q hR => eF mixed (fn := Try.f58) (fun hC => zde.L hC (dn Q) (zca [v0, v1]) h hR)
def zc5.I : Bx := ⟨[2, 3], [6, 7, 9, 10, 14, 15, 17, 18, 22, 24, 28, 30], 33, []⟩
theorem zc5.L {C : CSem} (hC : zdb C) (Q : AVal → za → Prop) (s : z0) (h : za) (hR : zc5.cps C N (s 0) (s 1) h Q) : bwp P C zc5.I (Try.f59.body.getD .skip) (retB P zc5.I Try.f59.results.toList Q) s h :=
 e1 hR
theorem zc5.imp : zc5.Imp (AC P) N := fun v0 v1 h Q hR => eF mixed (fn := Try.f59) (fun hC => zc5.L hC (dn Q) (zca [v0, v1]) h hR)
def z7.I : Bx := ⟨[], [], 8, []⟩
theorem z7.L {C : CSem} (hC : zdb C) (Q : AVal → za → Prop) (s : z0) (h : za) (hR : z7.cps C N (s 0) h Q) : bwp P C z7.I (Try.f60.body.getD .skip) (retB P z7.I Try.f60.results.toList Q) s h :=
 e1 hR
theorem z7.imp : z7.Imp (AC P) N := fun v0 h Q hR => eF mixed (fn := Try.f60) (fun hC => z7.L hC (dn Q) (zca [v0]) h hR)
def zo.I : Bx := ⟨[], [], 9, []⟩
theorem zo.L {C : CSem} (hC : zdb C) (Q : AVal → za → Prop) (s : z0) (h : za) (hR : zo.cps C N (s 0) (s 1) h Q) : bwp P C zo.I (Try.f61.body.getD .skip) (retB P zo.I Try.f61.results.toList Q) s h :=
 e1 hR
theorem zo.imp : zo.Imp (AC P) N := fun v0 v1 h Q hR => eF mixed (fn := Try.f61) (fun hC => zo.L hC (dn Q) (zca [v0, v1]) h hR)
def zd8.I : Bx := ⟨[2, 3], [5, 6, 8, 9, 12, 14], 19, [(1, [(0, []), (1, []), (2, []), (3, []), (4, []), (5, []), (7, []), (8, []), (9, []), (10, []), (6, [8, 10]), (11, []), (12, []), (13, []), (14, [])])]⟩
theorem zd8.L {C : CSem} (hC : zdb C) (Q : AVal → za → Prop) (s : z0) (h : za) (hR : zd8.cps C N (s 0) (s 1) h Q) : bwp P C zd8.I (Try.f62.body.getD .skip) (retB P zd8.I Try.f62.results.toList Q) s h :=
 e1 hR
theorem zd8.imp : zd8.Imp (AC P) N := fun v0 v1 h Q hR => eF mixed (fn := Try.f62) (fun hC => zd8.L hC (dn Q) (zca [v0, v1]) h hR)
def z5.I : Bx := ⟨[], [], 9, []⟩
theorem z5.L {C : CSem} (hC : zdb C) (Q : AVal → za → Prop) (s : z0) (h : za) (hR : z5.cps C N (s 0) (s 1) h Q) : bwp P C z5.I (Try.f63.body.getD .skip) (retB P z5.I Try.f63.results.toList Q) s h :=
 e1 hR
theorem z5.imp : z5.Imp (AC P) N := fun v0 v1 h Q hR => eF mixed (fn := Try.f63) (fun hC => z5.L hC (dn Q) (zca [v0, v1]) h hR)
def zdy.I : Bx := ⟨[], [], 17, [(1, [(0, []), (1, []), (2, []), (3, []), (4, []), (5, []), (6, []), (7, []), (8, []), (9, []), (10, []), (11, [])])]⟩
theorem zdy.L {C : CSem} (hC : zdb C) (Q : AVal → za → Prop) (s : z0) (h : za) (hR : zdy.cps C N (s 0) (s 1) (s 2) h Q) : bwp P C zdy.I (Try.f64.body.getD .skip) (retB P zdy.I Try.f64.results.toList Q) s h :=
 e1 hR
theorem zdy.imp : zdy.Imp (AC P) N := fun v0 v1 v2 h Q hR => eF mixed (fn := Try.f64) (fun hC => zdy.L hC (dn Q) (zca [v0, v1, v2]) h hR)
def zdd.I : Bx := ⟨[4], [], 13, []⟩
theorem zdd.L {C : CSem} (hC : zdb C) (Q : AVal → za → Prop) (s : z0) (h : za) (hR : zdd.cps C N (s 0) (s 1) h Q) : bwp P C zdd.I (Try.f65.body.getD .skip) (retB P zdd.I Try.f65.results.toList Q) s h :=
 e1 hR
theorem zdd.imp : zdd.Imp (AC P) N := fun v0 v1 h Q hR => eF mixed (fn := Try.f65) (fun hC => zdd.L hC (dn Q) (zca [v0, v1]) h hR)
def zcg.I : Bx := ⟨[], [], 134, [(17, [(0, []), (1, []), (2, []), (3, []), (4, []), (5, []), (6, []), (7, []), (8, []), (9, []), (10, []), (11, []), (12, []), (13, []), (14, [])])]⟩
theorem zcg.L {C : CSem} (hC : zdb C) (Q : AVal → za → Prop) (s : z0) (h : za) (hR : zcg.cps C N (s 0) (s 1) (s 2) (s 3) h Q) : bwp P C zcg.I (Try.f66.body.getD .skip) (retB P zcg.I Try.f66.results.toList Q) s h :=
 eS hC (fun s h => zm (zr.l8 C (opsS 8 (.int .i64 0) 0) (N 340) (N 341) (N 342) (N 339) (N 343) (N 344) (N 345) (N 346) (N 347) (N 348) Q (s 0)) [(s 1), (s 2), (s 3), (s 8), (.bool true)] h) (e1 hR) (fun s h hR => eS hC (fun s h => zm (zr.l8 C (opsS 8 (.int .i64 0) 0) (N 340) (N 341) (N 342) (N 339) (N 343) (N 344) (N 345) (N 346) (N 347) (N 348) Q (s 0)) [(s 1), (s 2), (s 3), (s 8), (s 9)] h) (e1 hR) (fun s h hR => eK (eL hC [0] [1, 2, 3, 8, 9] (fun kv lv h Y1 => match kv with | [v0] => zr.l8 C (opsS 8 (.int .i64 0) 0) (N 340) (N 341) (N 342) (N 339) (N 343) (N 344) (N 345) (N 346) (N 347) (N 348) Q v0 lv h Y1 | _ => False) hR (fun Y1 s h hR => eK (eS hC (fun s h => zr.k7 C (opsS 8 (.int .i64 0) 0) (N 340) (N 341) (N 342) (N 339) (N 343) (N 344) (N 345) (N 346) (N 347) (N 348) Q Y1 (s 0) (s 1) (s 2) (s 3) (s 8) (s 9) (s 10) h) (e1 hR) (fun s h hR => eS hC (fun s h => zr.k6 C (opsS 8 (.int .i64 0) 0) (N 340) (N 341) (N 342) (N 339) (N 343) (N 344) (N 345) (N 346) (N 347) (N 348) Q Y1 (s 0) (s 1) (s 2) (s 3) (s 8) (s 9) (s 10) h) (e1 hR) (fun s h hR => eS hC (fun s h => zr.k5 C (opsS 8 (.int .i64 0) 0) (N 340) (N 341) (N 342) (N 339) (N 343) (N 344) (N 345) (N 346) (N 347) (N 348) Q Y1 (s 0) (s 1) (s 2) (s 3) (s 8) (s 9) (s 10) h) (e1 hR) (fun s h hR => eS hC (fun s h => zr.k4 C (opsS 8 (.int .i64 0) 0) (N 340) (N 341) (N 342) (N 339) (N 343) (N 344) (N 345) (N 346) (N 347) (N 348) Q Y1 (s 0) (s 1) (s 2) (s 3) (s 8) (s 9) (s 10) h) (e1 hR) (fun s h hR => eS hC (fun s h => zr.k3 C (opsS 8 (.int .i64 0) 0) (N 340) (N 341) (N 342) (N 339) (N 343) (N 344) (N 345) (N 346) (N 347) (N 348) Q Y1 (s 0) (s 1) (s 2) (s 3) (s 8) (s 9) (s 10) (s 11) (s 12) h) (e1 hR) (fun s h hR => eS hC (fun s h => zr.k2 C (opsS 8 (.int .i64 0) 0) (N 340) (N 341) (N 342) (N 339) (N 343) (N 344) (N 345) (N 346) (N 347) (N 348) Q Y1 (s 0) (s 1) (s 2) (s 3) (s 8) (s 9) (s 10) (s 11) (s 12) h) (e1 hR) (fun s h hR => eS hC (fun s h => zr.k1 C (opsS 8 (.int .i64 0) 0) (N 340) (N 341) (N 342) (N 339) (N 343) (N 344) (N 345) (N 346) (N 347) (N 348) Q Y1 (s 0) (s 1) (s 2) (s 3) (s 8) (s 9) (s 10) (s 11) h) (e1 hR) (fun s h hR => e1 hR))))))))))))
theorem zcg.imp : zcg.Imp (AC P) N := fun v0 v1 v2 v3 h Q hR => eF mixed (fn := Try.f66) (fun hC => zcg.L hC (dn Q) (zca [v0, v1, v2, v3]) h hR)
def zdi.I : Bx := ⟨[], [], 8, []⟩
theorem zdi.L {C : CSem} (hC : zdb C) (Q : AVal → za → Prop) (s : z0) (h : za) (hR : zdi.cps C N (s 0) h Q) : bwp P C zdi.I (Try.f67.body.getD .skip) (retB P zdi.I Try.f67.results.toList Q) s h :=
 e1 hR
theorem zdi.imp : zdi.Imp (AC P) N := fun v0 h Q hR => eF mixed (fn := Try.f67) (fun hC => zdi.L hC (dn Q) (zca [v0]) h hR)
def zd6.I : Bx := ⟨[1], [3, 7, 12, 13, 18, 19, 21, 22, 27, 28, 33, 38], 42, []⟩
theorem zd6.L {C : CSem} (hC : zdb C) (Q : AVal → za → Prop) (s : z0) (h : za) (hR : zd6.cps C N (s 0) h Q) : bwp P C zd6.I (Try.f68.body.getD .skip) (retB P zd6.I Try.f68.results.toList Q) s h :=
 e1 hR
theorem zd6.imp : zd6.Imp (AC P) N := fun v0 h Q hR => eF mixed (fn := Try.f68) (fun hC => zd6.L hC (dn Q) (zca [v0]) h hR)
def zd5.I : Bx := ⟨[1], [3, 7, 12, 17, 22], 26, []⟩
theorem zd5.L {C : CSem} (hC : zdb C) (Q : AVal → za → Prop) (s : z0) (h : za) (hR : zd5.cps C N (s 0) h Q) : bwp P C zd5.I (Try.f69.body.getD .skip) (retB P zd5.I Try.f69.results.toList Q) s h :=
 e1 hR
theorem zd5.imp : zd5.Imp (AC P) N := fun v0 h Q hR => eF mixed (fn := Try.f69) (fun hC => zd5.L hC (dn Q) (zca [v0]) h hR)
def zes.I : Bx := ⟨[2], [9, 15], 19, []⟩
theorem zes.L {C : CSem} (hC : zdb C) (Q : AVal → za → Prop) (s : z0) (h : za) (hR : zes.cps C N (s 0) (s 1) h Q) : bwp P C zes.I (Try.f70.body.getD .skip) (retB P zes.I Try.f70.results.toList Q) s h :=
 e1 hR
theorem zes.imp : zes.Imp (AC P) N := fun v0 v1 h Q hR => eF mixed (fn := Try.f70) (fun hC => zes.L hC (dn Q) (zca [v0, v1]) h hR)
def zb0.I : Bx := ⟨[], [], 63, []⟩
theorem zb0.L {C : CSem} (hC : zdb C) (Q : AVal → za → Prop) (s : z0) (h : za) (hR : zb0.cps C N (s 0) (s 1) (s 2) h Q) : bwp P C zb0.I (Try.f71.body.getD .skip) (retB P zb0.I Try.f71.results.toList Q) s h :=
 eS hC (fun s h => zm (zi.l7 C (opsF 6 56 [.int .i64 0, .str [], .int .i64 0, .int .i64 0, .int .i64 0, .bool false] 0 []) (N 167) (N 168) Q (s 0) (s 1) (s 2) (s 6)) [(.int .i64 0), (s 6)] h) (e1 hR) (fun s h hR => eS hC (fun s h => zm (zi.l7 C (opsF 6 56 [.int .i64 0, .str [], .int .i64 0, .int .i64 0, .int .i64 0, .bool false] 0 []) (N 167) (N 168) Q (s 0) (s 1) (s 2) (s 6)) [(s 7), (s 8)] h) (e1 hR) (fun s h hR => eS hC (fun s h => B.call C (N 168) [(s 0), (s 7), (s 1), (s 2)] h fun v27 h =>
  zm (zi.l5 C (opsF 6 56 [.int .i64 0, .str [], .int .i64 0, .int .i64 0, .int .i64 0, .bool false] 0 []) (N 167) (N 168) Q (s 0) (s 1) (s 2)) [(s 6)] h) (eK (eL hC [0, 1, 2, 6] [7, 8] (fun kv lv h Y3 => match kv with | [v0, v1, v2, v6] => zi.l7 C (opsF 6 56 [.int .i64 0, .str [], .int .i64 0, .int .i64 0, .int .i64 0, .bool false] 0 []) (N 167) (N 168) Q v0 v1 v2 v6 lv h Y3 | _ => False) hR (fun Y3 s h hR => e1 hR))) (fun s h hR => eS hC (fun s h => zm (zi.l5 C (opsF 6 56 [.int .i64 0, .str [], .int .i64 0, .int .i64 0, .int .i64 0, .bool false] 0 []) (N 167) (N 168) Q (s 0) (s 1) (s 2)) [(s 6)] h) (e1 hR) (fun s h hR => eK (eL hC [0, 1, 2] [6] (fun kv lv h Y1 => match kv with | [v0, v1, v2] => zi.l5 C (opsF 6 56 [.int .i64 0, .str [], .int .i64 0, .int .i64 0, .int .i64 0, .bool false] 0 []) (N 167) (N 168) Q v0 v1 v2 lv h Y1 | _ => False) hR (fun Y1 s h hR => eS hC (fun s h => B.pv (V.bin .mul (.int .i64 2) (s 6)) fun v32 =>
  zm (zi.l3 C (opsF 6 56 [.int .i64 0, .str [], .int .i64 0, .int .i64 0, .int .i64 0, .bool false] 0 []) (N 167) (N 168) Q Y1 (s 0) (s 1) (s 2) (s 6)) [(.int .i64 0), v32] h) (e1 hR) (fun s h hR => eK (eS hC (fun s h => zm (zi.l3 C (opsF 6 56 [.int .i64 0, .str [], .int .i64 0, .int .i64 0, .int .i64 0, .bool false] 0 []) (N 167) (N 168) Q Y1 (s 0) (s 1) (s 2) (s 6)) [(s 7), (s 8)] h) (e1 hR) (fun s h hR => eS hC (fun s h => zi.k1 C (opsF 6 56 [.int .i64 0, .str [], .int .i64 0, .int .i64 0, .int .i64 0, .bool false] 0 []) (N 167) (N 168) Q Y1 (s 0) (s 1) (s 2) (s 6) (s 7) h) (eK (eL hC [0, 1, 2, 6] [7, 8] (fun kv lv h Y2 => match kv with | [v0, v1, v2, v6] => zi.l3 C (opsF 6 56 [.int .i64 0, .str [], .int .i64 0, .int .i64 0, .int .i64 0, .bool false] 0 []) (N 167) (N 168) Q Y1 v0 v1 v2 v6 lv h Y2 | _ => False) hR (fun Y2 s h hR => e1 hR))) (fun s h hR => e1 hR))))))))))
theorem zb0.imp : zb0.Imp (AC P) N := fun v0 v1 v2 h Q hR => eF mixed (fn := Try.f71) (fun hC => zb0.L hC (dn Q) (zca [v0, v1, v2]) h hR)
def zdr.I : Bx := ⟨[], [], 18, []⟩
theorem zdr.L {C : CSem} (hC : zdb C) (Q : AVal → za → Prop) (s : z0) (h : za) (hR : zdr.cps C N (s 0) h Q) : bwp P C zdr.I (Try.f72.body.getD .skip) (retB P zdr.I Try.f72.results.toList Q) s h :=
 eS hC (fun s h => B.pv (V.zcj (s 0)) fun v7 =>
  zm (zdr.l2 C N Q (.int .i64 0) (s 0) v7) [(.int .i64 0)] h) (e1 hR) (fun s h hR => eS hC (fun s h => B.pv (V.zcj (s 0)) fun v7 =>
  zm (zdr.l2 C N Q (s 3) (s 0) v7) [(.int .i64 0)] h) (e1 hR) (fun s h hR => eS hC (fun s h => Q (s 3) h) (eS hC (fun s h => zm (zdr.l2 C N Q (s 3) (s 6) (s 7)) [(s 8)] h) (e1 hR) (fun s h hR => eK (eL hC [3, 6, 7] [8] (fun kv lv h Y1 => match kv with | [v3, v6, v7] => zdr.l2 C N Q v3 v6 v7 lv h Y1 | _ => False) hR (fun Y1 s h hR => e1 hR)))) (fun s h hR => e1 hR)))
theorem zdr.imp : zdr.Imp (AC P) N := fun v0 h Q hR => eF mixed (fn := Try.f72) (fun hC => zdr.L hC (dn Q) (zca [v0]) h hR)
def zcy.I : Bx := ⟨[], [], 20, []⟩
theorem zcy.L {C : CSem} (hC : zdb C) (Q : AVal → za → Prop) (s : z0) (h : za) (hR : zcy.cps C N (s 0) (s 1) h Q) : bwp P C zcy.I (Try.f73.body.getD .skip) (retB P zcy.I Try.f73.results.toList Q) s h :=
 e1 hR
theorem zcy.imp : zcy.Imp (AC P) N := fun v0 v1 h Q hR => eF mixed (fn := Try.f73) (fun hC => zcy.L hC (dn Q) (zca [v0, v1]) h hR)
def zcl.I : Bx := ⟨[], [], 63, []⟩
theorem zcl.L {C : CSem} (hC : zdb C) (Q : AVal → za → Prop) (s : z0) (h : za) (hR : zcl.cps C N (s 0) (s 1) (s 2) h Q) : bwp P C zcl.I (Try.f74.body.getD .skip) (retB P zcl.I Try.f74.results.toList Q) s h :=
 eS hC (fun s h => zm (zi.l7 C (opsS 8 (.int .i64 0) 0) (N 249) (N 250) Q (s 0) (s 1) (s 2) (s 6)) [(.int .i64 0), (s 6)] h) (e1 hR) (fun s h hR => eS hC (fun s h => zm (zi.l7 C (opsS 8 (.int .i64 0) 0) (N 249) (N 250) Q (s 0) (s 1) (s 2) (s 6)) [(s 7), (s 8)] h) (e1 hR) (fun s h hR => eS hC (fun s h => B.call C (N 250) [(s 0), (s 7), (s 1), (s 2)] h fun v27 h =>
  zm (zi.l5 C (opsS 8 (.int .i64 0) 0) (N 249) (N 250) Q (s 0) (s 1) (s 2)) [(s 6)] h) (eK (eL hC [0, 1, 2, 6] [7, 8] (fun kv lv h Y3 => match kv with | [v0, v1, v2, v6] => zi.l7 C (opsS 8 (.int .i64 0) 0) (N 249) (N 250) Q v0 v1 v2 v6 lv h Y3 | _ => False) hR (fun Y3 s h hR => e1 hR))) (fun s h hR => eS hC (fun s h => zm (zi.l5 C (opsS 8 (.int .i64 0) 0) (N 249) (N 250) Q (s 0) (s 1) (s 2)) [(s 6)] h) (e1 hR) (fun s h hR => eK (eL hC [0, 1, 2] [6] (fun kv lv h Y1 => match kv with | [v0, v1, v2] => zi.l5 C (opsS 8 (.int .i64 0) 0) (N 249) (N 250) Q v0 v1 v2 lv h Y1 | _ => False) hR (fun Y1 s h hR => eS hC (fun s h => B.pv (V.bin .mul (.int .i64 2) (s 6)) fun v32 =>
  zm (zi.l3 C (opsS 8 (.int .i64 0) 0) (N 249) (N 250) Q Y1 (s 0) (s 1) (s 2) (s 6)) [(.int .i64 0), v32] h) (e1 hR) (fun s h hR => eK (eS hC (fun s h => zm (zi.l3 C (opsS 8 (.int .i64 0) 0) (N 249) (N 250) Q Y1 (s 0) (s 1) (s 2) (s 6)) [(s 7), (s 8)] h) (e1 hR) (fun s h hR => eS hC (fun s h => zi.k1 C (opsS 8 (.int .i64 0) 0) (N 249) (N 250) Q Y1 (s 0) (s 1) (s 2) (s 6) (s 7) h) (eK (eL hC [0, 1, 2, 6] [7, 8] (fun kv lv h Y2 => match kv with | [v0, v1, v2, v6] => zi.l3 C (opsS 8 (.int .i64 0) 0) (N 249) (N 250) Q Y1 v0 v1 v2 v6 lv h Y2 | _ => False) hR (fun Y2 s h hR => e1 hR))) (fun s h hR => e1 hR))))))))))
theorem zcl.imp : zcl.Imp (AC P) N := fun v0 v1 v2 h Q hR => eF mixed (fn := Try.f74) (fun hC => zcl.L hC (dn Q) (zca [v0, v1, v2]) h hR)
def zbq.I : Bx := ⟨[], [], 49, [(4, [(0, []), (1, []), (2, []), (3, []), (4, []), (5, []), (6, []), (7, []), (8, []), (9, []), (10, []), (11, []), (12, []), (13, []), (14, [])]), (6, [(0, []), (1, []), (2, []), (3, []), (4, []), (5, []), (6, []), (7, []), (8, []), (9, []), (10, []), (11, []), (12, []), (13, []), (14, []), (15, []), (16, []), (17, [])])]⟩
theorem zbq.L {C : CSem} (hC : zdb C) (Q : AVal → za → Prop) (s : z0) (h : za) (hR : zbq.cps C N (s 0) (s 1) (s 2) h Q) : bwp P C zbq.I (Try.f75.body.getD .skip) (retB P zbq.I Try.f75.results.toList Q) s h :=
 eS hC (fun s h => zm (zbn.l3 C (opsS 8 (.int .i64 0) 0) (N 340) Q (s 0) (s 1) (s 2)) [(s 6)] h) (e1 hR) (fun s h hR => eK (eL hC [0, 1, 2] [6] (fun kv lv h Y1 => match kv with | [v0, v1, v2] => zbn.l3 C (opsS 8 (.int .i64 0) 0) (N 340) Q v0 v1 v2 lv h Y1 | _ => False) hR (fun Y1 s h hR => eS hC (fun s h => zm (zbn.l2 C (opsS 8 (.int .i64 0) 0) (N 340) Q Y1 (s 0) (s 1) (s 2) (s 6)) [(s 6)] h) (e1 hR) (fun s h hR => eS hC (fun s h => B.pv (V.bin .add (s 6) (.int .i64 1)) fun v14 =>
  Y1 [v14] h) (eK (eS hC (fun s h => zm (zbn.l2 C (opsS 8 (.int .i64 0) 0) (N 340) Q Y1 (s 0) (s 1) (s 2) (s 6)) [(s 7)] h) (e1 hR) (fun s h hR => eK (eL hC [0, 1, 2, 6] [7] (fun kv lv h Y2 => match kv with | [v0, v1, v2, v6] => zbn.l2 C (opsS 8 (.int .i64 0) 0) (N 340) Q Y1 v0 v1 v2 v6 lv h Y2 | _ => False) hR (fun Y2 s h hR => e1 hR))))) (fun s h hR => e1 hR)))))
theorem zbq.imp : zbq.Imp (AC P) N := fun v0 v1 v2 h Q hR => eF mixed (fn := Try.f75) (fun hC => zbq.L hC (dn Q) (zca [v0, v1, v2]) h hR)
def zcd.I : Bx := ⟨[], [], 56, [(10, [(0, []), (1, []), (2, []), (3, []), (4, []), (5, []), (6, []), (7, []), (8, []), (9, []), (10, []), (11, []), (12, []), (13, []), (14, []), (15, []), (16, []), (17, []), (18, []), (19, [])])]⟩
theorem zcd.L {C : CSem} (hC : zdb C) (Q : AVal → za → Prop) (s : z0) (h : za) (hR : zcd.cps C N (s 0) (s 1) (s 2) h Q) : bwp P C zcd.I (Try.f76.body.getD .skip) (retB P zcd.I Try.f76.results.toList Q) s h :=
 eS hC (fun s h => B.pv (V.bin .sub (s 2) (s 1)) fun v14 =>
  zbf.k5 C (opsS 8 (.int .i64 0) 0) (N 349) Q (s 0) (s 6) (.int .i64 0) v14 h) (e1 hR) (fun s h hR => eS hC (fun s h => B.pv (V.bin .sub (s 2) (s 1)) fun v14 =>
  zbf.k5 C (opsS 8 (.int .i64 0) 0) (N 349) Q (s 0) (s 6) (s 7) v14 h) (e1 hR) (fun s h hR => eS hC (fun s h => zbf.k5 C (opsS 8 (.int .i64 0) 0) (N 349) Q (s 0) (s 6) (s 7) (s 8) h) (e1 hR) (fun s h hR => eS hC (fun s h => B.pv (V.bin .sub (s 8) (.int .i64 1)) fun v28 =>
  zm (zbf.l2 C (opsS 8 (.int .i64 0) 0) (N 349) Q (s 0) (s 6) (s 7)) [v28] h) (eS hC (fun s h => zm (zbf.l4 C (opsS 8 (.int .i64 0) 0) (N 349) Q (s 0) (s 6) (s 7) (s 8)) [(s 9)] h) (e1 hR) (fun s h hR => eK (eL hC [0, 6, 7, 8] [9] (fun kv lv h Y2 => match kv with | [v0, v6, v7, v8] => zbf.l4 C (opsS 8 (.int .i64 0) 0) (N 349) Q v0 v6 v7 v8 lv h Y2 | _ => False) hR (fun Y2 s h hR => e1 hR)))) (fun s h hR => eS hC (fun s h => zm (zbf.l2 C (opsS 8 (.int .i64 0) 0) (N 349) Q (s 0) (s 6) (s 7)) [(s 10)] h) (e1 hR) (fun s h hR => eK (eL hC [0, 6, 7] [10] (fun kv lv h Y1 => match kv with | [v0, v6, v7] => zbf.l2 C (opsS 8 (.int .i64 0) 0) (N 349) Q v0 v6 v7 lv h Y1 | _ => False) hR (fun Y1 s h hR => e1 hR)))))))
theorem zcd.imp : zcd.Imp (AC P) N := fun v0 v1 v2 h Q hR => eF mixed (fn := Try.f76) (fun hC => zcd.L hC (dn Q) (zca [v0, v1, v2]) h hR)
def zbs.I : Bx := ⟨[], [], 65, [(10, [(0, []), (1, []), (2, []), (3, []), (4, []), (5, []), (6, []), (7, []), (8, []), (9, []), (10, []), (11, []), (12, []), (13, []), (14, []), (15, []), (16, []), (17, []), (18, []), (19, [])])]⟩
theorem zbs.L {C : CSem} (hC : zdb C) (Q : AVal → za → Prop) (s : z0) (h : za) (hR : zbs.cps C N (s 0) (s 1) (s 2) h Q) : bwp P C zbs.I (Try.f77.body.getD .skip) (retB P zbs.I Try.f77.results.toList Q) s h :=
 eS hC (fun s h => B.pv (V.bin .geq (s 6) (.int .i64 8)) fun v15 =>
  B.cond v15 (zj.k7 C (opsS 8 (.int .i64 0) 0) (N 298) (N 299) Q (s 0) (s 1) (s 6) h) (Q (.tup []) h)) (e1 hR) (fun s h hR => eS hC (fun s h => B.cond (s 15) (zj.k7 C (opsS 8 (.int .i64 0) 0) (N 298) (N 299) Q (s 0) (s 1) (s 6) h) (Q (.tup []) h)) (e1 hR) (fun s h hR => eC 15 hR (fun hR => eS hC (fun s h => B.call C (N 299) [(s 6)] h fun v19 h =>
  zj.k6 C (opsS 8 (.int .i64 0) 0) (N 298) (N 299) Q (s 0) (s 1) (s 6) (s 7) v19 h) (e1 hR) (fun s h hR => eS hC (fun s h => zj.k6 C (opsS 8 (.int .i64 0) 0) (N 298) (N 299) Q (s 0) (s 1) (s 6) (s 7) (s 8) h) (e1 hR) (fun s h hR => eS hC (fun s h => zm (zj.l5 C (opsS 8 (.int .i64 0) 0) (N 298) (N 299) Q (s 0) (s 1) (s 6) (s 7) (s 8)) [(s 9)] h) (e1 hR) (fun s h hR => eK (eL hC [0, 1, 6, 7, 8] [9] (fun kv lv h Y1 => match kv with | [v0, v1, v6, v7, v8] => zj.l5 C (opsS 8 (.int .i64 0) 0) (N 298) (N 299) Q v0 v1 v6 v7 v8 lv h Y1 | _ => False) hR (fun Y1 s h hR => eS hC (fun s h => zj.k3 C (opsS 8 (.int .i64 0) 0) (N 298) (N 299) Q Y1 (s 0) (s 1) (s 6) (s 7) (s 8) (s 9) h) (e1 hR) (fun s h hR => eS hC (fun s h => B.pv (V.bin .add (s 9) (.int .i64 1)) fun v35 =>
  Y1 [v35] h) (eK (eS hC (fun s h => zj.k2 C (opsS 8 (.int .i64 0) 0) (N 298) (N 299) Q Y1 (s 0) (s 1) (s 6) (s 7) (s 8) (s 9) (s 10) h) (e1 hR) (fun s h hR => eS hC (fun s h => zj.k1 C (opsS 8 (.int .i64 0) 0) (N 298) (N 299) Q Y1 (s 0) (s 1) (s 6) (s 7) (s 8) (s 9) (s 10) h) (e1 hR) (fun s h hR => e1 hR)))) (fun s h hR => e1 hR)))))))) (fun hR => e1 hR)))
theorem zbs.imp : zbs.Imp (AC P) N := fun v0 v1 v2 h Q hR => eF mixed (fn := Try.f77) (fun hC => zbs.L hC (dn Q) (zca [v0, v1, v2]) h hR)
def zby.I : Bx := ⟨[], [], 57, []⟩
theorem zby.L {C : CSem} (hC : zdb C) (Q : AVal → za → Prop) (s : z0) (h : za) (hR : zby.cps C N (s 0) (s 1) (s 2) h Q) : bwp P C zby.I (Try.f78.body.getD .skip) (retB P zby.I Try.f78.results.toList Q) s h :=
 eS hC (fun s h => B.pv (V.bin .sub (s 2) (s 1)) fun v15 =>
  B.newO h (some [.int .i64 0]) fun i9 h =>
  z3.k5 C (opsS 8 (.int .i64 0) 0) (N 350) (N 351) Q (s 0) (s 1) v15 (.ptr i9 0 0) h) (e1 hR) (fun s h hR => eS hC (fun s h => B.newO h (some [.int .i64 0]) fun i9 h =>
  z3.k5 C (opsS 8 (.int .i64 0) 0) (N 350) (N 351) Q (s 0) (s 1) (s 8) (.ptr i9 0 0) h) (e1 hR) (fun s h hR => eS hC (fun s h => z3.k5 C (opsS 8 (.int .i64 0) 0) (N 350) (N 351) Q (s 0) (s 1) (s 8) (s 9) h) (e1 hR) (fun s h hR => eS hC (fun s h => z3.k4 C (opsS 8 (.int .i64 0) 0) (N 350) (N 351) Q (s 0) (s 1) (s 8) (s 9) (s 10) h) (e1 hR) (fun s h hR => eS hC (fun s h => z3.k3 C (opsS 8 (.int .i64 0) 0) (N 350) (N 351) Q (s 0) (s 1) (s 8) (s 9) (s 10) (s 11) h) (e1 hR) (fun s h hR => eS hC (fun s h => z3.k2 C (opsS 8 (.int .i64 0) 0) (N 350) (N 351) Q (s 0) (s 8) (s 9) (s 10) (s 11) (s 12) h) (e1 hR) (fun s h hR => eS hC (fun s h => z3.k1 C (opsS 8 (.int .i64 0) 0) (N 350) (N 351) Q (s 9) (s 11) h) (e1 hR) (fun s h hR => e1 hR)))))))
theorem zby.imp : zby.Imp (AC P) N := fun v0 v1 v2 h Q hR => eF mixed (fn := Try.f78) (fun hC => zby.L hC (dn Q) (zca [v0, v1, v2]) h hR)
def zbw.I : Bx := ⟨[], [], 32, [(3, [(0, []), (1, []), (2, []), (3, []), (4, []), (5, []), (6, []), (7, []), (8, []), (9, []), (10, []), (11, []), (12, []), (13, []), (14, []), (15, [])])]⟩
theorem zbw.L {C : CSem} (hC : zdb C) (Q : AVal → za → Prop) (s : z0) (h : za) (hR : zbw.cps C N (s 0) (s 1) (s 2) h Q) : bwp P C zbw.I (Try.f79.body.getD .skip) (retB P zbw.I Try.f79.results.toList Q) s h :=
 eS hC (fun s h => B.pv (V.bin .sub (s 2) (.int .i64 1)) fun v10 =>
  zm (zcq.l2 C (opsS 8 (.int .i64 0) 0) Q (s 0)) [(s 6), v10] h) (e1 hR) (fun s h hR => eS hC (fun s h => zm (zcq.l2 C (opsS 8 (.int .i64 0) 0) Q (s 0)) [(s 6), (s 7)] h) (e1 hR) (fun s h hR => eK (eL hC [0] [6, 7] (fun kv lv h Y1 => match kv with | [v0] => zcq.l2 C (opsS 8 (.int .i64 0) 0) Q v0 lv h Y1 | _ => False) hR (fun Y1 s h hR => e1 hR))))
theorem zbw.imp : zbw.Imp (AC P) N := fun v0 v1 v2 h Q hR => eF mixed (fn := Try.f79) (fun hC => zbw.L hC (dn Q) (zca [v0, v1, v2]) h hR)
def zbc.I : Bx := ⟨[], [], 133, [(5, [(0, []), (1, []), (2, []), (3, []), (4, []), (5, []), (6, []), (7, []), (8, []), (9, []), (10, []), (11, []), (12, []), (13, []), (14, []), (15, [])]), (11, [(0, []), (1, []), (2, []), (3, []), (4, []), (5, []), (6, []), (7, []), (8, []), (9, []), (10, []), (11, []), (12, []), (13, []), (14, []), (15, []), (16, []), (17, [])]), (16, [(0, []), (1, []), (2, []), (3, []), (4, []), (5, []), (6, []), (7, []), (8, []), (9, []), (10, [])]), (17, [(0, []), (1, []), (2, []), (3, []), (4, []), (5, []), (6, []), (7, []), (8, []), (9, []), (10, []), (11, []), (12, []), (13, []), (14, []), (15, []), (16, []), (17, [])]), (22, [(0, []), (1, []), (2, []), (3, []), (4, []), (5, []), (6, []), (7, []), (8, []), (9, []), (10, [])]), (23, [(0, []), (1, []), (2, []), (3, []), (4, []), (5, []), (6, []), (7, []), (8, []), (9, []), (10, []), (11, []), (12, []), (13, []), (14, []), (15, []), (16, []), (17, [])])]⟩
theorem zbc.L {C : CSem} (hC : zdb C) (Q : AVal → za → Prop) (s : z0) (h : za) (hR : zbc.cps C N (s 0) (s 1) (s 2) h Q) : bwp P C zbc.I (Try.f80.body.getD .skip) (retB P zbc.I Try.f80.results.toList Q) s h :=
 eS hC (fun s h => B.pv (V.bin .add (s 1) (.int .i64 1)) fun v12 =>
  zm (zd.l12 C (opsS 8 (.int .i64 0) 0) (N 340) Q (s 0) (s 1) (s 2)) [v12, (.int .i64 0)] h) (e1 hR) (fun s h hR => eS hC (fun s h => zm (zd.l12 C (opsS 8 (.int .i64 0) 0) (N 340) Q (s 0) (s 1) (s 2)) [(s 7), (.int .i64 0)] h) (e1 hR) (fun s h hR => eS hC (fun s h => Q (.bool false) h) (eS hC (fun s h => zm (zd.l12 C (opsS 8 (.int .i64 0) 0) (N 340) Q (s 0) (s 1) (s 2)) [(s 7), (s 8)] h) (e1 hR) (fun s h hR => eK (eL hC [0, 1, 2] [7, 8] (fun kv lv h Y1 => match kv with | [v0, v1, v2] => zd.l12 C (opsS 8 (.int .i64 0) 0) (N 340) Q v0 v1 v2 lv h Y1 | _ => False) hR (fun Y1 s h hR => eS hC (fun s h => zm (zd.l10 C (opsS 8 (.int .i64 0) 0) (N 340) Q Y1 (s 0) (s 1) (s 2) (s 8)) [(s 7)] h) (e1 hR) (fun s h hR => eS hC (fun s h => B.pv (V.bin .add (s 8) (.int .i64 1)) fun v16 =>
  Y1 [(s 7), v16] h) (eK (eS hC (fun s h => B.pv (V.bin .eql (s 7) (s 2)) fun v37 =>
  B.cond v37
  (Q (.bool true) h)
  (zd.k8 C (opsS 8 (.int .i64 0) 0) (N 340) Q Y1 (s 0) (s 1) (s 2) (s 7) (s 8) h)) (eK (eL hC [0, 1, 2, 8] [7] (fun kv lv h Y4 => match kv with | [v0, v1, v2, v8] => zd.l10 C (opsS 8 (.int .i64 0) 0) (N 340) Q Y1 v0 v1 v2 v8 lv h Y4 | _ => False) hR (fun Y4 s h hR => e1 hR))) (fun s h hR => eS hC (fun s h => zd.k8 C (opsS 8 (.int .i64 0) 0) (N 340) Q Y1 (s 0) (s 1) (s 2) (s 7) (s 8) h) (e1 hR) (fun s h hR => eS hC (fun s h => zd.k7 C (opsS 8 (.int .i64 0) 0) (N 340) Q Y1 (s 0) (s 1) (s 2) (s 7) (s 8) h) (e1 hR) (fun s h hR => eS hC (fun s h => zd.k6 C (opsS 8 (.int .i64 0) 0) (N 340) Q Y1 (s 0) (s 1) (s 2) (s 7) (s 8) h) (e1 hR) (fun s h hR => eS hC (fun s h => zd.k3 C (opsS 8 (.int .i64 0) 0) (N 340) Q Y1 (s 0) (s 1) (s 2) (s 7) (s 8) h) (eS hC (fun s h => B.cond (s 61) (B.pv (V.bin .sub (s 7) (.int .i64 1)) fun v63 =>
  zm (zd.l5 C (opsS 8 (.int .i64 0) 0) (N 340) Q Y1 (s 0) (s 1) (s 2) (s 7) (s 8)) [v63] h) (zd.k3 C (opsS 8 (.int .i64 0) 0) (N 340) Q Y1 (s 0) (s 1) (s 2) (s 7) (s 8) h)) (e1 hR) (fun s h hR => eC 61 hR (fun hR => eS hC (fun s h => zm (zd.l5 C (opsS 8 (.int .i64 0) 0) (N 340) Q Y1 (s 0) (s 1) (s 2) (s 7) (s 8)) [(s 9)] h) (e1 hR) (fun s h hR => eK (eL hC [0, 1, 2, 7, 8] [9] (fun kv lv h Y3 => match kv with | [v0, v1, v2, v7, v8] => zd.l5 C (opsS 8 (.int .i64 0) 0) (N 340) Q Y1 v0 v1 v2 v7 v8 lv h Y3 | _ => False) hR (fun Y3 s h hR => e1 hR)))) (fun hR => e1 hR))) (fun s h hR => eS hC (fun s h => B.cond (s 98) (B.pv (V.bin .add (s 7) (.int .i64 1)) fun v100 =>
  zm (zd.l2 C (opsS 8 (.int .i64 0) 0) (N 340) Q Y1 (s 0) (s 1) (s 2) (s 7) (s 8)) [v100] h) (B.pv (V.bin .add (s 8) (.int .i64 1)) fun v16 =>
  Y1 [(s 7), v16] h)) (e1 hR) (fun s h hR => eC 98 hR (fun hR => eS hC (fun s h => zm (zd.l2 C (opsS 8 (.int .i64 0) 0) (N 340) Q Y1 (s 0) (s 1) (s 2) (s 7) (s 8)) [(s 10)] h) (e1 hR) (fun s h hR => eK (eL hC [0, 1, 2, 7, 8] [10] (fun kv lv h Y2 => match kv with | [v0, v1, v2, v7, v8] => zd.l2 C (opsS 8 (.int .i64 0) 0) (N 340) Q Y1 v0 v1 v2 v7 v8 lv h Y2 | _ => False) hR (fun Y2 s h hR => e1 hR)))) (fun hR => e1 hR))))))))) (fun s h hR => e1 hR)))))) (fun s h hR => e1 hR)))
theorem zbc.imp : zbc.Imp (AC P) N := fun v0 v1 v2 h Q hR => eF mixed (fn := Try.f80) (fun hC => zbc.L hC (dn Q) (zca [v0, v1, v2]) h hR)
def zds.I : Bx := ⟨[], [], 17, []⟩
theorem zds.L {C : CSem} (hC : zdb C) (Q : AVal → za → Prop) (s : z0) (h : za) (hR : zds.cps C N (s 0) (s 1) h Q) : bwp P C zds.I (Try.f81.body.getD .skip) (retB P zds.I Try.f81.results.toList Q) s h :=
 e1 hR
theorem zds.imp : zds.Imp (AC P) N := fun v0 v1 h Q hR => eF mixed (fn := Try.f81) (fun hC => zds.L hC (dn Q) (zca [v0, v1]) h hR)
def zbl.I : Bx := ⟨[], [], 84, [(1, [(0, []), (1, []), (2, []), (3, []), (4, []), (5, []), (6, []), (7, []), (8, []), (9, []), (10, []), (11, []), (12, []), (13, []), (14, []), (15, [])]), (3, [(0, []), (1, []), (2, []), (3, []), (4, []), (5, []), (6, []), (7, []), (8, []), (9, []), (10, []), (11, []), (12, []), (13, []), (14, [])]), (5, [(0, []), (1, []), (2, []), (3, []), (4, []), (5, []), (6, []), (7, []), (8, []), (9, []), (10, []), (11, []), (12, []), (13, [])]), (8, [(0, []), (1, []), (2, []), (3, []), (4, []), (5, []), (6, []), (7, []), (8, []), (9, []), (10, []), (11, []), (12, []), (13, []), (14, []), (15, [])])]⟩
theorem zbl.L {C : CSem} (hC : zdb C) (Q : AVal → za → Prop) (s : z0) (h : za) (hR : zbl.cps C N (s 0) (s 1) (s 2) (s 3) h Q) : bwp P C zbl.I (Try.f82.body.getD .skip) (retB P zbl.I Try.f82.results.toList Q) s h :=
 eS hC (fun s h => zl.k8 C (opsS 8 (.int .i64 0) 0) (N 340) Q (s 0) (s 1) (s 2) (s 3) h) (e1 hR) (fun s h hR => eS hC (fun s h => zl.k7 C (opsS 8 (.int .i64 0) 0) (N 340) Q (s 0) (s 1) (s 2) h) (e1 hR) (fun s h hR => eS hC (fun s h => zm (zl.l6 C (opsS 8 (.int .i64 0) 0) (N 340) Q (s 0) (s 1)) [(s 9), (s 10)] h) (e1 hR) (fun s h hR => eS hC (fun s h => Q (s 9) h) (eK (eL hC [0, 1] [9, 10] (fun kv lv h Y1 => match kv with | [v0, v1] => zl.l6 C (opsS 8 (.int .i64 0) 0) (N 340) Q v0 v1 lv h Y1 | _ => False) hR (fun Y1 s h hR => eK (eS hC (fun s h => zm (zl.l3 C (opsS 8 (.int .i64 0) 0) (N 340) Q Y1 (s 0) (s 1) (s 9)) [(s 10)] h) (eK (eL hC [0, 1, 10] [9] (fun kv lv h Y3 => match kv with | [v0, v1, v10] => zl.l5 C (opsS 8 (.int .i64 0) 0) (N 340) Q Y1 v0 v1 v10 lv h Y3 | _ => False) hR (fun Y3 s h hR => e1 hR))) (fun s h hR => eS hC (fun s h => zl.k1 C (opsS 8 (.int .i64 0) 0) (N 340) Q Y1 (s 0) (s 1) (s 9) (s 10) h) (eK (eL hC [0, 1, 9] [10] (fun kv lv h Y2 => match kv with | [v0, v1, v9] => zl.l3 C (opsS 8 (.int .i64 0) 0) (N 340) Q Y1 v0 v1 v9 lv h Y2 | _ => False) hR (fun Y2 s h hR => e1 hR))) (fun s h hR => e1 hR)))))) (fun s h hR => e1 hR))))
theorem zbl.imp : zbl.Imp (AC P) N := fun v0 v1 v2 v3 h Q hR => eF mixed (fn := Try.f82) (fun hC => zbl.L hC (dn Q) (zca [v0, v1, v2, v3]) h hR)
def zb8.I : Bx := ⟨[], [], 168, [(1, [(0, []), (1, []), (2, []), (3, []), (4, []), (5, []), (6, []), (7, []), (8, []), (9, []), (10, []), (11, []), (12, []), (13, []), (14, []), (15, [])]), (3, [(0, []), (1, []), (2, []), (3, []), (4, []), (5, []), (6, []), (7, []), (8, []), (9, []), (10, []), (11, []), (12, []), (13, [])]), (5, [(0, []), (1, []), (2, []), (3, []), (4, []), (5, []), (6, []), (7, []), (8, []), (9, []), (10, []), (11, []), (12, []), (13, []), (14, [])]), (8, [(0, []), (1, []), (2, []), (3, []), (4, []), (5, []), (6, []), (7, []), (8, []), (9, []), (10, []), (11, []), (12, []), (13, []), (14, []), (15, [])]), (10, [(0, []), (1, []), (2, []), (3, []), (4, []), (5, []), (6, []), (7, []), (8, []), (9, []), (10, []), (11, []), (12, []), (13, []), (14, []), (15, [])]), (13, [(0, []), (1, []), (2, []), (3, []), (4, []), (5, []), (6, []), (7, []), (8, []), (9, []), (10, []), (11, []), (12, []), (13, [])]), (15, [(0, []), (1, []), (2, []), (3, []), (4, []), (5, []), (6, []), (7, []), (8, []), (9, []), (10, []), (11, []), (12, []), (13, []), (14, [])]), (18, [(0, []), (1, []), (2, []), (3, []), (4, []), (5, []), (6, []), (7, []), (8, []), (9, []), (10, []), (11, []), (12, []), (13, []), (14, []), (15, [])]), (21, [(0, []), (1, []), (2, []), (3, []), (4, []), (5, []), (6, []), (7, []), (8, []), (9, []), (10, []), (11, []), (12, []), (13, []), (14, []), (15, [])])]⟩
theorem zb8.L {C : CSem} (hC : zdb C) (Q : AVal → za → Prop) (s : z0) (h : za) (hR : zb8.cps C N (s 0) (s 1) (s 2) (s 3) h Q) : bwp P C zb8.I (Try.f83.body.getD .skip) (retB P zb8.I Try.f83.results.toList Q) s h :=
 eS hC (fun s h => zg.k16 C (opsS 8 (.int .i64 0) 0) (N 340) Q (s 0) (s 1) (s 2) (s 3) h) (e1 hR) (fun s h hR => eS hC (fun s h => zg.k15 C (opsS 8 (.int .i64 0) 0) (N 340) Q (s 0) (s 1) (s 2) h) (e1 hR) (fun s h hR => eS hC (fun s h => zm (zg.l14 C (opsS 8 (.int .i64 0) 0) (N 340) Q (s 0) (s 1) (s 11)) [(s 10)] h) (e1 hR) (fun s h hR => eS hC (fun s h => zm (zg.l12 C (opsS 8 (.int .i64 0) 0) (N 340) Q (s 0) (s 1) (s 10)) [(s 11)] h) (eK (eL hC [0, 1, 11] [10] (fun kv lv h Y5 => match kv with | [v0, v1, v11] => zg.l14 C (opsS 8 (.int .i64 0) 0) (N 340) Q v0 v1 v11 lv h Y5 | _ => False) hR (fun Y5 s h hR => e1 hR))) (fun s h hR => eS hC (fun s h => zg.k10 C (opsS 8 (.int .i64 0) 0) (N 340) Q (s 0) (s 1) (s 10) (s 11) h) (eK (eL hC [0, 1, 10] [11] (fun kv lv h Y4 => match kv with | [v0, v1, v10] => zg.l12 C (opsS 8 (.int .i64 0) 0) (N 340) Q v0 v1 v10 lv h Y4 | _ => False) hR (fun Y4 s h hR => e1 hR))) (fun s h hR => eS hC (fun s h => zg.k9 C (opsS 8 (.int .i64 0) 0) (N 340) Q (s 0) (s 1) (s 10) (s 11) h) (e1 hR) (fun s h hR => eS hC (fun s h => zg.k8 C (opsS 8 (.int .i64 0) 0) (N 340) Q (s 0) (s 1) (s 10) (s 11) h) (e1 hR) (fun s h hR => eS hC (fun s h => B.pv (V.bin .sub (s 11) (.int .i64 1)) fun v98 =>
  zm (zg.l7 C (opsS 8 (.int .i64 0) 0) (N 340) Q (s 0) (s 1)) [(s 10), v98] h) (e1 hR) (fun s h hR => eS hC (fun s h => zm (zg.l7 C (opsS 8 (.int .i64 0) 0) (N 340) Q (s 0) (s 1)) [(s 10), (s 11)] h) (e1 hR) (fun s h hR => eS hC (fun s h => zg.k1 C (opsS 8 (.int .i64 0) 0) (N 340) Q (s 0) (s 1) (s 11) h) (eK (eL hC [0, 1] [10, 11] (fun kv lv h Y1 => match kv with | [v0, v1] => zg.l7 C (opsS 8 (.int .i64 0) 0) (N 340) Q v0 v1 lv h Y1 | _ => False) hR (fun Y1 s h hR => eK (eS hC (fun s h => zm (zg.l4 C (opsS 8 (.int .i64 0) 0) (N 340) Q Y1 (s 0) (s 1) (s 10)) [(s 11)] h) (eK (eL hC [0, 1, 11] [10] (fun kv lv h Y3 => match kv with | [v0, v1, v11] => zg.l6 C (opsS 8 (.int .i64 0) 0) (N 340) Q Y1 v0 v1 v11 lv h Y3 | _ => False) hR (fun Y3 s h hR => e1 hR))) (fun s h hR => eS hC (fun s h => zg.k2 C (opsS 8 (.int .i64 0) 0) (N 340) Q Y1 (s 0) (s 1) (s 10) (s 11) h) (eK (eL hC [0, 1, 10] [11] (fun kv lv h Y2 => match kv with | [v0, v1, v10] => zg.l4 C (opsS 8 (.int .i64 0) 0) (N 340) Q Y1 v0 v1 v10 lv h Y2 | _ => False) hR (fun Y2 s h hR => e1 hR))) (fun s h hR => e1 hR)))))) (fun s h hR => e1 hR))))))))))
theorem zb8.imp : zb8.Imp (AC P) N := fun v0 v1 v2 v3 h Q hR => eF mixed (fn := Try.f83) (fun hC => zb8.L hC (dn Q) (zca [v0, v1, v2, v3]) h hR)
def zbe.I : Bx := ⟨[], [], 25, []⟩
theorem zbe.L {C : CSem} (hC : zdb C) (Q : AVal → za → Prop) (s : z0) (h : za) (hR : zbe.cps C N (s 0) h Q) : bwp P C zbe.I (Try.f85.body.getD .skip) (retB P zbe.I Try.f85.results.toList Q) s h :=
 eS hC (fun s h => zbe.k4 C N Q (s 0) (s 2) h) (e1 hR) (fun s h hR => eS hC (fun s h => zbe.k3 C N Q (s 0) (s 2) h) (e1 hR) (fun s h hR => eS hC (fun s h => zbe.k2 C N Q (s 0) (s 2) h) (e1 hR) (fun s h hR => eS hC (fun s h => zbe.k1 C N Q (s 0) (s 2) h) (e1 hR) (fun s h hR => e1 hR))))
theorem zbe.imp : zbe.Imp (AC P) N := fun v0 h Q hR => eF mixed (fn := Try.f85) (fun hC => zbe.L hC (dn Q) (zca [v0]) h hR)
def zc1.I : Bx := ⟨[], [], 56, []⟩
theorem zc1.L {C : CSem} (hC : zdb C) (Q : AVal → za → Prop) (s : z0) (h : za) (hR : zc1.cps C N (s 0) h Q) : bwp P C zc1.I (Try.f86.body.getD .skip) (retB P zc1.I Try.f86.results.toList Q) s h :=
 eS hC (fun s h => zc1.k3 C N Q (s 0) h) (e1 hR) (fun s h hR => eS hC (fun s h => zm (zc1.l2 C N Q (s 0)) [(.int .i64 0)] h) (e1 hR) (fun s h hR => eS hC (fun s h => Q (.bool true) h) (eS hC (fun s h => zm (zc1.l2 C N Q (s 0)) [(s 3)] h) (e1 hR) (fun s h hR => eK (eL hC [0] [3] (fun kv lv h Y1 => match kv with | [v0] => zc1.l2 C N Q v0 lv h Y1 | _ => False) hR (fun Y1 s h hR => e1 hR)))) (fun s h hR => e1 hR)))
theorem zc1.imp : zc1.Imp (AC P) N := fun v0 h Q hR => eF mixed (fn := Try.f86) (fun hC => zc1.L hC (dn Q) (zca [v0]) h hR)
def zd7.I : Bx := ⟨[1], [3, 7, 9, 14], 18, []⟩
theorem zd7.L {C : CSem} (hC : zdb C) (Q : AVal → za → Prop) (s : z0) (h : za) (hR : zd7.cps C N (s 0) h Q) : bwp P C zd7.I (Try.f87.body.getD .skip) (retB P zd7.I Try.f87.results.toList Q) s h :=
 e1 hR
theorem zd7.imp : zd7.Imp (AC P) N := fun v0 h Q hR => eF mixed (fn := Try.f87) (fun hC => zd7.L hC (dn Q) (zca [v0]) h hR)
def zbg.I : Bx := ⟨[], [], 53, [(4, [(0, []), (1, []), (2, []), (3, []), (4, []), (5, []), (6, []), (7, []), (8, []), (9, []), (10, []), (11, []), (12, []), (13, []), (14, []), (15, []), (16, [])]), (6, [(0, []), (1, []), (2, []), (3, []), (4, []), (5, []), (6, []), (7, []), (8, []), (9, []), (10, []), (11, []), (12, []), (13, []), (14, []), (15, []), (16, []), (17, [])])]⟩
theorem zbg.L {C : CSem} (hC : zdb C) (Q : AVal → za → Prop) (s : z0) (h : za) (hR : zbg.cps C N (s 0) (s 1) (s 2) (s 3) h Q) : bwp P C zbg.I (Try.f88.body.getD .skip) (retB P zbg.I Try.f88.results.toList Q) s h :=
 eS hC (fun s h => zm (zn.l3 C (opsF 6 56 [.int .i64 0, .str [], .int .i64 0, .int .i64 0, .int .i64 0, .bool false] 0 []) Q (s 0) (s 1) (s 2) (s 3)) [(s 8)] h) (e1 hR) (fun s h hR => eK (eL hC [0, 1, 2, 3] [8] (fun kv lv h Y1 => match kv with | [v0, v1, v2, v3] => zn.l3 C (opsF 6 56 [.int .i64 0, .str [], .int .i64 0, .int .i64 0, .int .i64 0, .bool false] 0 []) Q v0 v1 v2 v3 lv h Y1 | _ => False) hR (fun Y1 s h hR => eS hC (fun s h => zm (zn.l2 C (opsF 6 56 [.int .i64 0, .str [], .int .i64 0, .int .i64 0, .int .i64 0, .bool false] 0 []) Q Y1 (s 0) (s 1) (s 2) (s 3) (s 8)) [(s 8)] h) (e1 hR) (fun s h hR => eS hC (fun s h => B.pv (V.bin .add (s 8) (.int .i64 1)) fun v16 =>
  Y1 [v16] h) (eK (eS hC (fun s h => zm (zn.l2 C (opsF 6 56 [.int .i64 0, .str [], .int .i64 0, .int .i64 0, .int .i64 0, .bool false] 0 []) Q Y1 (s 0) (s 1) (s 2) (s 3) (s 8)) [(s 9)] h) (e1 hR) (fun s h hR => eK (eL hC [0, 1, 2, 3, 8] [9] (fun kv lv h Y2 => match kv with | [v0, v1, v2, v3, v8] => zn.l2 C (opsF 6 56 [.int .i64 0, .str [], .int .i64 0, .int .i64 0, .int .i64 0, .bool false] 0 []) Q Y1 v0 v1 v2 v3 v8 lv h Y2 | _ => False) hR (fun Y2 s h hR => e1 hR))))) (fun s h hR => e1 hR)))))
theorem zbg.imp : zbg.Imp (AC P) N := fun v0 v1 v2 v3 h Q hR => eF mixed (fn := Try.f88) (fun hC => zbg.L hC (dn Q) (zca [v0, v1, v2, v3]) h hR)
def zbv.I : Bx := ⟨[], [], 220, [(5, [(0, []), (1, []), (2, []), (3, []), (4, []), (5, []), (6, []), (7, []), (8, []), (9, []), (10, [])]), (11, [(0, []), (1, []), (2, []), (3, []), (4, []), (5, []), (6, []), (7, []), (8, []), (9, []), (10, []), (11, []), (12, []), (13, []), (14, []), (15, []), (16, []), (17, [])]), (17, [(0, []), (1, []), (2, []), (3, []), (4, []), (5, []), (6, []), (7, []), (8, []), (9, []), (10, []), (11, [])]), (23, [(0, []), (1, []), (2, []), (3, []), (4, []), (5, []), (6, []), (7, []), (8, []), (9, []), (10, []), (11, []), (12, []), (13, []), (14, []), (15, []), (16, []), (17, [])]), (35, [(0, []), (1, []), (2, []), (3, []), (4, []), (5, []), (6, []), (7, []), (8, []), (9, []), (10, []), (11, []), (12, []), (13, [])])]⟩
theorem zbv.L {C : CSem} (hC : zdb C) (Q : AVal → za → Prop) (s : z0) (h : za) (hR : zbv.cps C N (s 0) (s 1) (s 2) (s 3) (s 4) h Q) : bwp P C zbv.I (Try.f89.body.getD .skip) (retB P zbv.I Try.f89.results.toList Q) s h :=
 eS hC (fun s h => zb.k12 C (opsF 6 56 [.int .i64 0, .str [], .int .i64 0, .int .i64 0, .int .i64 0, .bool false] 0 []) (N 167) (N 169) Q (s 0) (s 1) (s 2) (s 3) (s 4) h) (eS hC (fun s h => B.cond (s 28) (zm (zb.l16 C (opsF 6 56 [.int .i64 0, .str [], .int .i64 0, .int .i64 0, .int .i64 0, .bool false] 0 []) (N 167) (N 169) Q (s 0) (s 1) (s 4)) [(s 2), (s 3)] h) (zb.k12 C (opsF 6 56 [.int .i64 0, .str [], .int .i64 0, .int .i64 0, .int .i64 0, .bool false] 0 []) (N 167) (N 169) Q (s 0) (s 1) (s 2) (s 3) (s 4) h)) (e1 hR) (fun s h hR => eC 28 hR (fun hR => eS hC (fun s h => zm (zb.l16 C (opsF 6 56 [.int .i64 0, .str [], .int .i64 0, .int .i64 0, .int .i64 0, .bool false] 0 []) (N 167) (N 169) Q (s 0) (s 1) (s 4)) [(s 10), (s 3)] h) (e1 hR) (fun s h hR => eS hC (fun s h => zm (zb.l16 C (opsF 6 56 [.int .i64 0, .str [], .int .i64 0, .int .i64 0, .int .i64 0, .bool false] 0 []) (N 167) (N 169) Q (s 0) (s 1) (s 4)) [(s 10), (s 11)] h) (e1 hR) (fun s h hR => eS hC (fun s h => zm (zb.l14 C (opsF 6 56 [.int .i64 0, .str [], .int .i64 0, .int .i64 0, .int .i64 0, .bool false] 0 []) (N 167) (N 169) Q (s 0) (s 10)) [(s 1)] h) (eK (eL hC [0, 1, 4] [10, 11] (fun kv lv h Y5 => match kv with | [v0, v1, v4] => zb.l16 C (opsF 6 56 [.int .i64 0, .str [], .int .i64 0, .int .i64 0, .int .i64 0, .bool false] 0 []) (N 167) (N 169) Q v0 v1 v4 lv h Y5 | _ => False) hR (fun Y5 s h hR => e1 hR))) (fun s h hR => eS hC (fun s h => Q (.tup []) h) (eS hC (fun s h => zm (zb.l14 C (opsF 6 56 [.int .i64 0, .str [], .int .i64 0, .int .i64 0, .int .i64 0, .bool false] 0 []) (N 167) (N 169) Q (s 0) (s 10)) [(s 13)] h) (e1 hR) (fun s h hR => eK (eL hC [0, 10] [13] (fun kv lv h Y4 => match kv with | [v0, v10] => zb.l14 C (opsF 6 56 [.int .i64 0, .str [], .int .i64 0, .int .i64 0, .int .i64 0, .bool false] 0 []) (N 167) (N 169) Q v0 v10 lv h Y4 | _ => False) hR (fun Y4 s h hR => e1 hR)))) (fun s h hR => e1 hR))))) (fun hR => e1 hR))) (fun s h hR => eS hC (fun s h => zb.k7 C (opsF 6 56 [.int .i64 0, .str [], .int .i64 0, .int .i64 0, .int .i64 0, .bool false] 0 []) (N 167) (N 169) Q (s 0) (s 1) (s 2) (s 3) (s 4) h) (eS hC (fun s h => B.cond (s 80) (zm (zb.l11 C (opsF 6 56 [.int .i64 0, .str [], .int .i64 0, .int .i64 0, .int .i64 0, .bool false] 0 []) (N 167) (N 169) Q (s 0) (s 2) (s 4)) [(s 1), (s 2)] h) (zb.k7 C (opsF 6 56 [.int .i64 0, .str [], .int .i64 0, .int .i64 0, .int .i64 0, .bool false] 0 []) (N 167) (N 169) Q (s 0) (s 1) (s 2) (s 3) (s 4) h)) (e1 hR) (fun s h hR => eC 80 hR (fun hR => eS hC (fun s h => zm (zb.l11 C (opsF 6 56 [.int .i64 0, .str [], .int .i64 0, .int .i64 0, .int .i64 0, .bool false] 0 []) (N 167) (N 169) Q (s 0) (s 2) (s 4)) [(s 14), (s 2)] h) (e1 hR) (fun s h hR => eS hC (fun s h => zm (zb.l11 C (opsF 6 56 [.int .i64 0, .str [], .int .i64 0, .int .i64 0, .int .i64 0, .bool false] 0 []) (N 167) (N 169) Q (s 0) (s 2) (s 4)) [(s 14), (s 15)] h) (e1 hR) (fun s h hR => eS hC (fun s h => zm (zb.l9 C (opsF 6 56 [.int .i64 0, .str [], .int .i64 0, .int .i64 0, .int .i64 0, .bool false] 0 []) (N 167) (N 169) Q (s 0) (s 14)) [(s 2)] h) (eK (eL hC [0, 2, 4] [14, 15] (fun kv lv h Y3 => match kv with | [v0, v2, v4] => zb.l11 C (opsF 6 56 [.int .i64 0, .str [], .int .i64 0, .int .i64 0, .int .i64 0, .bool false] 0 []) (N 167) (N 169) Q v0 v2 v4 lv h Y3 | _ => False) hR (fun Y3 s h hR => e1 hR))) (fun s h hR => eS hC (fun s h => Q (.tup []) h) (eS hC (fun s h => zm (zb.l9 C (opsF 6 56 [.int .i64 0, .str [], .int .i64 0, .int .i64 0, .int .i64 0, .bool false] 0 []) (N 167) (N 169) Q (s 0) (s 14)) [(s 17)] h) (e1 hR) (fun s h hR => eK (eL hC [0, 14] [17] (fun kv lv h Y2 => match kv with | [v0, v14] => zb.l9 C (opsF 6 56 [.int .i64 0, .str [], .int .i64 0, .int .i64 0, .int .i64 0, .bool false] 0 []) (N 167) (N 169) Q v0 v14 lv h Y2 | _ => False) hR (fun Y2 s h hR => e1 hR)))) (fun s h hR => e1 hR))))) (fun hR => e1 hR))) (fun s h hR => eS hC (fun s h => B.pv (V.bin .add (s 18) (s 2)) fun v137 =>
  zb.k6 C (opsF 6 56 [.int .i64 0, .str [], .int .i64 0, .int .i64 0, .int .i64 0, .bool false] 0 []) (N 167) (N 169) Q (s 0) (s 1) (s 2) (s 3) (s 4) (s 18) v137 h) (e1 hR) (fun s h hR => eS hC (fun s h => zb.k6 C (opsF 6 56 [.int .i64 0, .str [], .int .i64 0, .int .i64 0, .int .i64 0, .bool false] 0 []) (N 167) (N 169) Q (s 0) (s 1) (s 2) (s 3) (s 4) (s 18) (s 19) h) (e1 hR) (fun s h hR => eS hC (fun s h => zb.k6 C (opsF 6 56 [.int .i64 0, .str [], .int .i64 0, .int .i64 0, .int .i64 0, .bool false] 0 []) (N 167) (N 169) Q (s 0) (s 1) (s 2) (s 3) (s 4) (s 18) (s 19) h) (e1 hR) (fun s h hR => eS hC (fun s h => B.pv (V.bin .sub (s 19) (.int .i64 1)) fun v148 =>
  zm (zb.l5 C (opsF 6 56 [.int .i64 0, .str [], .int .i64 0, .int .i64 0, .int .i64 0, .bool false] 0 []) (N 167) (N 169) Q (s 0) (s 1) (s 2) (s 3) (s 4) (s 18) (s 19) v148) [(s 20), (s 21)] h) (e1 hR) (fun s h hR => eS hC (fun s h => zm (zb.l5 C (opsF 6 56 [.int .i64 0, .str [], .int .i64 0, .int .i64 0, .int .i64 0, .bool false] 0 []) (N 167) (N 169) Q (s 0) (s 1) (s 2) (s 3) (s 4) (s 18) (s 19) (s 22)) [(s 20), (s 21)] h) (e1 hR) (fun s h hR => eS hC (fun s h => B.pv (V.bin .sub (s 19) (s 20)) fun v177 =>
  zb.k3 C (opsF 6 56 [.int .i64 0, .str [], .int .i64 0, .int .i64 0, .int .i64 0, .bool false] 0 []) (N 167) (N 169) Q (s 0) (s 1) (s 2) (s 3) (s 4) (s 18) (s 20) v177 h) (eK (eL hC [0, 1, 2, 3, 4, 18, 19, 22] [20, 21] (fun kv lv h Y1 => match kv with | [v0, v1, v2, v3, v4, v18, v19, v22] => zb.l5 C (opsF 6 56 [.int .i64 0, .str [], .int .i64 0, .int .i64 0, .int .i64 0, .bool false] 0 []) (N 167) (N 169) Q v0 v1 v2 v3 v4 v18 v19 v22 lv h Y1 | _ => False) hR (fun Y1 s h hR => e1 hR))) (fun s h hR => eS hC (fun s h => zb.k3 C (opsF 6 56 [.int .i64 0, .str [], .int .i64 0, .int .i64 0, .int .i64 0, .bool false] 0 []) (N 167) (N 169) Q (s 0) (s 1) (s 2) (s 3) (s 4) (s 18) (s 20) (s 24) h) (e1 hR) (fun s h hR => eS hC (fun s h => zb.k2 C (opsF 6 56 [.int .i64 0, .str [], .int .i64 0, .int .i64 0, .int .i64 0, .bool false] 0 []) (N 167) (N 169) Q (s 0) (s 1) (s 3) (s 4) (s 18) (s 20) (s 24) h) (e1 hR) (fun s h hR => eS hC (fun s h => zb.k1 C (opsF 6 56 [.int .i64 0, .str [], .int .i64 0, .int .i64 0, .int .i64 0, .bool false] 0 []) (N 167) (N 169) Q (s 0) (s 3) (s 4) (s 18) (s 24) h) (e1 hR) (fun s h hR => e1 hR)))))))))))
theorem zbv.imp : zbv.Imp (AC P) N := fun v0 v1 v2 v3 v4 h Q hR => eF mixed (fn := Try.f89) (fun hC => zbv.L hC (dn Q) (zca [v0, v1, v2, v3, v4]) h hR)
def zdj.I : Bx := ⟨[], [], 6, []⟩
theorem zdj.L {C : CSem} (hC : zdb C) (Q : AVal → za → Prop) (s : z0) (h : za) (hR : zdj.cps C N (s 0) h Q) : bwp P C zdj.I (Try.f90.body.getD .skip) (retB P zdj.I Try.f90.results.toList Q) s h :=
 e1 hR
theorem zdj.imp : zdj.Imp (AC P) N := fun v0 h Q hR => eF mixed (fn := Try.f90) (fun hC => zdj.L hC (dn Q) (zca [v0]) h hR)
def zbr.I : Bx := ⟨[], [], 53, [(4, [(0, []), (1, []), (2, []), (3, []), (4, []), (5, []), (6, []), (7, []), (8, []), (9, []), (10, []), (11, []), (12, []), (13, []), (14, []), (15, []), (16, [])]), (6, [(0, []), (1, []), (2, []), (3, []), (4, []), (5, []), (6, []), (7, []), (8, []), (9, []), (10, []), (11, []), (12, []), (13, []), (14, []), (15, []), (16, []), (17, [])])]⟩
theorem zbr.L {C : CSem} (hC : zdb C) (Q : AVal → za → Prop) (s : z0) (h : za) (hR : zbr.cps C N (s 0) (s 1) (s 2) (s 3) h Q) : bwp P C zbr.I (Try.f91.body.getD .skip) (retB P zbr.I Try.f91.results.toList Q) s h :=
 eS hC (fun s h => zm (zn.l3 C (opsS 8 (.int .i64 0) 0) Q (s 0) (s 1) (s 2) (s 3)) [(s 8)] h) (e1 hR) (fun s h hR => eK (eL hC [0, 1, 2, 3] [8] (fun kv lv h Y1 => match kv with | [v0, v1, v2, v3] => zn.l3 C (opsS 8 (.int .i64 0) 0) Q v0 v1 v2 v3 lv h Y1 | _ => False) hR (fun Y1 s h hR => eS hC (fun s h => zm (zn.l2 C (opsS 8 (.int .i64 0) 0) Q Y1 (s 0) (s 1) (s 2) (s 3) (s 8)) [(s 8)] h) (e1 hR) (fun s h hR => eS hC (fun s h => B.pv (V.bin .add (s 8) (.int .i64 1)) fun v16 =>
  Y1 [v16] h) (eK (eS hC (fun s h => zm (zn.l2 C (opsS 8 (.int .i64 0) 0) Q Y1 (s 0) (s 1) (s 2) (s 3) (s 8)) [(s 9)] h) (e1 hR) (fun s h hR => eK (eL hC [0, 1, 2, 3, 8] [9] (fun kv lv h Y2 => match kv with | [v0, v1, v2, v3, v8] => zn.l2 C (opsS 8 (.int .i64 0) 0) Q Y1 v0 v1 v2 v3 v8 lv h Y2 | _ => False) hR (fun Y2 s h hR => e1 hR))))) (fun s h hR => e1 hR)))))
theorem zbr.imp : zbr.Imp (AC P) N := fun v0 v1 v2 v3 h Q hR => eF mixed (fn := Try.f91) (fun hC => zbr.L hC (dn Q) (zca [v0, v1, v2, v3]) h hR)
def zcb.I : Bx := ⟨[], [], 220, [(5, [(0, []), (1, []), (2, []), (3, []), (4, []), (5, []), (6, []), (7, []), (8, []), (9, []), (10, [])]), (11, [(0, []), (1, []), (2, []), (3, []), (4, []), (5, []), (6, []), (7, []), (8, []), (9, []), (10, []), (11, []), (12, []), (13, []), (14, []), (15, []), (16, []), (17, [])]), (17, [(0, []), (1, []), (2, []), (3, []), (4, []), (5, []), (6, []), (7, []), (8, []), (9, []), (10, []), (11, [])]), (23, [(0, []), (1, []), (2, []), (3, []), (4, []), (5, []), (6, []), (7, []), (8, []), (9, []), (10, []), (11, []), (12, []), (13, []), (14, []), (15, []), (16, []), (17, [])]), (35, [(0, []), (1, []), (2, []), (3, []), (4, []), (5, []), (6, []), (7, []), (8, []), (9, []), (10, []), (11, []), (12, []), (13, [])])]⟩
theorem zcb.L {C : CSem} (hC : zdb C) (Q : AVal → za → Prop) (s : z0) (h : za) (hR : zcb.cps C N (s 0) (s 1) (s 2) (s 3) (s 4) h Q) : bwp P C zcb.I (Try.f92.body.getD .skip) (retB P zcb.I Try.f92.results.toList Q) s h :=
 eS hC (fun s h => zb.k12 C (opsS 8 (.int .i64 0) 0) (N 249) (N 251) Q (s 0) (s 1) (s 2) (s 3) (s 4) h) (eS hC (fun s h => B.cond (s 28) (zm (zb.l16 C (opsS 8 (.int .i64 0) 0) (N 249) (N 251) Q (s 0) (s 1) (s 4)) [(s 2), (s 3)] h) (zb.k12 C (opsS 8 (.int .i64 0) 0) (N 249) (N 251) Q (s 0) (s 1) (s 2) (s 3) (s 4) h)) (e1 hR) (fun s h hR => eC 28 hR (fun hR => eS hC (fun s h => zm (zb.l16 C (opsS 8 (.int .i64 0) 0) (N 249) (N 251) Q (s 0) (s 1) (s 4)) [(s 10), (s 3)] h) (e1 hR) (fun s h hR => eS hC (fun s h => zm (zb.l16 C (opsS 8 (.int .i64 0) 0) (N 249) (N 251) Q (s 0) (s 1) (s 4)) [(s 10), (s 11)] h) (e1 hR) (fun s h hR => eS hC (fun s h => zm (zb.l14 C (opsS 8 (.int .i64 0) 0) (N 249) (N 251) Q (s 0) (s 10)) [(s 1)] h) (eK (eL hC [0, 1, 4] [10, 11] (fun kv lv h Y5 => match kv with | [v0, v1, v4] => zb.l16 C (opsS 8 (.int .i64 0) 0) (N 249) (N 251) Q v0 v1 v4 lv h Y5 | _ => False) hR (fun Y5 s h hR => e1 hR))) (fun s h hR => eS hC (fun s h => Q (.tup []) h) (eS hC (fun s h => zm (zb.l14 C (opsS 8 (.int .i64 0) 0) (N 249) (N 251) Q (s 0) (s 10)) [(s 13)] h) (e1 hR) (fun s h hR => eK (eL hC [0, 10] [13] (fun kv lv h Y4 => match kv with | [v0, v10] => zb.l14 C (opsS 8 (.int .i64 0) 0) (N 249) (N 251) Q v0 v10 lv h Y4 | _ => False) hR (fun Y4 s h hR => e1 hR)))) (fun s h hR => e1 hR))))) (fun hR => e1 hR))) (fun s h hR => eS hC (fun s h => zb.k7 C (opsS 8 (.int .i64 0) 0) (N 249) (N 251) Q (s 0) (s 1) (s 2) (s 3) (s 4) h) (eS hC (fun s h => B.cond (s 80) (zm (zb.l11 C (opsS 8 (.int .i64 0) 0) (N 249) (N 251) Q (s 0) (s 2) (s 4)) [(s 1), (s 2)] h) (zb.k7 C (opsS 8 (.int .i64 0) 0) (N 249) (N 251) Q (s 0) (s 1) (s 2) (s 3) (s 4) h)) (e1 hR) (fun s h hR => eC 80 hR (fun hR => eS hC (fun s h => zm (zb.l11 C (opsS 8 (.int .i64 0) 0) (N 249) (N 251) Q (s 0) (s 2) (s 4)) [(s 14), (s 2)] h) (e1 hR) (fun s h hR => eS hC (fun s h => zm (zb.l11 C (opsS 8 (.int .i64 0) 0) (N 249) (N 251) Q (s 0) (s 2) (s 4)) [(s 14), (s 15)] h) (e1 hR) (fun s h hR => eS hC (fun s h => zm (zb.l9 C (opsS 8 (.int .i64 0) 0) (N 249) (N 251) Q (s 0) (s 14)) [(s 2)] h) (eK (eL hC [0, 2, 4] [14, 15] (fun kv lv h Y3 => match kv with | [v0, v2, v4] => zb.l11 C (opsS 8 (.int .i64 0) 0) (N 249) (N 251) Q v0 v2 v4 lv h Y3 | _ => False) hR (fun Y3 s h hR => e1 hR))) (fun s h hR => eS hC (fun s h => Q (.tup []) h) (eS hC (fun s h => zm (zb.l9 C (opsS 8 (.int .i64 0) 0) (N 249) (N 251) Q (s 0) (s 14)) [(s 17)] h) (e1 hR) (fun s h hR => eK (eL hC [0, 14] [17] (fun kv lv h Y2 => match kv with | [v0, v14] => zb.l9 C (opsS 8 (.int .i64 0) 0) (N 249) (N 251) Q v0 v14 lv h Y2 | _ => False) hR (fun Y2 s h hR => e1 hR)))) (fun s h hR => e1 hR))))) (fun hR => e1 hR))) (fun s h hR => eS hC (fun s h => B.pv (V.bin .add (s 18) (s 2)) fun v137 =>
  zb.k6 C (opsS 8 (.int .i64 0) 0) (N 249) (N 251) Q (s 0) (s 1) (s 2) (s 3) (s 4) (s 18) v137 h) (e1 hR) (fun s h hR => eS hC (fun s h => zb.k6 C (opsS 8 (.int .i64 0) 0) (N 249) (N 251) Q (s 0) (s 1) (s 2) (s 3) (s 4) (s 18) (s 19) h) (e1 hR) (fun s h hR => eS hC (fun s h => zb.k6 C (opsS 8 (.int .i64 0) 0) (N 249) (N 251) Q (s 0) (s 1) (s 2) (s 3) (s 4) (s 18) (s 19) h) (e1 hR) (fun s h hR => eS hC (fun s h => B.pv (V.bin .sub (s 19) (.int .i64 1)) fun v148 =>
  zm (zb.l5 C (opsS 8 (.int .i64 0) 0) (N 249) (N 251) Q (s 0) (s 1) (s 2) (s 3) (s 4) (s 18) (s 19) v148) [(s 20), (s 21)] h) (e1 hR) (fun s h hR => eS hC (fun s h => zm (zb.l5 C (opsS 8 (.int .i64 0) 0) (N 249) (N 251) Q (s 0) (s 1) (s 2) (s 3) (s 4) (s 18) (s 19) (s 22)) [(s 20), (s 21)] h) (e1 hR) (fun s h hR => eS hC (fun s h => B.pv (V.bin .sub (s 19) (s 20)) fun v177 =>
  zb.k3 C (opsS 8 (.int .i64 0) 0) (N 249) (N 251) Q (s 0) (s 1) (s 2) (s 3) (s 4) (s 18) (s 20) v177 h) (eK (eL hC [0, 1, 2, 3, 4, 18, 19, 22] [20, 21] (fun kv lv h Y1 => match kv with | [v0, v1, v2, v3, v4, v18, v19, v22] => zb.l5 C (opsS 8 (.int .i64 0) 0) (N 249) (N 251) Q v0 v1 v2 v3 v4 v18 v19 v22 lv h Y1 | _ => False) hR (fun Y1 s h hR => e1 hR))) (fun s h hR => eS hC (fun s h => zb.k3 C (opsS 8 (.int .i64 0) 0) (N 249) (N 251) Q (s 0) (s 1) (s 2) (s 3) (s 4) (s 18) (s 20) (s 24) h) (e1 hR) (fun s h hR => eS hC (fun s h => zb.k2 C (opsS 8 (.int .i64 0) 0) (N 249) (N 251) Q (s 0) (s 1) (s 3) (s 4) (s 18) (s 20) (s 24) h) (e1 hR) (fun s h hR => eS hC (fun s h => zb.k1 C (opsS 8 (.int .i64 0) 0) (N 249) (N 251) Q (s 0) (s 3) (s 4) (s 18) (s 24) h) (e1 hR) (fun s h hR => e1 hR)))))))))))
theorem zcb.imp : zcb.Imp (AC P) N := fun v0 v1 v2 v3 v4 h Q hR => eF mixed (fn := Try.f92) (fun hC => zcb.L hC (dn Q) (zca [v0, v1, v2, v3, v4]) h hR)
def zcc.I : Bx := ⟨[], [], 76, [(3, [(0, []), (1, []), (2, []), (3, []), (4, []), (5, []), (6, []), (7, []), (8, []), (9, []), (10, []), (11, []), (12, []), (13, []), (14, []), (15, []), (16, []), (17, []), (18, []), (19, [])]), (5, [(0, []), (1, []), (2, []), (3, []), (4, []), (5, []), (6, []), (7, []), (8, []), (9, []), (10, []), (11, []), (12, []), (13, [])]), (6, [(0, []), (1, []), (2, []), (3, []), (4, []), (5, []), (6, []), (7, []), (8, []), (9, []), (10, []), (11, []), (12, []), (13, []), (14, []), (15, []), (16, []), (17, []), (18, []), (19, []), (20, []), (21, []), (22, []), (23, [])])]⟩
theorem zcc.L {C : CSem} (hC : zdb C) (Q : AVal → za → Prop) (s : z0) (h : za) (hR : zcc.cps C N (s 0) (s 1) (s 2) (s 3) h Q) : bwp P C zcc.I (Try.f93.body.getD .skip) (retB P zcc.I Try.f93.results.toList Q) s h :=
 eS hC (fun s h => zm (zbt.l4 C (opsS 8 (.int .i64 0) 0) (N 340) Q (s 0) (s 2) (s 3)) [(s 8)] h) (e1 hR) (fun s h hR => eK (eL hC [0, 2, 3] [8] (fun kv lv h Y1 => match kv with | [v0, v2, v3] => zbt.l4 C (opsS 8 (.int .i64 0) 0) (N 340) Q v0 v2 v3 lv h Y1 | _ => False) hR (fun Y1 s h hR => eK (eS hC (fun s h => B.pv (V.bin .geq (s 9) (s 2)) fun v16 =>
  B.cond v16
  (Q (.tup []) h)
  (zbt.k2 C (opsS 8 (.int .i64 0) 0) (N 340) Q Y1 (s 0) (s 2) (s 3) (s 8) (s 9) h)) (e1 hR) (fun s h hR => eS hC (fun s h => zbt.k2 C (opsS 8 (.int .i64 0) 0) (N 340) Q Y1 (s 0) (s 2) (s 3) (s 8) (s 9) h) (e1 hR) (fun s h hR => eS hC (fun s h => zbt.k1 C (opsS 8 (.int .i64 0) 0) (N 340) Q Y1 (s 0) (s 2) (s 3) (s 8) (s 9) h) (e1 hR) (fun s h hR => e1 hR)))))))
theorem zcc.imp : zcc.Imp (AC P) N := fun v0 v1 v2 v3 h Q hR => eF mixed (fn := Try.f93) (fun hC => zcc.L hC (dn Q) (zca [v0, v1, v2, v3]) h hR)
def zce.I : Bx := ⟨[], [], 7, []⟩
theorem zce.L {C : CSem} (hC : zdb C) (Q : AVal → za → Prop) (s : z0) (h : za) (hR : zce.cps C N (s 0) h Q) : bwp P C zce.I (Try.f94.body.getD .skip) (retB P zce.I Try.f94.results.toList Q) s h :=
 e1 hR
theorem zce.imp : zce.Imp (AC P) N := fun v0 h Q hR => eF mixed (fn := Try.f94) (fun hC => zce.L hC (dn Q) (zca [v0]) h hR)
def zb3.I : Bx := ⟨[], [], 33, [(1, [(0, []), (1, []), (2, []), (3, []), (4, []), (5, []), (6, []), (7, []), (8, []), (9, [])]), (2, [(0, []), (1, []), (2, []), (3, []), (4, []), (5, []), (6, []), (7, []), (8, []), (9, [])]), (3, [(0, []), (1, []), (2, []), (3, []), (4, []), (5, []), (6, []), (7, []), (8, []), (9, [])])]⟩
theorem zb3.L {C : CSem} (hC : zdb C) (Q : AVal → za → Prop) (s : z0) (h : za) (hR : zb3.cps C N (s 0) h Q) : bwp P C zb3.I (Try.f95.body.getD .skip) (retB P zb3.I Try.f95.results.toList Q) s h :=
 e1 hR
theorem zb3.imp : zb3.Imp (AC P) N := fun v0 h Q hR => eF mixed (fn := Try.f95) (fun hC => zb3.L hC (dn Q) (zca [v0]) h hR)
def zbm.I : Bx := ⟨[], [], 15, []⟩
theorem zbm.L {C : CSem} (hC : zdb C) (Q : AVal → za → Prop) (s : z0) (h : za) (hR : zbm.cps C N (s 0) (s 1) (s 2) h Q) : bwp P C zbm.I (Try.f96.body.getD .skip) (retB P zbm.I Try.f96.results.toList Q) s h :=
 e1 hR
theorem zbm.imp : zbm.Imp (AC P) N := fun v0 v1 v2 h Q hR => eF mixed (fn := Try.f96) (fun hC => zbm.L hC (dn Q) (zca [v0, v1, v2]) h hR)
def zco.I : Bx := ⟨[], [], 36, []⟩
theorem zco.L {C : CSem} (hC : zdb C) (Q : AVal → za → Prop) (s : z0) (h : za) (hR : zco.cps C N (s 0) (s 1) (s 2) (s 3) (s 4) h Q) : bwp P C zco.I (Try.f97.body.getD .skip) (retB P zco.I Try.f97.results.toList Q) s h :=
 e1 hR
theorem zco.imp : zco.Imp (AC P) N := fun v0 v1 v2 v3 v4 h Q hR => eF mixed (fn := Try.f97) (fun hC => zco.L hC (dn Q) (zca [v0, v1, v2, v3, v4]) h hR)
def zb1.I : Bx := ⟨[], [], 58, []⟩
theorem zb1.L {C : CSem} (hC : zdb C) (Q : AVal → za → Prop) (s : z0) (h : za) (hR : zb1.cps C N (s 0) (s 1) (s 2) (s 3) (s 4) h Q) : bwp P C zb1.I (Try.f98.body.getD .skip) (retB P zb1.I Try.f98.results.toList Q) s h :=
 eS hC (fun s h => B.pv (V.bin .sub (s 3) (s 2)) fun v17 =>
  zm (zbk.l2 C (opsF 6 56 [.int .i64 0, .str [], .int .i64 0, .int .i64 0, .int .i64 0, .bool false] 0 []) (N 170) Q (s 0) (s 2) (s 4)) [(s 10), v17] h) (e1 hR) (fun s h hR => eS hC (fun s h => zm (zbk.l2 C (opsF 6 56 [.int .i64 0, .str [], .int .i64 0, .int .i64 0, .int .i64 0, .bool false] 0 []) (N 170) Q (s 0) (s 2) (s 4)) [(s 10), (s 11)] h) (e1 hR) (fun s h hR => eS hC (fun s h => B.pv (V.bin .sub (s 2) (s 10)) fun v53 =>
  B.call C (N 170) [(s 0), v53, (s 2), (s 10), (s 4)] h fun v57 h =>
  Q (.tup []) h) (eK (eL hC [0, 2, 4] [10, 11] (fun kv lv h Y1 => match kv with | [v0, v2, v4] => zbk.l2 C (opsF 6 56 [.int .i64 0, .str [], .int .i64 0, .int .i64 0, .int .i64 0, .bool false] 0 []) (N 170) Q v0 v2 v4 lv h Y1 | _ => False) hR (fun Y1 s h hR => e1 hR))) (fun s h hR => e1 hR)))
theorem zb1.imp : zb1.Imp (AC P) N := fun v0 v1 v2 v3 v4 h Q hR => eF mixed (fn := Try.f98) (fun hC => zb1.L hC (dn Q) (zca [v0, v1, v2, v3, v4]) h hR)
def zcm.I : Bx := ⟨[], [], 58, []⟩
theorem zcm.L {C : CSem} (hC : zdb C) (Q : AVal → za → Prop) (s : z0) (h : za) (hR : zcm.cps C N (s 0) (s 1) (s 2) (s 3) (s 4) h Q) : bwp P C zcm.I (Try.f99.body.getD .skip) (retB P zcm.I Try.f99.results.toList Q) s h :=
 eS hC (fun s h => B.pv (V.bin .sub (s 3) (s 2)) fun v17 =>
  zm (zbk.l2 C (opsS 8 (.int .i64 0) 0) (N 252) Q (s 0) (s 2) (s 4)) [(s 10), v17] h) (e1 hR) (fun s h hR => eS hC (fun s h => zm (zbk.l2 C (opsS 8 (.int .i64 0) 0) (N 252) Q (s 0) (s 2) (s 4)) [(s 10), (s 11)] h) (e1 hR) (fun s h hR => eS hC (fun s h => B.pv (V.bin .sub (s 2) (s 10)) fun v53 =>
  B.call C (N 252) [(s 0), v53, (s 2), (s 10), (s 4)] h fun v57 h =>
  Q (.tup []) h) (eK (eL hC [0, 2, 4] [10, 11] (fun kv lv h Y1 => match kv with | [v0, v2, v4] => zbk.l2 C (opsS 8 (.int .i64 0) 0) (N 252) Q v0 v2 v4 lv h Y1 | _ => False) hR (fun Y1 s h hR => e1 hR))) (fun s h hR => e1 hR)))
theorem zcm.imp : zcm.Imp (AC P) N := fun v0 v1 v2 v3 v4 h Q hR => eF mixed (fn := Try.f99) (fun hC => zcm.L hC (dn Q) (zca [v0, v1, v2, v3, v4]) h hR)
def zcn.I : Bx := ⟨[], [], 28, [(1, [(0, []), (1, []), (2, []), (3, []), (4, []), (5, []), (6, []), (7, []), (8, [])])]⟩
theorem zcn.L {C : CSem} (hC : zdb C) (Q : AVal → za → Prop) (s : z0) (h : za) (hR : zcn.cps C N (s 0) (s 1) (s 2) (s 3) h Q) : bwp P C zcn.I (Try.f100.body.getD .skip) (retB P zcn.I Try.f100.results.toList Q) s h :=
 e1 hR
theorem zcn.imp : zcn.Imp (AC P) N := fun v0 v1 v2 v3 h Q hR => eF mixed (fn := Try.f100) (fun hC => zcn.L hC (dn Q) (zca [v0, v1, v2, v3]) h hR)
def zbp.I : Bx := ⟨[], [], 38, [(3, [(0, []), (1, []), (2, []), (3, []), (4, []), (5, []), (6, []), (7, []), (8, []), (9, []), (10, []), (11, []), (12, []), (13, []), (14, []), (15, []), (16, []), (17, []), (18, []), (19, []), (20, []), (21, []), (22, []), (23, [])])]⟩
theorem zbp.L {C : CSem} (hC : zdb C) (Q : AVal → za → Prop) (s : z0) (h : za) (hR : zbp.cps C N (s 0) (s 1) (s 2) (s 3) (s 4) h Q) : bwp P C zbp.I (Try.f101.body.getD .skip) (retB P zbp.I Try.f101.results.toList Q) s h :=
 eS hC (fun s h => zm (zbi.l2 C (opsF 6 56 [.int .i64 0, .str [], .int .i64 0, .int .i64 0, .int .i64 0, .bool false] 0 []) Q (s 0) (s 1) (s 2) (s 3)) [(s 10)] h) (e1 hR) (fun s h hR => eK (eL hC [0, 1, 2, 3] [10] (fun kv lv h Y1 => match kv with | [v0, v1, v2, v3] => zbi.l2 C (opsF 6 56 [.int .i64 0, .str [], .int .i64 0, .int .i64 0, .int .i64 0, .bool false] 0 []) Q v0 v1 v2 v3 lv h Y1 | _ => False) hR (fun Y1 s h hR => e1 hR)))
theorem zbp.imp : zbp.Imp (AC P) N := fun v0 v1 v2 v3 v4 h Q hR => eF mixed (fn := Try.f101) (fun hC => zbp.L hC (dn Q) (zca [v0, v1, v2, v3, v4]) h hR)
def zb7.I : Bx := ⟨[], [], 38, [(3, [(0, []), (1, []), (2, []), (3, []), (4, []), (5, []), (6, []), (7, []), (8, []), (9, []), (10, []), (11, []), (12, []), (13, []), (14, []), (15, []), (16, []), (17, []), (18, []), (19, []), (20, []), (21, []), (22, []), (23, [])])]⟩
theorem zb7.L {C : CSem} (hC : zdb C) (Q : AVal → za → Prop) (s : z0) (h : za) (hR : zb7.cps C N (s 0) (s 1) (s 2) (s 3) (s 4) h Q) : bwp P C zb7.I (Try.f102.body.getD .skip) (retB P zb7.I Try.f102.results.toList Q) s h :=
 eS hC (fun s h => zm (zbi.l2 C (opsS 8 (.int .i64 0) 0) Q (s 0) (s 1) (s 2) (s 3)) [(s 10)] h) (e1 hR) (fun s h hR => eK (eL hC [0, 1, 2, 3] [10] (fun kv lv h Y1 => match kv with | [v0, v1, v2, v3] => zbi.l2 C (opsS 8 (.int .i64 0) 0) Q v0 v1 v2 v3 lv h Y1 | _ => False) hR (fun Y1 s h hR => e1 hR)))
theorem zb7.imp : zb7.Imp (AC P) N := fun v0 v1 v2 v3 v4 h Q hR => eF mixed (fn := Try.f102) (fun hC => zb7.L hC (dn Q) (zca [v0, v1, v2, v3, v4]) h hR)
end Go.Ab.S06
namespace Go.Ab
@[simp] def zcf.k1 (C : CSem) (E : zx) (C0 : CSem) (fL : Nat) (Q : AVal → za → Prop) (Y1 : List AVal → za → Prop) (Y2 : List AVal → za → Prop) (v0 v1 v2 v3 v8 v9 : AVal) (h : za) : Prop :=
 B.pv (V.bin .gtr v9 v1) fun v20 =>
  B.gd h v20 true (fun K => K v0 h) fun v23 h =>
  B.gd h v20 true (fun K => K v9 h) fun v24 h =>
  B.gd h v20 true (fun K => B.pv (V.idxS E.es v23 v24) fun v => K v h) fun v25 h =>
  B.gd h v20 true (fun K => E.ld h v25 fun v => K v h) fun v26 h =>
  B.gd h v20 true (fun K => K v0 h) fun v27 h =>
  B.gd h v20 true (fun K => K v9 h) fun v28 h =>
  B.gd h v20 true (fun K => B.pv (V.bin .sub v28 (.int .i64 1)) fun v => K v h) fun v29 h =>
  B.gd h v20 true (fun K => B.pv (V.idxS E.es v27 v29) fun v => K v h) fun v30 h =>
  B.gd h v20 true (fun K => E.ld h v30 fun v => K v h) fun v31 h =>
  B.gd h v20 true (fun K => B.call C0 fL [v26, v31] h K) fun v33 h =>
  B.pick v20 v33 (.bool false) fun v34 =>
  B.cond v34
  (B.pv (V.bin .sub v9 (.int .i64 1)) fun v41 =>
  B.pv (V.bin .sub v9 (.int .i64 1)) fun v44 =>
  B.pv (V.idxS E.es v0 v44) fun v45 =>
  E.ld h v45 fun v46 =>
  B.pv (V.idxS E.es v0 v9) fun v49 =>
  E.ld h v49 fun v50 =>
  B.pv (V.idxS E.es v0 v9) fun v51 =>
  E.st h v51 v46 fun h =>
  B.pv (V.idxS E.es v0 v41) fun v52 =>
  E.st h v52 v50 fun h =>
  B.pv (V.bin .sub v9 (.int .i64 1)) fun v36 =>
  Y2 [v36] h)
  (B.pv (V.bin .add v8 (.int .i64 1)) fun v16 =>
  Y1 [v16] h)
@[simp] def zcf.l2 (C : CSem) (E : zx) (C0 : CSem) (fL : Nat) (Q : AVal → za → Prop) (Y1 : List AVal → za → Prop) (v0 v1 v2 v3 v8 : AVal) : List AVal → za → (List AVal → za → Prop) → Prop
 | [v9], h, Y2 => zcf.k1 C E C0 fL Q Y1 Y2 v0 v1 v2 v3 v8 v9 h
 | _, _, _ => False
@[simp] def zcf.l3 (C : CSem) (E : zx) (C0 : CSem) (fL : Nat) (Q : AVal → za → Prop) (v0 v1 v2 v3 : AVal) : List AVal → za → (List AVal → za → Prop) → Prop
 | [v8], h, Y1 => B.pv (V.bin .lss v8 v2) fun v14 =>
  B.cond v14
  (zm (zcf.l2 C E C0 fL Q Y1 v0 v1 v2 v3 v8) [v8] h)
  (Q (.tup []) h)
 | _, _, _ => False
@[simp] def zcf.cps (C : CSem) (E : zx) (C0 : CSem) (fL : Nat) (v0 v1 v2 v3 : AVal) (h : za) (Q : AVal → za → Prop) : Prop :=
 B.pv (V.bin .add v1 (.int .i64 1)) fun v11 =>
  zm (zcf.l3 C E C0 fL Q v0 v1 v2 v3) [v11] h
@[simp] def z8.k1 (C : CSem) (E : zx) (C0 : CSem) (fL : Nat) (f1 f2 f3 f4 f5 f6 f7 f8 f9 : Nat) (Q : AVal → za → Prop) (Y1 : List AVal → za → Prop) (v0 v1 v2 v3 v4 v10 v11 v12 v13 : AVal) (h : za) : Prop :=
 B.pv (V.bin .gtr v1 (.int .i64 0)) fun v82 =>
  B.gd h v82 true (fun K => K v0 h) fun v85 h =>
  B.gd h v82 true (fun K => K v1 h) fun v86 h =>
  B.gd h v82 true (fun K => B.pv (V.bin .sub v86 (.int .i64 1)) fun v => K v h) fun v87 h =>
  B.gd h v82 true (fun K => B.pv (V.idxS E.es v85 v87) fun v => K v h) fun v88 h =>
  B.gd h v82 true (fun K => E.ld h v88 fun v => K v h) fun v89 h =>
  B.gd h v82 true (fun K => K v0 h) fun v90 h =>
  B.gd h v82 true (fun K => K v13 h) fun v91 h =>
  B.gd h v82 true (fun K => B.pv (V.idxS E.es v90 v91) fun v => K v h) fun v92 h =>
  B.gd h v82 true (fun K => E.ld h v92 fun v => K v h) fun v93 h =>
  B.gd h v82 true (fun K => B.call C0 fL [v89, v93] h K) fun v95 h =>
  B.gd h v82 true (fun K => B.pv (V.un .not v95) fun v => K v h) fun v96 h =>
  B.pick v82 v96 (.bool false) fun v97 =>
  B.cond v97
  (B.call C f1 [v0, v1, v2, v13, v4] h fun v103 h =>
  Y1 [v103, v2, v3, v10, v11] h)
  (B.call C f2 [v0, v1, v2, v13, v4] h fun v111 h =>
  B.pv (V.ext 0 v111) fun v112 =>
  B.pv (V.ext 1 v111) fun v113 =>
  B.pv (V.bin .sub v112 v1) fun v117 =>
  B.pv (V.bin .sub v2 v112) fun v120 =>
  B.pv (V.bin .quo v12 (.int .i64 8)) fun v122 =>
  B.pv (V.bin .lss v117 v120) fun v125 =>
  B.cond v125
  (B.pv (V.bin .geq v117 v122) fun v128 =>
  B.call C f3 [v0, v1, v112, v3, v4] h fun v134 h =>
  B.pv (V.bin .add v112 (.int .i64 1)) fun v136 =>
  Y1 [v136, v2, v3, v128, v113] h)
  (B.pv (V.bin .geq v120 v122) fun v139 =>
  B.pv (V.bin .add v112 (.int .i64 1)) fun v142 =>
  B.call C f3 [v0, v142, v2, v3, v4] h fun v146 h =>
  Y1 [v1, v112, v3, v139, v113] h))
@[simp] def z8.k2 (C : CSem) (E : zx) (C0 : CSem) (fL : Nat) (f1 f2 f3 f4 f5 f6 f7 f8 f9 : Nat) (Q : AVal → za → Prop) (Y1 : List AVal → za → Prop) (v0 v1 v2 v3 v4 v10 v11 v12 v13 v14 : AVal) (h : za) : Prop :=
 B.gd h v10 true (fun K => K v11 h) fun v70 h =>
  B.pick v10 v70 (.bool false) fun v71 =>
  B.gd h v71 true (fun K => K v14 h) fun v73 h =>
  B.gd h v71 true (fun K => B.pv (V.bin .eql v73 (.int .i64 1)) fun v => K v h) fun v74 h =>
  B.pick v71 v74 (.bool false) fun v75 =>
  B.cond v75
  (B.call C f4 [v0, v1, v2, v4] h fun v80 h =>
  B.cond v80
  (Q (.tup []) h)
  (z8.k1 C E C0 fL f1 f2 f3 f4 f5 f6 f7 f8 f9 Q Y1 v0 v1 v2 v3 v4 v10 v11 v12 v13 h))
  (z8.k1 C E C0 fL f1 f2 f3 f4 f5 f6 f7 f8 f9 Q Y1 v0 v1 v2 v3 v4 v10 v11 v12 v13 h)
@[simp] def z8.k3 (C : CSem) (E : zx) (C0 : CSem) (fL : Nat) (f1 f2 f3 f4 f5 f6 f7 f8 f9 : Nat) (Q : AVal → za → Prop) (Y1 : List AVal → za → Prop) (v0 v1 v2 v3 v4 v10 v11 v12 v13 v14 : AVal) (h : za) : Prop :=
 B.pv (V.bin .eql v14 (.int .i64 2)) fun v56 =>
  B.cond v56
  (B.call C f5 [v0, v1, v2, v4] h fun v61 h =>
  B.pv (V.bin .sub v2 (.int .i64 1)) fun v63 =>
  B.pv (V.bin .sub v13 v1) fun v66 =>
  B.pv (V.bin .sub v63 v66) fun v67 =>
  z8.k2 C E C0 fL f1 f2 f3 f4 f5 f6 f7 f8 f9 Q Y1 v0 v1 v2 v3 v4 v10 v11 v12 v67 (.int .i64 1) h)
  (z8.k2 C E C0 fL f1 f2 f3 f4 f5 f6 f7 f8 f9 Q Y1 v0 v1 v2 v3 v4 v10 v11 v12 v13 v14 h)
@[simp] def z8.k4 (C : CSem) (E : zx) (C0 : CSem) (fL : Nat) (f1 f2 f3 f4 f5 f6 f7 f8 f9 : Nat) (Q : AVal → za → Prop) (Y1 : List AVal → za → Prop) (v0 v1 v2 v3 v4 v10 v11 v12 : AVal) (h : za) : Prop :=
 B.call C f6 [v0, v1, v2, v4] h fun v52 h =>
  B.pv (V.ext 0 v52) fun v53 =>
  B.pv (V.ext 1 v52) fun v54 =>
  z8.k3 C E C0 fL f1 f2 f3 f4 f5 f6 f7 f8 f9 Q Y1 v0 v1 v2 v3 v4 v10 v11 v12 v53 v54 h
@[simp] def z8.k5 (C : CSem) (E : zx) (C0 : CSem) (fL : Nat) (f1 f2 f3 f4 f5 f6 f7 f8 f9 : Nat) (Q : AVal → za → Prop) (Y1 : List AVal → za → Prop) (v0 v1 v2 v3 v4 v10 v11 v12 : AVal) (h : za) : Prop :=
 B.pv (V.un .not v10) fun v39 =>
  B.cond v39
  (B.call C f7 [v0, v1, v2, v4] h fun v44 h =>
  B.pv (V.bin .sub v3 (.int .i64 1)) fun v46 =>
  z8.k4 C E C0 fL f1 f2 f3 f4 f5 f6 f7 f8 f9 Q Y1 v0 v1 v2 v46 v4 v10 v11 v12 h)
  (z8.k4 C E C0 fL f1 f2 f3 f4 f5 f6 f7 f8 f9 Q Y1 v0 v1 v2 v3 v4 v10 v11 v12 h)
@[simp] def z8.k6 (C : CSem) (E : zx) (C0 : CSem) (fL : Nat) (f1 f2 f3 f4 f5 f6 f7 f8 f9 : Nat) (Q : AVal → za → Prop) (Y1 : List AVal → za → Prop) (v0 v1 v2 v3 v4 v10 v11 v12 : AVal) (h : za) : Prop :=
 B.pv (V.bin .eql v3 (.int .i64 0)) fun v32 =>
  B.cond v32
  (B.call C f8 [v0, v1, v2, v4] h fun v37 h =>
  Q (.tup []) h)
  (z8.k5 C E C0 fL f1 f2 f3 f4 f5 f6 f7 f8 f9 Q Y1 v0 v1 v2 v3 v4 v10 v11 v12 h)
@[simp] def z8.k7 (C : CSem) (E : zx) (C0 : CSem) (fL : Nat) (f1 f2 f3 f4 f5 f6 f7 f8 f9 : Nat) (Q : AVal → za → Prop) (Y1 : List AVal → za → Prop) (v0 v1 v2 v3 v4 v10 v11 v12 : AVal) (h : za) : Prop :=
 B.pv (V.bin .leq v12 (.int .i64 12)) fun v25 =>
  B.cond v25
  (B.call C f9 [v0, v1, v2, v4] h fun v30 h =>
  Q (.tup []) h)
  (z8.k6 C E C0 fL f1 f2 f3 f4 f5 f6 f7 f8 f9 Q Y1 v0 v1 v2 v3 v4 v10 v11 v12 h)
@[simp] def z8.l8 (C : CSem) (E : zx) (C0 : CSem) (fL : Nat) (f1 f2 f3 f4 f5 f6 f7 f8 f9 : Nat) (Q : AVal → za → Prop) (v0 v4 : AVal) : List AVal → za → (List AVal → za → Prop) → Prop
 | [v1, v2, v3, v10, v11], h, Y1 => B.pv (V.bin .sub v2 v1) fun v23 =>
  z8.k7 C E C0 fL f1 f2 f3 f4 f5 f6 f7 f8 f9 Q Y1 v0 v1 v2 v3 v4 v10 v11 v23 h
 | _, _, _ => False
@[simp] def z8.cps (C : CSem) (E : zx) (C0 : CSem) (fL : Nat) (f1 f2 f3 f4 f5 f6 f7 f8 f9 : Nat) (v0 v1 v2 v3 v4 : AVal) (h : za) (Q : AVal → za → Prop) : Prop :=
 zm (z8.l8 C E C0 fL f1 f2 f3 f4 f5 f6 f7 f8 f9 Q v0 v4) [v1, v2, v3, (.bool true), (.bool true)] h
@[simp] def zcu.k1 (C : CSem) (E : zx) (C0 : CSem) (fL : Nat) (f1 : Nat) (Q : AVal → za → Prop) (Y1 : List AVal → za → Prop) (v0 v3 v8 v9 v12 : AVal) (h : za) : Prop :=
 B.pv (V.bin .geq v12 (.int .i64 0)) fun v33 =>
  B.cond v33
  (B.pv (V.bin .add v8 v12) fun v41 =>
  B.pv (V.bin .add v8 v12) fun v45 =>
  B.pv (V.idxS E.es v0 v45) fun v46 =>
  E.ld h v46 fun v47 =>
  B.pv (V.idxS E.es v0 v8) fun v50 =>
  E.ld h v50 fun v51 =>
  B.pv (V.idxS E.es v0 v8) fun v52 =>
  E.st h v52 v47 fun h =>
  B.pv (V.idxS E.es v0 v41) fun v53 =>
  E.st h v53 v51 fun h =>
  B.call C f1 [v0, v9, v12, v8, v3] h fun v59 h =>
  B.pv (V.bin .sub v12 (.int .i64 1)) fun v35 =>
  Y1 [v35] h)
  (Q (.tup []) h)
@[simp] def zcu.l2 (C : CSem) (E : zx) (C0 : CSem) (fL : Nat) (f1 : Nat) (Q : AVal → za → Prop) (v0 v3 v8 v9 : AVal) : List AVal → za → (List AVal → za → Prop) → Prop
 | [v12], h, Y1 => zcu.k1 C E C0 fL f1 Q Y1 v0 v3 v8 v9 v12 h
 | _, _, _ => False
@[simp] def zcu.k3 (C : CSem) (E : zx) (C0 : CSem) (fL : Nat) (f1 : Nat) (Q : AVal → za → Prop) (Y2 : List AVal → za → Prop) (v0 v3 v8 v9 v10 v11 : AVal) (h : za) : Prop :=
 B.pv (V.bin .geq v11 (.int .i64 0)) fun v21 =>
  B.cond v21
  (B.call C f1 [v0, v11, v10, v8, v3] h fun v29 h =>
  B.pv (V.bin .sub v11 (.int .i64 1)) fun v23 =>
  Y2 [v23] h)
  (B.pv (V.bin .sub v10 (.int .i64 1)) fun v31 =>
  zm (zcu.l2 C E C0 fL f1 Q v0 v3 v8 v9) [v31] h)
@[simp] def zcu.l4 (C : CSem) (E : zx) (C0 : CSem) (fL : Nat) (f1 : Nat) (Q : AVal → za → Prop) (v0 v3 v8 v9 v10 : AVal) : List AVal → za → (List AVal → za → Prop) → Prop
 | [v11], h, Y2 => zcu.k3 C E C0 fL f1 Q Y2 v0 v3 v8 v9 v10 v11 h
 | _, _, _ => False
@[simp] def zcu.k5 (C : CSem) (E : zx) (C0 : CSem) (fL : Nat) (f1 : Nat) (Q : AVal → za → Prop) (v0 v3 v8 v9 v10 : AVal) (h : za) : Prop :=
 B.pv (V.bin .sub v10 (.int .i64 1)) fun v18 =>
  B.pv (V.bin .quo v18 (.int .i64 2)) fun v19 =>
  zm (zcu.l4 C E C0 fL f1 Q v0 v3 v8 v9 v10) [v19] h
@[simp] def zcu.cps (C : CSem) (E : zx) (C0 : CSem) (fL : Nat) (f1 : Nat) (v0 v1 v2 v3 : AVal) (h : za) (Q : AVal → za → Prop) : Prop :=
 B.pv (V.bin .sub v2 v1) fun v16 =>
  zcu.k5 C E C0 fL f1 Q v0 v3 v1 (.int .i64 0) v16 h
@[simp] def zy.k1 (C : CSem) (E : zx) (C0 : CSem) (fL : Nat) (f1 f2 : Nat) (Q : AVal → za → Prop) (Y1 : List AVal → za → Prop) (v0 v1 v8 v9 v10 v11 v12 : AVal) (h : za) : Prop :=
 B.pv (V.bin .add v1 v12) fun v54 =>
  B.pv (V.bin .add v1 v12) fun v58 =>
  B.pv (V.idxS E.es v0 v58) fun v59 =>
  E.ld h v59 fun v60 =>
  B.pv (V.idxS E.es v0 v11) fun v63 =>
  E.ld h v63 fun v64 =>
  B.pv (V.idxS E.es v0 v11) fun v65 =>
  E.st h v65 v60 fun h =>
  B.pv (V.idxS E.es v0 v54) fun v66 =>
  E.st h v66 v64 fun h =>
  B.pv (V.bin .add v11 (.int .i64 1)) fun v37 =>
  Y1 [v37] h
@[simp] def zy.k2 (C : CSem) (E : zx) (C0 : CSem) (fL : Nat) (f1 f2 : Nat) (Q : AVal → za → Prop) (Y1 : List AVal → za → Prop) (v0 v1 v8 v9 v10 v11 v12 : AVal) (h : za) : Prop :=
 B.pv (V.bin .geq v12 v8) fun v45 =>
  B.cond v45
  (B.pv (V.bin .sub v12 v8) fun v48 =>
  zy.k1 C E C0 fL f1 f2 Q Y1 v0 v1 v8 v9 v10 v11 v48 h)
  (zy.k1 C E C0 fL f1 f2 Q Y1 v0 v1 v8 v9 v10 v11 v12 h)
@[simp] def zy.k3 (C : CSem) (E : zx) (C0 : CSem) (fL : Nat) (f1 f2 : Nat) (Q : AVal → za → Prop) (Y1 : List AVal → za → Prop) (v0 v1 v8 v9 v10 v11 : AVal) (h : za) : Prop :=
 B.call C0 f1 [v9] h fun v38 h =>
  B.pv (V.bin .sub v10 (.int .u64 1)) fun v40 =>
  B.pv (V.bin .and v38 v40) fun v41 =>
  B.pv (V.toInt .i64 v41) fun v42 =>
  zy.k2 C E C0 fL f1 f2 Q Y1 v0 v1 v8 v9 v10 v11 v42 h
@[simp] def zy.k4 (C : CSem) (E : zx) (C0 : CSem) (fL : Nat) (f1 f2 : Nat) (Q : AVal → za → Prop) (Y1 : List AVal → za → Prop) (v0 v1 v8 v9 v10 v11 : AVal) (h : za) : Prop :=
 B.pv (V.bin .quo v8 (.int .i64 4)) fun v31 =>
  B.pv (V.bin .mul v31 (.int .i64 2)) fun v32 =>
  B.pv (V.bin .add v1 v32) fun v33 =>
  B.pv (V.bin .add v33 (.int .i64 1)) fun v34 =>
  B.pv (V.bin .leq v11 v34) fun v35 =>
  B.cond v35
  (zy.k3 C E C0 fL f1 f2 Q Y1 v0 v1 v8 v9 v10 v11 h)
  (Q (.tup []) h)
@[simp] def zy.l5 (C : CSem) (E : zx) (C0 : CSem) (fL : Nat) (f1 f2 : Nat) (Q : AVal → za → Prop) (v0 v1 v8 v9 v10 : AVal) : List AVal → za → (List AVal → za → Prop) → Prop
 | [v11], h, Y1 => zy.k4 C E C0 fL f1 f2 Q Y1 v0 v1 v8 v9 v10 v11 h
 | _, _, _ => False
@[simp] def zy.k6 (C : CSem) (E : zx) (C0 : CSem) (fL : Nat) (f1 f2 : Nat) (Q : AVal → za → Prop) (v0 v1 v8 v9 v10 : AVal) (h : za) : Prop :=
 B.pv (V.bin .quo v8 (.int .i64 4)) fun v24 =>
  B.pv (V.bin .mul v24 (.int .i64 2)) fun v25 =>
  B.pv (V.bin .add v1 v25) fun v26 =>
  B.pv (V.bin .sub v26 (.int .i64 1)) fun v27 =>
  zm (zy.l5 C E C0 fL f1 f2 Q v0 v1 v8 v9 v10) [v27] h
@[simp] def zy.k7 (C : CSem) (E : zx) (C0 : CSem) (fL : Nat) (f1 f2 : Nat) (Q : AVal → za → Prop) (v0 v1 v8 : AVal) (h : za) : Prop :=
 B.pv (V.toInt .u64 v8) fun v19 =>
  B.newO h (some [.int .u64 0]) fun i9 h =>
  B.st h (.ptr i9 0 0) v19 fun h =>
  B.call C0 f2 [v8] h fun v21 h =>
  zy.k6 C E C0 fL f1 f2 Q v0 v1 v8 (.ptr i9 0 0) v21 h
@[simp] def zy.k8 (C : CSem) (E : zx) (C0 : CSem) (fL : Nat) (f1 f2 : Nat) (Q : AVal → za → Prop) (v0 v1 v2 : AVal) (h : za) : Prop :=
 B.pv (V.bin .sub v2 v1) fun v15 =>
  B.pv (V.bin .geq v15 (.int .i64 8)) fun v17 =>
  B.cond v17 (zy.k7 C E C0 fL f1 f2 Q v0 v1 v15 h) (Q (.tup []) h)
@[simp] def zy.cps (C : CSem) (E : zx) (C0 : CSem) (fL : Nat) (f1 f2 : Nat) (v0 v1 v2 v3 : AVal) (h : za) (Q : AVal → za → Prop) : Prop :=
 zy.k8 C E C0 fL f1 f2 Q v0 v1 v2 h
@[simp] def z9.k1 (C : CSem) (E : zx) (C0 : CSem) (fL : Nat) (f1 f2 : Nat) (Q : AVal → za → Prop) (v11 v13 : AVal) (h : za) : Prop :=
 B.ld h v11 fun v55 =>
  B.pv (V.bin .eql v55 (.int .i64 0)) fun v58 =>
  B.cond v58
  (Q (.tup [v13, (.int .i64 1)]) h)
  (B.pv (V.bin .eql v55 (.int .i64 12)) fun v61 =>
  B.cond v61
  (Q (.tup [v13, (.int .i64 2)]) h)
  (Q (.tup [v13, (.int .i64 0)]) h))
@[simp] def z9.k2 (C : CSem) (E : zx) (C0 : CSem) (fL : Nat) (f1 f2 : Nat) (Q : AVal → za → Prop) (v0 v3 v10 v11 v12 v13 v14 : AVal) (h : za) : Prop :=
 B.pv (V.bin .geq v10 (.int .i64 50)) fun v36 =>
  B.cond v36
  (B.call C f2 [v0, v12, v11, v3] h fun v40 h =>
  B.call C f2 [v0, v13, v11, v3] h fun v44 h =>
  B.call C f2 [v0, v14, v11, v3] h fun v48 h =>
  B.call C f1 [v0, v40, v44, v48, v11, v3] h fun v54 h =>
  z9.k1 C E C0 fL f1 f2 Q v11 v54 h)
  (B.call C f1 [v0, v12, v13, v14, v11, v3] h fun v54 h =>
  z9.k1 C E C0 fL f1 f2 Q v11 v54 h)
@[simp] def z9.k3 (C : CSem) (E : zx) (C0 : CSem) (fL : Nat) (f1 f2 : Nat) (Q : AVal → za → Prop) (v0 v3 v10 v11 v12 v13 v14 : AVal) (h : za) : Prop :=
 B.pv (V.bin .geq v10 (.int .i64 8)) fun v34 =>
  B.cond v34 (z9.k2 C E C0 fL f1 f2 Q v0 v3 v10 v11 v12 v13 v14 h) (z9.k1 C E C0 fL f1 f2 Q v11 v13 h)
@[simp] def z9.k4 (C : CSem) (E : zx) (C0 : CSem) (fL : Nat) (f1 f2 : Nat) (Q : AVal → za → Prop) (v0 v1 v3 v10 v11 v12 v13 : AVal) (h : za) : Prop :=
 B.pv (V.bin .quo v10 (.int .i64 4)) fun v30 =>
  B.pv (V.bin .mul v30 (.int .i64 3)) fun v31 =>
  B.pv (V.bin .add v1 v31) fun v32 =>
  z9.k3 C E C0 fL f1 f2 Q v0 v3 v10 v11 v12 v13 v32 h
@[simp] def z9.k5 (C : CSem) (E : zx) (C0 : CSem) (fL : Nat) (f1 f2 : Nat) (Q : AVal → za → Prop) (v0 v1 v3 v10 v11 v12 : AVal) (h : za) : Prop :=
 B.pv (V.bin .quo v10 (.int .i64 4)) fun v25 =>
  B.pv (V.bin .mul v25 (.int .i64 2)) fun v26 =>
  B.pv (V.bin .add v1 v26) fun v27 =>
  z9.k4 C E C0 fL f1 f2 Q v0 v1 v3 v10 v11 v12 v27 h
@[simp] def z9.k6 (C : CSem) (E : zx) (C0 : CSem) (fL : Nat) (f1 f2 : Nat) (Q : AVal → za → Prop) (v0 v1 v3 v10 v11 : AVal) (h : za) : Prop :=
 B.pv (V.bin .quo v10 (.int .i64 4)) fun v20 =>
  B.pv (V.bin .mul v20 (.int .i64 1)) fun v21 =>
  B.pv (V.bin .add v1 v21) fun v22 =>
  z9.k5 C E C0 fL f1 f2 Q v0 v1 v3 v10 v11 v22 h
@[simp] def z9.cps (C : CSem) (E : zx) (C0 : CSem) (fL : Nat) (f1 f2 : Nat) (v0 v1 v2 v3 : AVal) (h : za) (Q : AVal → za → Prop) : Prop :=
 B.pv (V.bin .sub v2 v1) fun v17 =>
  B.newO h (some [.int .i64 0]) fun i11 h =>
  z9.k6 C E C0 fL f1 f2 Q v0 v1 v3 v17 (.ptr i11 0 0) h
@[simp] def zdu.k1 (C : CSem) (E : zx) (C0 : CSem) (fL : Nat) (Q : AVal → za → Prop) (Y1 : List AVal → za → Prop) (v0 v8 v9 : AVal) (h : za) : Prop :=
 B.pv (V.bin .lss v8 v9) fun v15 =>
  B.cond v15
  (B.pv (V.idxS E.es v0 v9) fun v22 =>
  E.ld h v22 fun v23 =>
  B.pv (V.idxS E.es v0 v8) fun v26 =>
  E.ld h v26 fun v27 =>
  B.pv (V.idxS E.es v0 v8) fun v28 =>
  E.st h v28 v23 fun h =>
  B.pv (V.idxS E.es v0 v9) fun v29 =>
  E.st h v29 v27 fun h =>
  B.pv (V.bin .add v8 (.int .i64 1)) fun v31 =>
  B.pv (V.bin .sub v9 (.int .i64 1)) fun v33 =>
  Y1 [v31, v33] h)
  (Q (.tup []) h)
@[simp] def zdu.l2 (C : CSem) (E : zx) (C0 : CSem) (fL : Nat) (Q : AVal → za → Prop) (v0 : AVal) : List AVal → za → (List AVal → za → Prop) → Prop
 | [v8, v9], h, Y1 => zdu.k1 C E C0 fL Q Y1 v0 v8 v9 h
 | _, _, _ => False
@[simp] def zdu.cps (C : CSem) (E : zx) (C0 : CSem) (fL : Nat) (v0 v1 v2 v3 : AVal) (h : za) (Q : AVal → za → Prop) : Prop :=
 B.pv (V.bin .sub v2 (.int .i64 1)) fun v12 =>
  zm (zdu.l2 C E C0 fL Q v0) [v1, v12] h
@[simp] def zf.k1 (C : CSem) (E : zx) (C0 : CSem) (fL : Nat) (Q : AVal → za → Prop) (Y1 : List AVal → za → Prop) (Y2 : List AVal → za → Prop) (v0 v1 v2 v3 v9 v10 v12 : AVal) (h : za) : Prop :=
 B.pv (V.bin .lss v12 v2) fun v109 =>
  B.cond v109
  (B.pv (V.idxS E.es v0 v12) fun v115 =>
  E.ld h v115 fun v116 =>
  B.pv (V.bin .sub v12 (.int .i64 1)) fun v119 =>
  B.pv (V.idxS E.es v0 v119) fun v120 =>
  E.ld h v120 fun v121 =>
  B.call C0 fL [v116, v121] h fun v123 h =>
  B.pv (V.un .not v123) fun v124 =>
  B.cond v124
  (B.pv (V.bin .add v10 (.int .i64 1)) fun v18 =>
  Y1 [v9, v18] h)
  (B.pv (V.bin .sub v12 (.int .i64 1)) fun v129 =>
  B.pv (V.bin .sub v12 (.int .i64 1)) fun v132 =>
  B.pv (V.idxS E.es v0 v132) fun v133 =>
  E.ld h v133 fun v134 =>
  B.pv (V.idxS E.es v0 v12) fun v137 =>
  E.ld h v137 fun v138 =>
  B.pv (V.idxS E.es v0 v12) fun v139 =>
  E.st h v139 v134 fun h =>
  B.pv (V.idxS E.es v0 v129) fun v140 =>
  E.st h v140 v138 fun h =>
  B.pv (V.bin .add v12 (.int .i64 1)) fun v111 =>
  Y2 [v111] h))
  (B.pv (V.bin .add v10 (.int .i64 1)) fun v18 =>
  Y1 [v9, v18] h)
@[simp] def zf.l2 (C : CSem) (E : zx) (C0 : CSem) (fL : Nat) (Q : AVal → za → Prop) (Y1 : List AVal → za → Prop) (v0 v1 v2 v3 v9 v10 : AVal) : List AVal → za → (List AVal → za → Prop) → Prop
 | [v12], h, Y2 => zf.k1 C E C0 fL Q Y1 Y2 v0 v1 v2 v3 v9 v10 v12 h
 | _, _, _ => False
@[simp] def zf.k3 (C : CSem) (E : zx) (C0 : CSem) (fL : Nat) (Q : AVal → za → Prop) (Y1 : List AVal → za → Prop) (v0 v1 v2 v3 v9 v10 : AVal) (h : za) : Prop :=
 B.pv (V.bin .sub v2 v9) fun v103 =>
  B.pv (V.bin .geq v103 (.int .i64 2)) fun v104 =>
  B.cond v104 (B.pv (V.bin .add v9 (.int .i64 1)) fun v106 =>
  zm (zf.l2 C E C0 fL Q Y1 v0 v1 v2 v3 v9 v10) [v106] h) (B.pv (V.bin .add v10 (.int .i64 1)) fun v18 =>
  Y1 [v9, v18] h)
@[simp] def zf.k4 (C : CSem) (E : zx) (C0 : CSem) (fL : Nat) (Q : AVal → za → Prop) (Y1 : List AVal → za → Prop) (Y3 : List AVal → za → Prop) (v0 v1 v2 v3 v9 v10 v11 : AVal) (h : za) : Prop :=
 B.pv (V.bin .geq v11 (.int .i64 1)) fun v69 =>
  B.cond v69
  (B.pv (V.idxS E.es v0 v11) fun v75 =>
  E.ld h v75 fun v76 =>
  B.pv (V.bin .sub v11 (.int .i64 1)) fun v79 =>
  B.pv (V.idxS E.es v0 v79) fun v80 =>
  E.ld h v80 fun v81 =>
  B.call C0 fL [v76, v81] h fun v83 h =>
  B.pv (V.un .not v83) fun v84 =>
  B.cond v84
  (zf.k3 C E C0 fL Q Y1 v0 v1 v2 v3 v9 v10 h)
  (B.pv (V.bin .sub v11 (.int .i64 1)) fun v89 =>
  B.pv (V.bin .sub v11 (.int .i64 1)) fun v92 =>
  B.pv (V.idxS E.es v0 v92) fun v93 =>
  E.ld h v93 fun v94 =>
  B.pv (V.idxS E.es v0 v11) fun v97 =>
  E.ld h v97 fun v98 =>
  B.pv (V.idxS E.es v0 v11) fun v99 =>
  E.st h v99 v94 fun h =>
  B.pv (V.idxS E.es v0 v89) fun v100 =>
  E.st h v100 v98 fun h =>
  B.pv (V.bin .sub v11 (.int .i64 1)) fun v71 =>
  Y3 [v71] h))
  (zf.k3 C E C0 fL Q Y1 v0 v1 v2 v3 v9 v10 h)
@[simp] def zf.l5 (C : CSem) (E : zx) (C0 : CSem) (fL : Nat) (Q : AVal → za → Prop) (Y1 : List AVal → za → Prop) (v0 v1 v2 v3 v9 v10 : AVal) : List AVal → za → (List AVal → za → Prop) → Prop
 | [v11], h, Y3 => zf.k4 C E C0 fL Q Y1 Y3 v0 v1 v2 v3 v9 v10 v11 h
 | _, _, _ => False
@[simp] def zf.k6 (C : CSem) (E : zx) (C0 : CSem) (fL : Nat) (Q : AVal → za → Prop) (Y1 : List AVal → za → Prop) (v0 v1 v2 v3 v9 v10 : AVal) (h : za) : Prop :=
 B.pv (V.bin .sub v9 v1) fun v64 =>
  B.pv (V.bin .geq v64 (.int .i64 2)) fun v65 =>
  B.cond v65 (B.pv (V.bin .sub v9 (.int .i64 1)) fun v67 =>
  zm (zf.l5 C E C0 fL Q Y1 v0 v1 v2 v3 v9 v10) [v67] h) (zf.k3 C E C0 fL Q Y1 v0 v1 v2 v3 v9 v10 h)
@[simp] def zf.k7 (C : CSem) (E : zx) (C0 : CSem) (fL : Nat) (Q : AVal → za → Prop) (Y1 : List AVal → za → Prop) (v0 v1 v2 v3 v9 v10 : AVal) (h : za) : Prop :=
 B.pv (V.bin .sub v9 (.int .i64 1)) fun v50 =>
  B.pv (V.bin .sub v9 (.int .i64 1)) fun v53 =>
  B.pv (V.idxS E.es v0 v53) fun v54 =>
  E.ld h v54 fun v55 =>
  B.pv (V.idxS E.es v0 v9) fun v58 =>
  E.ld h v58 fun v59 =>
  B.pv (V.idxS E.es v0 v9) fun v60 =>
  E.st h v60 v55 fun h =>
  B.pv (V.idxS E.es v0 v50) fun v61 =>
  E.st h v61 v59 fun h =>
  zf.k6 C E C0 fL Q Y1 v0 v1 v2 v3 v9 v10 h
@[simp] def zf.k8 (C : CSem) (E : zx) (C0 : CSem) (fL : Nat) (Q : AVal → za → Prop) (Y1 : List AVal → za → Prop) (v0 v1 v2 v3 v9 v10 : AVal) (h : za) : Prop :=
 B.pv (V.bin .sub v2 v1) fun v44 =>
  B.pv (V.bin .lss v44 (.int .i64 50)) fun v45 =>
  B.cond v45
  (Q (.bool false) h)
  (zf.k7 C E C0 fL Q Y1 v0 v1 v2 v3 v9 v10 h)
@[simp] def zf.k9 (C : CSem) (E : zx) (C0 : CSem) (fL : Nat) (Q : AVal → za → Prop) (Y1 : List AVal → za → Prop) (Y4 : List AVal → za → Prop) (v0 v1 v2 v3 v9 v10 : AVal) (h : za) : Prop :=
 B.pv (V.bin .lss v9 v2) fun v21 =>
  B.gd h v21 true (fun K => K v0 h) fun v24 h =>
  B.gd h v21 true (fun K => K v9 h) fun v25 h =>
  B.gd h v21 true (fun K => B.pv (V.idxS E.es v24 v25) fun v => K v h) fun v26 h =>
  B.gd h v21 true (fun K => E.ld h v26 fun v => K v h) fun v27 h =>
  B.gd h v21 true (fun K => K v0 h) fun v28 h =>
  B.gd h v21 true (fun K => K v9 h) fun v29 h =>
  B.gd h v21 true (fun K => B.pv (V.bin .sub v29 (.int .i64 1)) fun v => K v h) fun v30 h =>
  B.gd h v21 true (fun K => B.pv (V.idxS E.es v28 v30) fun v => K v h) fun v31 h =>
  B.gd h v21 true (fun K => E.ld h v31 fun v => K v h) fun v32 h =>
  B.gd h v21 true (fun K => B.call C0 fL [v27, v32] h K) fun v34 h =>
  B.gd h v21 true (fun K => B.pv (V.un .not v34) fun v => K v h) fun v35 h =>
  B.pick v21 v35 (.bool false) fun v36 =>
  B.cond v36
  (B.pv (V.bin .add v9 (.int .i64 1)) fun v38 =>
  Y4 [v38] h)
  (B.pv (V.bin .eql v9 v2) fun v41 =>
  B.cond v41
  (Q (.bool true) h)
  (zf.k8 C E C0 fL Q Y1 v0 v1 v2 v3 v9 v10 h))
@[simp] def zf.l10 (C : CSem) (E : zx) (C0 : CSem) (fL : Nat) (Q : AVal → za → Prop) (Y1 : List AVal → za → Prop) (v0 v1 v2 v3 v10 : AVal) : List AVal → za → (List AVal → za → Prop) → Prop
 | [v9], h, Y4 => zf.k9 C E C0 fL Q Y1 Y4 v0 v1 v2 v3 v9 v10 h
 | _, _, _ => False
@[simp] def zf.k11 (C : CSem) (E : zx) (C0 : CSem) (fL : Nat) (Q : AVal → za → Prop) (Y1 : List AVal → za → Prop) (v0 v1 v2 v3 v9 v10 : AVal) (h : za) : Prop :=
 B.pv (V.bin .lss v10 (.int .i64 5)) fun v16 =>
  B.cond v16
  (zm (zf.l10 C E C0 fL Q Y1 v0 v1 v2 v3 v10) [v9] h)
  (Q (.bool false) h)
@[simp] def zf.l12 (C : CSem) (E : zx) (C0 : CSem) (fL : Nat) (Q : AVal → za → Prop) (v0 v1 v2 v3 : AVal) : List AVal → za → (List AVal → za → Prop) → Prop
 | [v9, v10], h, Y1 => zf.k11 C E C0 fL Q Y1 v0 v1 v2 v3 v9 v10 h
 | _, _, _ => False
@[simp] def zf.cps (C : CSem) (E : zx) (C0 : CSem) (fL : Nat) (v0 v1 v2 v3 : AVal) (h : za) (Q : AVal → za → Prop) : Prop :=
 B.pv (V.bin .add v1 (.int .i64 1)) fun v14 =>
  zm (zf.l12 C E C0 fL Q v0 v1 v2 v3) [v14, (.int .i64 0)] h
@[simp] def zt.k1 (C : CSem) (E : zx) (C0 : CSem) (fL : Nat) (Q : AVal → za → Prop) (Y1 : List AVal → za → Prop) (v0 v1 v4 v11 v12 : AVal) (h : za) : Prop :=
 B.pv (V.bin .gtr v11 v12) fun v70 =>
  B.cond v70
  (Q v11 h)
  (B.pv (V.idxS E.es v0 v12) fun v77 =>
  E.ld h v77 fun v78 =>
  B.pv (V.idxS E.es v0 v11) fun v81 =>
  E.ld h v81 fun v82 =>
  B.pv (V.idxS E.es v0 v11) fun v83 =>
  E.st h v83 v78 fun h =>
  B.pv (V.idxS E.es v0 v12) fun v84 =>
  E.st h v84 v82 fun h =>
  B.pv (V.bin .add v11 (.int .i64 1)) fun v86 =>
  B.pv (V.bin .sub v12 (.int .i64 1)) fun v88 =>
  Y1 [v86, v88] h)
@[simp] def zt.k2 (C : CSem) (E : zx) (C0 : CSem) (fL : Nat) (Q : AVal → za → Prop) (Y1 : List AVal → za → Prop) (Y2 : List AVal → za → Prop) (v0 v1 v4 v11 v12 : AVal) (h : za) : Prop :=
 B.pv (V.bin .leq v11 v12) fun v52 =>
  B.gd h v52 true (fun K => K v0 h) fun v55 h =>
  B.gd h v52 true (fun K => K v1 h) fun v56 h =>
  B.gd h v52 true (fun K => B.pv (V.idxS E.es v55 v56) fun v => K v h) fun v57 h =>
  B.gd h v52 true (fun K => E.ld h v57 fun v => K v h) fun v58 h =>
  B.gd h v52 true (fun K => K v0 h) fun v59 h =>
  B.gd h v52 true (fun K => K v12 h) fun v60 h =>
  B.gd h v52 true (fun K => B.pv (V.idxS E.es v59 v60) fun v => K v h) fun v61 h =>
  B.gd h v52 true (fun K => E.ld h v61 fun v => K v h) fun v62 h =>
  B.gd h v52 true (fun K => B.call C0 fL [v58, v62] h K) fun v64 h =>
  B.pick v52 v64 (.bool false) fun v65 =>
  B.cond v65
  (B.pv (V.bin .sub v12 (.int .i64 1)) fun v67 =>
  Y2 [v67] h)
  (zt.k1 C E C0 fL Q Y1 v0 v1 v4 v11 v12 h)
@[simp] def zt.l3 (C : CSem) (E : zx) (C0 : CSem) (fL : Nat) (Q : AVal → za → Prop) (Y1 : List AVal → za → Prop) (v0 v1 v4 v11 : AVal) : List AVal → za → (List AVal → za → Prop) → Prop
 | [v12], h, Y2 => zt.k2 C E C0 fL Q Y1 Y2 v0 v1 v4 v11 v12 h
 | _, _, _ => False
@[simp] def zt.k4 (C : CSem) (E : zx) (C0 : CSem) (fL : Nat) (Q : AVal → za → Prop) (Y1 : List AVal → za → Prop) (Y3 : List AVal → za → Prop) (v0 v1 v4 v11 v12 : AVal) (h : za) : Prop :=
 B.pv (V.bin .leq v11 v12) fun v33 =>
  B.gd h v33 true (fun K => K v0 h) fun v36 h =>
  B.gd h v33 true (fun K => K v1 h) fun v37 h =>
  B.gd h v33 true (fun K => B.pv (V.idxS E.es v36 v37) fun v => K v h) fun v38 h =>
  B.gd h v33 true (fun K => E.ld h v38 fun v => K v h) fun v39 h =>
  B.gd h v33 true (fun K => K v0 h) fun v40 h =>
  B.gd h v33 true (fun K => K v11 h) fun v41 h =>
  B.gd h v33 true (fun K => B.pv (V.idxS E.es v40 v41) fun v => K v h) fun v42 h =>
  B.gd h v33 true (fun K => E.ld h v42 fun v => K v h) fun v43 h =>
  B.gd h v33 true (fun K => B.call C0 fL [v39, v43] h K) fun v45 h =>
  B.gd h v33 true (fun K => B.pv (V.un .not v45) fun v => K v h) fun v46 h =>
  B.pick v33 v46 (.bool false) fun v47 =>
  B.cond v47
  (B.pv (V.bin .add v11 (.int .i64 1)) fun v49 =>
  Y3 [v49] h)
  (zm (zt.l3 C E C0 fL Q Y1 v0 v1 v4 v11) [v12] h)
@[simp] def zt.l5 (C : CSem) (E : zx) (C0 : CSem) (fL : Nat) (Q : AVal → za → Prop) (Y1 : List AVal → za → Prop) (v0 v1 v4 v12 : AVal) : List AVal → za → (List AVal → za → Prop) → Prop
 | [v11], h, Y3 => zt.k4 C E C0 fL Q Y1 Y3 v0 v1 v4 v11 v12 h
 | _, _, _ => False
@[simp] def zt.l6 (C : CSem) (E : zx) (C0 : CSem) (fL : Nat) (Q : AVal → za → Prop) (v0 v1 v4 : AVal) : List AVal → za → (List AVal → za → Prop) → Prop
 | [v11, v12], h, Y1 => zm (zt.l5 C E C0 fL Q Y1 v0 v1 v4 v12) [v11] h
 | _, _, _ => False
@[simp] def zt.k7 (C : CSem) (E : zx) (C0 : CSem) (fL : Nat) (Q : AVal → za → Prop) (v0 v1 v2 v4 : AVal) (h : za) : Prop :=
 B.pv (V.bin .add v1 (.int .i64 1)) fun v28 =>
  B.pv (V.bin .sub v2 (.int .i64 1)) fun v30 =>
  zm (zt.l6 C E C0 fL Q v0 v1 v4) [v28, v30] h
@[simp] def zt.k8 (C : CSem) (E : zx) (C0 : CSem) (fL : Nat) (Q : AVal → za → Prop) (v0 v1 v2 v3 v4 : AVal) (h : za) : Prop :=
 B.pv (V.idxS E.es v0 v3) fun v19 =>
  E.ld h v19 fun v20 =>
  B.pv (V.idxS E.es v0 v1) fun v23 =>
  E.ld h v23 fun v24 =>
  B.pv (V.idxS E.es v0 v1) fun v25 =>
  E.st h v25 v20 fun h =>
  B.pv (V.idxS E.es v0 v3) fun v26 =>
  E.st h v26 v24 fun h =>
  zt.k7 C E C0 fL Q v0 v1 v2 v4 h
@[simp] def zt.cps (C : CSem) (E : zx) (C0 : CSem) (fL : Nat) (v0 v1 v2 v3 v4 : AVal) (h : za) (Q : AVal → za → Prop) : Prop :=
 zt.k8 C E C0 fL Q v0 v1 v2 v3 v4 h
@[simp] def zh.k1 (C : CSem) (E : zx) (C0 : CSem) (fL : Nat) (Q : AVal → za → Prop) (v0 v1 v13 : AVal) (h : za) : Prop :=
 B.pv (V.idxS E.es v0 v1) fun v169 =>
  E.ld h v169 fun v170 =>
  B.pv (V.idxS E.es v0 v13) fun v173 =>
  E.ld h v173 fun v174 =>
  B.pv (V.idxS E.es v0 v13) fun v175 =>
  E.st h v175 v170 fun h =>
  B.pv (V.idxS E.es v0 v1) fun v176 =>
  E.st h v176 v174 fun h =>
  Q (.tup [v13, (.bool false)]) h
@[simp] def zh.k2 (C : CSem) (E : zx) (C0 : CSem) (fL : Nat) (Q : AVal → za → Prop) (Y1 : List AVal → za → Prop) (v0 v1 v4 v12 v13 : AVal) (h : za) : Prop :=
 B.pv (V.bin .gtr v12 v13) fun v144 =>
  B.cond v144
  (zh.k1 C E C0 fL Q v0 v1 v13 h)
  (B.pv (V.idxS E.es v0 v13) fun v151 =>
  E.ld h v151 fun v152 =>
  B.pv (V.idxS E.es v0 v12) fun v155 =>
  E.ld h v155 fun v156 =>
  B.pv (V.idxS E.es v0 v12) fun v157 =>
  E.st h v157 v152 fun h =>
  B.pv (V.idxS E.es v0 v13) fun v158 =>
  E.st h v158 v156 fun h =>
  B.pv (V.bin .add v12 (.int .i64 1)) fun v160 =>
  B.pv (V.bin .sub v13 (.int .i64 1)) fun v162 =>
  Y1 [v160, v162] h)
@[simp] def zh.k3 (C : CSem) (E : zx) (C0 : CSem) (fL : Nat) (Q : AVal → za → Prop) (Y1 : List AVal → za → Prop) (Y2 : List AVal → za → Prop) (v0 v1 v4 v12 v13 : AVal) (h : za) : Prop :=
 B.pv (V.bin .leq v12 v13) fun v125 =>
  B.gd h v125 true (fun K => K v0 h) fun v128 h =>
  B.gd h v125 true (fun K => K v13 h) fun v129 h =>
  B.gd h v125 true (fun K => B.pv (V.idxS E.es v128 v129) fun v => K v h) fun v130 h =>
  B.gd h v125 true (fun K => E.ld h v130 fun v => K v h) fun v131 h =>
  B.gd h v125 true (fun K => K v0 h) fun v132 h =>
  B.gd h v125 true (fun K => K v1 h) fun v133 h =>
  B.gd h v125 true (fun K => B.pv (V.idxS E.es v132 v133) fun v => K v h) fun v134 h =>
  B.gd h v125 true (fun K => E.ld h v134 fun v => K v h) fun v135 h =>
  B.gd h v125 true (fun K => B.call C0 fL [v131, v135] h K) fun v137 h =>
  B.gd h v125 true (fun K => B.pv (V.un .not v137) fun v => K v h) fun v138 h =>
  B.pick v125 v138 (.bool false) fun v139 =>
  B.cond v139
  (B.pv (V.bin .sub v13 (.int .i64 1)) fun v141 =>
  Y2 [v141] h)
  (zh.k2 C E C0 fL Q Y1 v0 v1 v4 v12 v13 h)
@[simp] def zh.l4 (C : CSem) (E : zx) (C0 : CSem) (fL : Nat) (Q : AVal → za → Prop) (Y1 : List AVal → za → Prop) (v0 v1 v4 v12 : AVal) : List AVal → za → (List AVal → za → Prop) → Prop
 | [v13], h, Y2 => zh.k3 C E C0 fL Q Y1 Y2 v0 v1 v4 v12 v13 h
 | _, _, _ => False
@[simp] def zh.k5 (C : CSem) (E : zx) (C0 : CSem) (fL : Nat) (Q : AVal → za → Prop) (Y1 : List AVal → za → Prop) (Y3 : List AVal → za → Prop) (v0 v1 v4 v12 v13 : AVal) (h : za) : Prop :=
 B.pv (V.bin .leq v12 v13) fun v107 =>
  B.gd h v107 true (fun K => K v0 h) fun v110 h =>
  B.gd h v107 true (fun K => K v12 h) fun v111 h =>
  B.gd h v107 true (fun K => B.pv (V.idxS E.es v110 v111) fun v => K v h) fun v112 h =>
  B.gd h v107 true (fun K => E.ld h v112 fun v => K v h) fun v113 h =>
  B.gd h v107 true (fun K => K v0 h) fun v114 h =>
  B.gd h v107 true (fun K => K v1 h) fun v115 h =>
  B.gd h v107 true (fun K => B.pv (V.idxS E.es v114 v115) fun v => K v h) fun v116 h =>
  B.gd h v107 true (fun K => E.ld h v116 fun v => K v h) fun v117 h =>
  B.gd h v107 true (fun K => B.call C0 fL [v113, v117] h K) fun v119 h =>
  B.pick v107 v119 (.bool false) fun v120 =>
  B.cond v120
  (B.pv (V.bin .add v12 (.int .i64 1)) fun v122 =>
  Y3 [v122] h)
  (zm (zh.l4 C E C0 fL Q Y1 v0 v1 v4 v12) [v13] h)
@[simp] def zh.l6 (C : CSem) (E : zx) (C0 : CSem) (fL : Nat) (Q : AVal → za → Prop) (Y1 : List AVal → za → Prop) (v0 v1 v4 v13 : AVal) : List AVal → za → (List AVal → za → Prop) → Prop
 | [v12], h, Y3 => zh.k5 C E C0 fL Q Y1 Y3 v0 v1 v4 v12 v13 h
 | _, _, _ => False
@[simp] def zh.l7 (C : CSem) (E : zx) (C0 : CSem) (fL : Nat) (Q : AVal → za → Prop) (v0 v1 v4 : AVal) : List AVal → za → (List AVal → za → Prop) → Prop
 | [v12, v13], h, Y1 => zm (zh.l6 C E C0 fL Q Y1 v0 v1 v4 v13) [v12] h
 | _, _, _ => False
@[simp] def zh.k8 (C : CSem) (E : zx) (C0 : CSem) (fL : Nat) (Q : AVal → za → Prop) (v0 v1 v4 v12 v13 : AVal) (h : za) : Prop :=
 B.pv (V.bin .add v12 (.int .i64 1)) fun v102 =>
  B.pv (V.bin .sub v13 (.int .i64 1)) fun v104 =>
  zm (zh.l7 C E C0 fL Q v0 v1 v4) [v102, v104] h
@[simp] def zh.k9 (C : CSem) (E : zx) (C0 : CSem) (fL : Nat) (Q : AVal → za → Prop) (v0 v1 v4 v12 v13 : AVal) (h : za) : Prop :=
 B.pv (V.idxS E.es v0 v13) fun v93 =>
  E.ld h v93 fun v94 =>
  B.pv (V.idxS E.es v0 v12) fun v97 =>
  E.ld h v97 fun v98 =>
  B.pv (V.idxS E.es v0 v12) fun v99 =>
  E.st h v99 v94 fun h =>
  B.pv (V.idxS E.es v0 v13) fun v100 =>
  E.st h v100 v98 fun h =>
  zh.k8 C E C0 fL Q v0 v1 v4 v12 v13 h
@[simp] def zh.k10 (C : CSem) (E : zx) (C0 : CSem) (fL : Nat) (Q : AVal → za → Prop) (v0 v1 v4 v12 v13 : AVal) (h : za) : Prop :=
 B.pv (V.bin .gtr v12 v13) fun v71 =>
  B.cond v71
  (B.pv (V.idxS E.es v0 v1) fun v78 =>
  E.ld h v78 fun v79 =>
  B.pv (V.idxS E.es v0 v13) fun v82 =>
  E.ld h v82 fun v83 =>
  B.pv (V.idxS E.es v0 v13) fun v84 =>
  E.st h v84 v79 fun h =>
  B.pv (V.idxS E.es v0 v1) fun v85 =>
  E.st h v85 v83 fun h =>
  Q (.tup [v13, (.bool true)]) h)
  (zh.k9 C E C0 fL Q v0 v1 v4 v12 v13 h)
@[simp] def zh.k11 (C : CSem) (E : zx) (C0 : CSem) (fL : Nat) (Q : AVal → za → Prop) (Y4 : List AVal → za → Prop) (v0 v1 v4 v12 v13 : AVal) (h : za) : Prop :=
 B.pv (V.bin .leq v12 v13) fun v52 =>
  B.gd h v52 true (fun K => K v0 h) fun v55 h =>
  B.gd h v52 true (fun K => K v13 h) fun v56 h =>
  B.gd h v52 true (fun K => B.pv (V.idxS E.es v55 v56) fun v => K v h) fun v57 h =>
  B.gd h v52 true (fun K => E.ld h v57 fun v => K v h) fun v58 h =>
  B.gd h v52 true (fun K => K v0 h) fun v59 h =>
  B.gd h v52 true (fun K => K v1 h) fun v60 h =>
  B.gd h v52 true (fun K => B.pv (V.idxS E.es v59 v60) fun v => K v h) fun v61 h =>
  B.gd h v52 true (fun K => E.ld h v61 fun v => K v h) fun v62 h =>
  B.gd h v52 true (fun K => B.call C0 fL [v58, v62] h K) fun v64 h =>
  B.gd h v52 true (fun K => B.pv (V.un .not v64) fun v => K v h) fun v65 h =>
  B.pick v52 v65 (.bool false) fun v66 =>
  B.cond v66
  (B.pv (V.bin .sub v13 (.int .i64 1)) fun v68 =>
  Y4 [v68] h)
  (zh.k10 C E C0 fL Q v0 v1 v4 v12 v13 h)
@[simp] def zh.l12 (C : CSem) (E : zx) (C0 : CSem) (fL : Nat) (Q : AVal → za → Prop) (v0 v1 v4 v12 : AVal) : List AVal → za → (List AVal → za → Prop) → Prop
 | [v13], h, Y4 => zh.k11 C E C0 fL Q Y4 v0 v1 v4 v12 v13 h
 | _, _, _ => False
@[simp] def zh.k13 (C : CSem) (E : zx) (C0 : CSem) (fL : Nat) (Q : AVal → za → Prop) (Y5 : List AVal → za → Prop) (v0 v1 v4 v12 v13 : AVal) (h : za) : Prop :=
 B.pv (V.bin .leq v12 v13) fun v34 =>
  B.gd h v34 true (fun K => K v0 h) fun v37 h =>
  B.gd h v34 true (fun K => K v12 h) fun v38 h =>
  B.gd h v34 true (fun K => B.pv (V.idxS E.es v37 v38) fun v => K v h) fun v39 h =>
  B.gd h v34 true (fun K => E.ld h v39 fun v => K v h) fun v40 h =>
  B.gd h v34 true (fun K => K v0 h) fun v41 h =>
  B.gd h v34 true (fun K => K v1 h) fun v42 h =>
  B.gd h v34 true (fun K => B.pv (V.idxS E.es v41 v42) fun v => K v h) fun v43 h =>
  B.gd h v34 true (fun K => E.ld h v43 fun v => K v h) fun v44 h =>
  B.gd h v34 true (fun K => B.call C0 fL [v40, v44] h K) fun v46 h =>
  B.pick v34 v46 (.bool false) fun v47 =>
  B.cond v47
  (B.pv (V.bin .add v12 (.int .i64 1)) fun v49 =>
  Y5 [v49] h)
  (zm (zh.l12 C E C0 fL Q v0 v1 v4 v12) [v13] h)
@[simp] def zh.l14 (C : CSem) (E : zx) (C0 : CSem) (fL : Nat) (Q : AVal → za → Prop) (v0 v1 v4 v13 : AVal) : List AVal → za → (List AVal → za → Prop) → Prop
 | [v12], h, Y5 => zh.k13 C E C0 fL Q Y5 v0 v1 v4 v12 v13 h
 | _, _, _ => False
@[simp] def zh.k15 (C : CSem) (E : zx) (C0 : CSem) (fL : Nat) (Q : AVal → za → Prop) (v0 v1 v2 v4 : AVal) (h : za) : Prop :=
 B.pv (V.bin .add v1 (.int .i64 1)) fun v29 =>
  B.pv (V.bin .sub v2 (.int .i64 1)) fun v31 =>
  zm (zh.l14 C E C0 fL Q v0 v1 v4 v31) [v29] h
@[simp] def zh.k16 (C : CSem) (E : zx) (C0 : CSem) (fL : Nat) (Q : AVal → za → Prop) (v0 v1 v2 v3 v4 : AVal) (h : za) : Prop :=
 B.pv (V.idxS E.es v0 v3) fun v20 =>
  E.ld h v20 fun v21 =>
  B.pv (V.idxS E.es v0 v1) fun v24 =>
  E.ld h v24 fun v25 =>
  B.pv (V.idxS E.es v0 v1) fun v26 =>
  E.st h v26 v21 fun h =>
  B.pv (V.idxS E.es v0 v3) fun v27 =>
  E.st h v27 v25 fun h =>
  zh.k15 C E C0 fL Q v0 v1 v2 v4 h
@[simp] def zh.cps (C : CSem) (E : zx) (C0 : CSem) (fL : Nat) (v0 v1 v2 v3 v4 : AVal) (h : za) (Q : AVal → za → Prop) : Prop :=
 zh.k16 C E C0 fL Q v0 v1 v2 v3 v4 h
@[simp] def zct.k1 (C : CSem) (E : zx) (C0 : CSem) (fL : Nat) (Q : AVal → za → Prop) (Y1 : List AVal → za → Prop) (v0 v2 v3 v4 v10 v11 : AVal) (h : za) : Prop :=
 B.pv (V.bin .add v3 v10) fun v47 =>
  B.pv (V.idxS E.es v0 v47) fun v48 =>
  E.ld h v48 fun v49 =>
  B.pv (V.bin .add v3 v11) fun v53 =>
  B.pv (V.idxS E.es v0 v53) fun v54 =>
  E.ld h v54 fun v55 =>
  B.call C0 fL [v49, v55] h fun v57 h =>
  B.pv (V.un .not v57) fun v58 =>
  B.cond v58
  (Q (.tup []) h)
  (B.pv (V.bin .add v3 v10) fun v62 =>
  B.pv (V.bin .add v3 v11) fun v66 =>
  B.pv (V.bin .add v3 v11) fun v70 =>
  B.pv (V.idxS E.es v0 v70) fun v71 =>
  E.ld h v71 fun v72 =>
  B.pv (V.bin .add v3 v10) fun v76 =>
  B.pv (V.idxS E.es v0 v76) fun v77 =>
  E.ld h v77 fun v78 =>
  B.pv (V.idxS E.es v0 v62) fun v79 =>
  E.st h v79 v72 fun h =>
  B.pv (V.idxS E.es v0 v66) fun v80 =>
  E.st h v80 v78 fun h =>
  Y1 [v11] h)
@[simp] def zct.k2 (C : CSem) (E : zx) (C0 : CSem) (fL : Nat) (Q : AVal → za → Prop) (Y1 : List AVal → za → Prop) (v0 v2 v3 v4 v10 v11 : AVal) (h : za) : Prop :=
 B.pv (V.bin .add v11 (.int .i64 1)) fun v20 =>
  B.pv (V.bin .lss v20 v2) fun v22 =>
  B.gd h v22 true (fun K => K v0 h) fun v25 h =>
  B.gd h v22 true (fun K => K v3 h) fun v26 h =>
  B.gd h v22 true (fun K => K v11 h) fun v27 h =>
  B.gd h v22 true (fun K => B.pv (V.bin .add v26 v27) fun v => K v h) fun v28 h =>
  B.gd h v22 true (fun K => B.pv (V.idxS E.es v25 v28) fun v => K v h) fun v29 h =>
  B.gd h v22 true (fun K => E.ld h v29 fun v => K v h) fun v30 h =>
  B.gd h v22 true (fun K => K v0 h) fun v31 h =>
  B.gd h v22 true (fun K => K v3 h) fun v32 h =>
  B.gd h v22 true (fun K => K v11 h) fun v33 h =>
  B.gd h v22 true (fun K => B.pv (V.bin .add v32 v33) fun v => K v h) fun v34 h =>
  B.gd h v22 true (fun K => B.pv (V.bin .add v34 (.int .i64 1)) fun v => K v h) fun v35 h =>
  B.gd h v22 true (fun K => B.pv (V.idxS E.es v31 v35) fun v => K v h) fun v36 h =>
  B.gd h v22 true (fun K => E.ld h v36 fun v => K v h) fun v37 h =>
  B.gd h v22 true (fun K => B.call C0 fL [v30, v37] h K) fun v39 h =>
  B.pick v22 v39 (.bool false) fun v40 =>
  B.cond v40
  (B.pv (V.bin .add v11 (.int .i64 1)) fun v42 =>
  zct.k1 C E C0 fL Q Y1 v0 v2 v3 v4 v10 v42 h)
  (zct.k1 C E C0 fL Q Y1 v0 v2 v3 v4 v10 v11 h)
@[simp] def zct.k3 (C : CSem) (E : zx) (C0 : CSem) (fL : Nat) (Q : AVal → za → Prop) (Y1 : List AVal → za → Prop) (v0 v2 v3 v4 v10 : AVal) (h : za) : Prop :=
 B.pv (V.bin .mul (.int .i64 2) v10) fun v14 =>
  B.pv (V.bin .add v14 (.int .i64 1)) fun v15 =>
  B.pv (V.bin .geq v15 v2) fun v18 =>
  B.cond v18
  (Q (.tup []) h)
  (zct.k2 C E C0 fL Q Y1 v0 v2 v3 v4 v10 v15 h)
@[simp] def zct.l4 (C : CSem) (E : zx) (C0 : CSem) (fL : Nat) (Q : AVal → za → Prop) (v0 v2 v3 v4 : AVal) : List AVal → za → (List AVal → za → Prop) → Prop
 | [v10], h, Y1 => zct.k3 C E C0 fL Q Y1 v0 v2 v3 v4 v10 h
 | _, _, _ => False
@[simp] def zct.cps (C : CSem) (E : zx) (C0 : CSem) (fL : Nat) (v0 v1 v2 v3 v4 : AVal) (h : za) (Q : AVal → za → Prop) : Prop :=
 zm (zct.l4 C E C0 fL Q v0 v2 v3 v4) [v1] h
@[simp] def zef.k1 (C : CSem) (E : zx) (C0 : CSem) (fL : Nat) (f1 : Nat) (Q : AVal → za → Prop) (v0 v1 v2 v3 : AVal) (h : za) : Prop :=
 B.pv (V.bin .sub v1 (.int .i64 1)) fun v11 =>
  B.pv (V.bin .add v1 (.int .i64 1)) fun v14 =>
  B.call C f1 [v0, v11, v1, v14, v2, v3] h fun v17 h =>
  Q v17 h
@[simp] def zef.cps (C : CSem) (E : zx) (C0 : CSem) (fL : Nat) (f1 : Nat) (v0 v1 v2 v3 : AVal) (h : za) (Q : AVal → za → Prop) : Prop :=
 zef.k1 C E C0 fL f1 Q v0 v1 v2 v3 h
@[simp] def zfr.k1 (C : CSem) (E : zx) (C0 : CSem) (fL : Nat) (f1 : Nat) (Q : AVal → za → Prop) (v0 v1 v2 v3 v4 v5 : AVal) (h : za) : Prop :=
 B.call C f1 [v0, v1, v2, v4, v5] h fun v19 h =>
  B.pv (V.ext 0 v19) fun v20 =>
  B.pv (V.ext 1 v19) fun v21 =>
  B.call C f1 [v0, v21, v3, v4, v5] h fun v28 h =>
  B.pv (V.ext 0 v28) fun v29 =>
  B.pv (V.ext 1 v28) fun v30 =>
  B.call C f1 [v0, v20, v29, v4, v5] h fun v37 h =>
  B.pv (V.ext 0 v37) fun v38 =>
  B.pv (V.ext 1 v37) fun v39 =>
  Q v39 h
@[simp] def zfr.cps (C : CSem) (E : zx) (C0 : CSem) (fL : Nat) (f1 : Nat) (v0 v1 v2 v3 v4 v5 : AVal) (h : za) (Q : AVal → za → Prop) : Prop :=
 zfr.k1 C E C0 fL f1 Q v0 v1 v2 v3 v4 v5 h
@[simp] def zfq.k1 (C : CSem) (E : zx) (C0 : CSem) (fL : Nat) (Q : AVal → za → Prop) (v0 v1 v2 v3 v4 : AVal) (h : za) : Prop :=
 B.pv (V.idxS E.es v0 v2) fun v15 =>
  E.ld h v15 fun v16 =>
  B.pv (V.idxS E.es v0 v1) fun v19 =>
  E.ld h v19 fun v20 =>
  B.call C0 fL [v16, v20] h fun v22 h =>
  B.cond v22
  (B.nilCheck v3 fun v24 =>
  B.ld h v24 fun v25 =>
  B.pv (V.bin .add v25 (.int .i64 1)) fun v26 =>
  B.nilCheck v3 fun v27 =>
  B.st h v27 v26 fun h =>
  Q (.tup [v2, v1]) h)
  (Q (.tup [v1, v2]) h)
@[simp] def zfq.cps (C : CSem) (E : zx) (C0 : CSem) (fL : Nat) (v0 v1 v2 v3 v4 : AVal) (h : za) (Q : AVal → za → Prop) : Prop :=
 zfq.k1 C E C0 fL Q v0 v1 v2 v3 v4 h
end Go.Ab
namespace Go.Ab
structure Weak {T : Type} (less : T → T → Bool) : Prop where
 asym : ∀ {a b}, less a b = true → less b a = false
 zmm : ∀ {a b c}, less a b = false → less b c = false → less a c = false
section
variable {T : Type} {less : T → T → Bool}
theorem Weak.irr (W : Weak less) (a : T) : less a a = false := by
 cases h : less a a with
 | false => rfl
 | true => have := W.asym h; rw [h] at this; cases this
theorem Weak.trans (W : Weak less) {a b c : T} (h1 : less a b = true) (h2 : less b c = true) : less a c = true := by
 cases h : less a c with
 | true => rfl
 | false => have := W.zmm h (W.asym h2); rw [h1] at this; cases this
def lt' (less : T → T → Bool) (x y : T × Nat) : Prop := less x.1 y.1 = true ∨ (less y.1 x.1 = false ∧ x.2 < y.2)
theorem zhl (W : Weak less) {x y z : T × Nat} (h1 : lt' less x y) (h2 : lt' less y z) : lt' less x z := by
 unfold lt' at *
 rcases h1 with h1 | ⟨h1, n1⟩ <;> rcases h2 with h2 | ⟨h2, n2⟩
 ·exact .inl (W.trans h1 h2)
 ·left
  cases h : less x.1 z.1 with
  | true => rfl
  | false => have := W.zmm h h2; rw [h1] at this; cases this
 ·left
  cases h : less x.1 z.1 with
  | true => rfl
  | false => have := W.zmm h1 h; rw [h2] at this; cases this
 ·exact .inr ⟨W.zmm h2 h1, by omega⟩
theorem lt'_asym (W : Weak less) {x y : T × Nat} (h1 : lt' less x y) (h2 : lt' less y x) : False := by
 have := zhl W h1 h2
 unfold lt' at this
 rcases this with h | ⟨_, h⟩
 ·rw [W.irr] at h; cases h
 ·omega
theorem lt'_gt {x y : T × Nat} (hn : y.2 < x.2) : lt' less x y ↔ less x.1 y.1 = true := ⟨fun h => h.elim id fun ⟨_, h⟩ => by omega, .inl⟩
theorem zs8 (W : Weak less) {x y : T × Nat} (hn : x.2 < y.2) : lt' less x y ↔ less y.1 x.1 = false :=
 ⟨fun h => h.elim (fun h => W.asym h) fun ⟨h, _⟩ => h, fun h => .inr ⟨h, hn⟩⟩
def zf5 (less : T → T → Bool) (L S : List T) : Prop := ∃ G : List (T × Nat), G.map (·.1) = S ∧ G.Perm L.zipIdx ∧ G.Pairwise (lt' less)
theorem zf5.unique (W : Weak less) {L S S' : List T} (h : zf5 less L S) (k : zf5 less L S') : S = S' := by
 obtain ⟨G, rfl, p, s⟩ := h
 obtain ⟨H, rfl, q, t⟩ := k
 have := List.Perm.eq_of_pairwise (le := lt' less) (fun a b _ _ h1 h2 => (lt'_asym W h1 h2).elim) s t (p.trans q.symm)
 rw [this]
theorem zf5.perm {L S : List T} (h : zf5 less L S) : S.Perm L := by
 obtain ⟨G, rfl, p, _⟩ := h
 have := p.map (·.1)
 simpa using this
theorem zf5.sorted (W : Weak less) {L S : List T} (h : zf5 less L S) : S.Pairwise fun a b => less b a = false := by
 obtain ⟨G, rfl, _, s⟩ := h
 rw [List.pairwise_map]
 exact s.imp fun h => h.elim (fun h => W.asym h) fun ⟨h, _⟩ => h
end
theorem zi4 {α : Type} {L : List α} (h : L.Nodup) {i j : Nat} (hi : i < L.length) (hj : j < L.length) (e : L[i] = L[j]) : i = j := by
 have hp := List.pairwise_iff_getElem.1 h
 rcases Nat.lt_trichotomy i j with k | k | k
 ·exact absurd e (hp i j hi hj k)
 ·exact k
 ·exact absurd e.symm (hp j i hj hi k)
end Go.Ab
namespace Go.Ab
variable {C : CSem} {N : Nat → Nat}
theorem zpr {a b : Nat} (h : a + b < 4611686018427387904) : V.bin .add (.int .i64 (a : Int)) (.int .i64 (b : Int)) = some (.int .i64 ((a + b : Nat) : Int)) := by
 rw [V.znv, wrap_i64 (by omega) (by omega)]; simp
theorem add1 {a : Nat} (h : a < 4611686018427387904) : V.bin .add (.int .i64 (a : Int)) (.int .i64 1) = some (.int .i64 ((a + 1 : Nat) : Int)) := by
 rw [V.znv, wrap_i64 (by omega) (by omega)]; simp
theorem zla {a b : Nat} (h : b ≤ a) (ha : a < 4611686018427387904) : V.bin .sub (.int .i64 (a : Int)) (.int .i64 (b : Int)) = some (.int .i64 ((a - b : Nat) : Int)) := by
 rw [V.zf3, wrap_i64 (by omega) (by omega)]; congr 2; omega
theorem sub1 {a : Nat} (h : 1 ≤ a) (ha : a < 4611686018427387904) : V.bin .sub (.int .i64 (a : Int)) (.int .i64 1) = some (.int .i64 ((a - 1 : Nat) : Int)) := by
 rw [V.zf3, wrap_i64 (by omega) (by omega)]; congr 2; omega
theorem lssN {a b : Nat} : V.bin .lss (.int .i64 (a : Int)) (.int .i64 (b : Int)) = some (.bool (decide (a < b))) := by rw [V.zfx]; congr 3; exact propext (by omega)
theorem leqN {a b : Nat} : V.bin .leq (.int .i64 (a : Int)) (.int .i64 (b : Int)) = some (.bool (decide (a ≤ b))) := by rw [V.bin_leq]; congr 3; exact propext (by omega)
theorem gtrN {a b : Nat} : V.bin .gtr (.int .i64 (a : Int)) (.int .i64 (b : Int)) = some (.bool (decide (b < a))) := by rw [V.zsc]; congr 3; exact propext (by omega)
theorem neqN {a b : Nat} : V.bin .neq (.int .i64 (a : Int)) (.int .i64 (b : Int)) = some (.bool (!decide (a = b))) := by rw [V.bin_neq]; congr 4; exact propext (by omega)
theorem eql1 {a : Nat} : V.bin .eql (.int .i64 (a : Int)) (.int .i64 1) = some (.bool (decide (a = 1))) := by rw [V.zh0]; congr 3; exact propext (by omega)
structure zc6 (E : zx) {X : Type} (cs : X → List AVal) (v : X → AVal) : Prop where
 pos : 0 < E.es
 small : E.bytes ≤ 1000
 zlen : E.z.length = E.es
 len : ∀ t, (cs t).length = E.es
 new : ∀ t, zfu [(0, E.kp, v t)] (repL 1 E.z) = some (cs t)
 ld : ∀ {h : za} {x : AVal} {L R : List (List AVal)} {i : Nat} {t : X} {K : AVal → Prop}, SlX h E.es x L R → L[i]? = some (cs t) → K (v t) → E.ld h (elp E.es x i 0) K
 kpt : ∀ {h : za} {x : AVal} {L R : List (List AVal)} {i : Nat} {t : X}, SlX h E.es x L R → L[i]? = some (cs t) → Kp h (elp E.es x i 0) E.kp
 st : ∀ {h0 h : za} {x : AVal} {L R : List (List AVal)} {i : Nat} {c : List AVal} {t : X} {K : za → Prop}, Owns h0 h [.sl E.es x L R] → L[i]? = some c →
  (∀ h', Owns h0 h' [.sl E.es x (L.set i (cs t)) R] → K h') → E.st h (elp E.es x i 0) (v t) K
theorem zc6.comp {E : zx} {X Y : Type} {cs : X → List AVal} {v : X → AVal} (S : zc6 E cs v) (f : Y → X) : zc6 E (fun y => cs (f y)) (fun y => v (f y)) :=
 ⟨S.pos, S.small, S.zlen, fun t => S.len _, fun t => S.new _, fun h1 h2 h3 => S.ld h1 h2 h3, fun h1 h2 => S.kpt h1 h2, fun h1 h2 h3 => S.st h1 h2 h3⟩
theorem seqF {X : Type} {es bytes f : Nat} {z : List AVal} {sh : List Ck} {cs : X → List AVal} (hp : 0 < es) (hb : bytes ≤ 1000) (hz : z.length = es) (hl : ∀ t, (cs t).length = es) : zc6 (opsF es bytes z f sh) cs (fun t => .agg (cs t)) where
 pos := hp
 small := hb
 zlen := hz
 len := hl
 new t := by
  have hrep : repL 1 z = z := by unfold repL; split <;> simp
  have h1 := hl t
  show zfu [(0, some es, AVal.agg (cs t))] (repL 1 z) = _
  rw [hrep]
  simp [h1, hz]
 ld hs hc hk := by
  simp only [opsF, B.zod] at hs ⊢
  rw [hs.elem hc]; exact hk
 kpt hs hc := ⟨_, hs.elem hc⟩
 st ho hc hk := ho.stElem 0 rfl hc (hl _) fun h' h1 _ => hk h' h1
theorem seqS {X : Type} {bytes f : Nat} {z : AVal} {v : X → AVal} (hb : bytes ≤ 1000) (hc : ∀ t, (v t).zd1 = true) : zc6 (opsS bytes z f) (fun t => [v t]) v where
 pos := Nat.one_pos
 small := hb
 zlen := rfl
 len _ := rfl
 new t := by simp [opsS, hc, repL]
 ld hs hcc hk := by
  simp only [opsS, B.zic] at hs ⊢
  rw [hs.cell hcc]; exact hk
 kpt hs hcc := ⟨_, hs.cell hcc⟩
 st {h0 h x L R i c t K} ho hcc hk := by
  have hs : SlX h 1 x L R := ho.slAt 0 rfl
  have hcl : c.length = 1 := hs.len c (List.mem_append_left _ (List.mem_of_getElem? hcc))
  obtain ⟨u, rfl⟩ := List.length_eq_one_iff.1 hcl
  exact ho.st 0 rfl hcc (by show 0 < 1; omega) (hc _) fun h' h1 _ => hk h' h1
def Rw (E : zx) {X : Type} (cs : X → List AVal) (h0 h : za) (x : AVal) (G : List X) (R : List (List AVal)) : Prop := Owns h0 h [.sl E.es x (G.map cs) R]
section
variable {E : zx} {X : Type} {cs : X → List AVal} {v : X → AVal} {h0 h : za} {x : AVal} {G : List X} {R : List (List AVal)}
theorem Rw.idx (ho : Rw E cs h0 h x G R) {i : Nat} (hi : i < G.length) : V.idxS E.es x (.int .i64 (i : Int)) = some (elp E.es x i 0) := (Owns.slAt ho 0 rfl).idxN (by simpa using hi)
theorem Rw.lenE (ho : Rw E cs h0 h x G R) : V.zcj x = some (.int .i64 G.length) := by have := (Owns.slAt ho 0 rfl).zcj; simpa using this
theorem Rw.le (ho : Rw E cs h0 h x G R) : h0.le h := Owns.le ho
theorem Rw.ld (ho : Rw E cs h0 h x G R) (S : zc6 E cs v) {i : Nat} {t : X} (hg : G[i]? = some t) {K : AVal → Prop} (hk : K (v t)) : E.ld h (elp E.es x i 0) K :=
 S.ld (Owns.slAt ho 0 rfl) (by rw [List.getElem?_map, hg]; rfl) hk
theorem Rw.st (ho : Rw E cs h0 h x G R) (S : zc6 E cs v) {i : Nat} {t : X} (hi : i < G.length) {K : za → Prop} (hk : ∀ h', Rw E cs h0 h' x (G.set i t) R → K h') : E.st h (elp E.es x i 0) (v t) K :=
 S.st ho (c := cs G[i]) (by rw [List.getElem?_map, List.getElem?_eq_getElem hi]; rfl) fun h' h1 => hk h' (by unfold Rw; rwa [List.map_set])
theorem set_mid {P Q : List X} {a b : X} {i : Nat} (hi : i = P.length) : (P ++ a :: Q).set i b = P ++ b :: Q := by subst hi; simp
theorem zjx {P Q : List X} {a : X} {i : Nat} (hi : i = P.length) : (P ++ a :: Q)[i]? = some a := by subst hi; simp
theorem set_mid2 {P Q T : List X} {a b c : X} {j : Nat} (hj : j = P.length + 1 + Q.length) : (P ++ a :: (Q ++ b :: T)).set j c = P ++ a :: (Q ++ c :: T) := by
 have := set_mid (P := P ++ a :: Q) (Q := T) (a := b) (b := c) (i := j) (by simp; omega)
 simpa using this
theorem zoj {P Q T : List X} {a b : X} {j : Nat} (hj : j = P.length + 1 + Q.length) : (P ++ a :: (Q ++ b :: T))[j]? = some b := by
 have := zjx (P := P ++ a :: Q) (Q := T) (a := b) (i := j) (by simp; omega)
 simpa using this
theorem Rw.swapUp {P Q T : List X} {a b : X} {i j : Nat} (ho : Rw E cs h0 h x (P ++ a :: (Q ++ b :: T)) R) (S : zc6 E cs v) (hi : i = P.length) (hj : j = P.length + 1 + Q.length) {K : za → Prop}
  (hk : ∀ h', Rw E cs h0 h' x (P ++ b :: (Q ++ a :: T)) R → K h') : E.st h (elp E.es x i 0) (v b) fun h => E.st h (elp E.es x j 0) (v a) K := by
 refine ho.st S (by simp; omega) fun h1 o1 => ?_
 rw [set_mid hi] at o1
 refine o1.st S (by simp; omega) fun h2 o2 => hk h2 ?_
 rwa [set_mid2 hj] at o2
theorem Rw.swapDn {P Q T : List X} {a b : X} {i j : Nat} (ho : Rw E cs h0 h x (P ++ a :: (Q ++ b :: T)) R) (S : zc6 E cs v) (hi : i = P.length) (hj : j = P.length + 1 + Q.length) {K : za → Prop}
  (hk : ∀ h', Rw E cs h0 h' x (P ++ b :: (Q ++ a :: T)) R → K h') : E.st h (elp E.es x j 0) (v a) fun h => E.st h (elp E.es x i 0) (v b) K := by
 refine ho.st S (by simp; omega) fun h1 o1 => ?_
 rw [set_mid2 hj] at o1
 refine o1.st S (by simp; omega) fun h2 o2 => hk h2 ?_
 rwa [set_mid hi] at o2
end
structure zed (C : CSem) {X : Type} (v : X → AVal) (c : X → X → Int) (f : AVal) (h0 : za) : Prop where
 call : ∀ (h : za) (a b : X) (K : AVal → za → Prop), h0.le h → K (.int .i64 (c a b)) h → B.zjc h C f [v a, v b] K
section
variable {E : zx} {T : Type} {cs : T → List AVal} {v : T → AVal} {c : T → T → Int} {h0 h : za} {x f : AVal} {R : List (List AVal)} {Q : AVal → za → Prop}
def zch (c : T → T → Int) (a b : T) : Bool := decide (c a b < 0)
theorem znd {X : Type} (L : List X) : L = [] ∨ ∃ L0 y, L = L0 ++ [y] := by
 rcases List.eq_nil_or_concat L with h | ⟨A, b, h⟩
 ·exact .inl h
 ·exact .inr ⟨A, b, by rw [h, List.concat_eq_append]⟩
theorem zf9 (S : zc6 E cs v) (W : Weak (zch c)) {P M U : List (T × Nat)} (hlen : (P ++ (M ++ U)).length ≤ 100000000) (ht : M.Pairwise fun a b => a.2 < b.2)
  (hc : zed C v c f h0) {a b : Nat} (ha : a = P.length) (hb : b = P.length + M.length) (ho : Rw E (fun p : T × Nat => cs p.1) h0 h x (P ++ (M ++ U)) R)
  (hq : ∀ h' M', M'.Perm M → M'.Pairwise (lt' (zch c)) → Rw E (fun p : T × Nat => cs p.1) h0 h' x (P ++ (M' ++ U)) R → Q (.tup []) h') :
  zn.cps C E x (.int .i64 (a : Int)) (.int .i64 (b : Int)) f h Q := by
 have S' := S.comp (fun p : T × Nat => p.1)
 subst ha
 have hlen' : P.length + M.length + U.length ≤ 100000000 := by simpa [Nat.add_assoc] using hlen
 simp -dsimp only [zn.cps, add1 (show P.length < 4611686018427387904 by omega), B.ze]
 cases M with
 | nil =>
  intro Y hY
  refine hY _ _ ?_
  simp -dsimp only [zn.l3, lssN, B.ze]
  rw [show decide (P.length + 1 < b) = false by simp at hb ⊢; omega, B.cond_false]
  exact hq h [] (List.Perm.refl _) .nil ho
 | cons m M1 =>
 simp only [List.length_cons] at hlen' hb
 rw [List.pairwise_cons] at ht
 refine zm.intro (fun t vs hh => ∃ (i : Nat) (L M2 : List (T × Nat)), t = M2.length ∧ vs = [.int .i64 i] ∧ i = P.length + L.length ∧ i + M2.length = b ∧ Rw E (fun p : T × Nat => cs p.1) h0 hh x (P ++ (L ++ (M2 ++ U))) R ∧
  (L ++ M2).Perm (m :: M1) ∧ L.Pairwise (lt' (zch c)) ∧ M2.Pairwise (fun a b => a.2 < b.2) ∧ ∀ p ∈ L, ∀ q ∈ M2, p.2 < q.2) M1.length ?_
  ⟨P.length + 1, [m], M1, rfl, rfl, by simp, by omega, by simpa using ho, List.Perm.refl _, List.pairwise_singleton .., ht.2, by simpa using ht.1⟩
 rintro Y t vs hh ⟨i, L, M2, rfl, rfl, hi, hib, o, hp, hs, ht2, htt⟩ hY
 simp -dsimp only [zn.l3, lssN, B.ze]
 cases M2 with
 | nil =>
  rw [show decide (i < b) = false by simp at hib ⊢; omega, B.cond_false]
  rw [List.append_nil] at hp
  exact hq hh L hp hs o
 | cons x0 M2 =>
  simp only [List.length_cons] at hib
  rw [show decide (i < b) = true by simp; omega, B.cond_true]
  rw [List.pairwise_cons] at ht2
  have hll : P.length + (L.length + (M2.length + 1)) = b := by omega
  refine zm.intro (fun t vs h2 => ∃ (L1 L2 : List (T × Nat)), t = L1.length ∧ vs = [.int .i64 ((P.length + L1.length : Nat) : Int)] ∧ L = L1 ++ L2 ∧ Rw E (fun p : T × Nat => cs p.1) h0 h2 x (P ++ (L1 ++ x0 :: (L2 ++ (M2 ++ U)))) R ∧
   ∀ q ∈ L2, lt' (zch c) x0 q) L.length ?_ ⟨L, [], rfl, by rw [hi], by simp, by simpa using o, by simp⟩
  rintro Z t vs h2 ⟨L1, L2, rfl, rfl, rfl, o2, hx⟩ hZ
  rw [List.pairwise_append] at hs
  have fin : (L1 = [] ∨ ∃ L0 y, L1 = L0 ++ [y] ∧ lt' (zch c) y x0) → Y [.int .i64 ((i + 1 : Nat) : Int)] h2 := fun hz => by
   have hlow : ∀ p ∈ L1, lt' (zch c) p x0 := by
    rcases hz with rfl | ⟨L0, y, rfl, hy⟩
    ·simp
    ·intro p hpm
     rcases List.mem_append.1 hpm with h1 | h1
     ·exact zhl W ((List.pairwise_append.1 hs.1).2.2 p h1 y (by simp)) hy
     ·rw [List.mem_singleton.1 h1]; exact hy
   refine hY M2.length _ _ (by simp) ⟨i + 1, L1 ++ x0 :: L2, M2, rfl, rfl, by simp at hi ⊢; omega, by omega, by simpa using o2, ?_, ?_, ht2.2, ?_⟩
   ·refine List.Perm.trans ?_ hp
    simp only [List.append_assoc, List.cons_append]
    refine List.Perm.append_left _ ?_
    exact (List.perm_middle (l₁ := L2) (l₂ := M2) (a := x0)).symm
   ·rw [List.pairwise_append, List.pairwise_cons]
    refine ⟨hs.1, ⟨hx, hs.2.1⟩, fun p h1 q h2 => ?_⟩
    rcases List.mem_cons.1 h2 with rfl | h2
    ·exact hlow p h1
    ·exact hs.2.2 p h1 q h2
   ·intro p h1 q h2
    rcases List.mem_append.1 h1 with h1 | h1
    ·exact htt p (List.mem_append_left _ h1) q (List.mem_cons_of_mem _ h2)
    ·rcases List.mem_cons.1 h1 with rfl | h1
     ·exact ht2.1 q h2
     ·exact htt p (List.mem_append_right _ h1) q (List.mem_cons_of_mem _ h2)
  have hll2 : i = P.length + (L1.length + L2.length) := by simpa using hi
  simp -dsimp only [zn.l2, zn.k1, gtrN, B.ze]
  obtain rfl | ⟨L0, y, rfl⟩ := znd L1
  ·simp -dsimp [add1 (show i < 4611686018427387904 by omega)]
   exact fin (.inl rfl)
  ·have hyx : y.2 < x0.2 := htt y (by simp) x0 (by simp)
   have o2' := o2
   simp only [List.append_assoc, List.cons_append, List.nil_append] at o2'
   simp only [List.length_append, List.length_singleton] at hll2 hlen' hll
   have hj : P.length + (L0 ++ [y]).length = P.length + L0.length + 1 := by simp [Nat.add_assoc]
   rw [show decide (P.length < P.length + (L0 ++ [y]).length) = true by simp]
   rw [hj]
   simp -dsimp only [B.gd_t, B.zok, B.zeg, gv_true, sub1 (show 1 ≤ P.length + L0.length + 1 by omega) (by omega), Nat.add_sub_cancel, o2.idx (i := P.length + L0.length + 1) (by simp; omega), o2.idx (i := P.length + L0.length) (by simp), B.ze]
   have o3 : Rw E (fun p : T × Nat => cs p.1) h0 h2 x ((P ++ L0) ++ y :: ([] ++ x0 :: (L2 ++ (M2 ++ U)))) R := by simpa using o2
   have gy : ((P ++ L0) ++ y :: ([] ++ x0 :: (L2 ++ (M2 ++ U))))[P.length + L0.length]? = some y := zjx (by simp)
   have gx : ((P ++ L0) ++ y :: ([] ++ x0 :: (L2 ++ (M2 ++ U))))[P.length + L0.length + 1]? = some x0 := zoj (by simp)
   refine o3.ld S' gx ?_
   refine o3.ld S' gy ?_
   refine hc.call _ _ _ _ o2.le ?_
   simp -dsimp only [B.gd_t, B.zok, B.zeg, gv_true, V.zfx, B.ze, B.zif]
   refine B.zk (fun hb2 => ?_) (fun hb2 => ?_)
   ·simp -dsimp only [sub1 (show 1 ≤ P.length + L0.length + 1 by omega) (by omega), Nat.add_sub_cancel, o2.idx (i := P.length + L0.length + 1) (by simp; omega), o2.idx (i := P.length + L0.length) (by simp), B.ze]
    refine o3.ld S' gy ?_
    refine o3.ld S' gx ?_
    refine o3.swapDn S' (by simp) (by simp) fun h4 o4 => ?_
    refine hZ L0.length _ _ (by simp) ⟨L0, y :: L2, rfl, rfl, by simp, by simpa using o4, ?_⟩
    intro q hq2
    rcases List.mem_cons.1 hq2 with rfl | hq2
    ·exact (lt'_gt hyx).2 hb2
    ·exact hx q hq2
   ·simp -dsimp only [add1 (show i < 4611686018427387904 by omega), B.ze]
    exact fin (.inr ⟨L0, y, rfl, (zs8 W hyx).2 hb2⟩)
end
end Go.Ab
namespace Go.Ab
variable {C : CSem} {N : Nat → Nat}
section
variable {E : zx} {X : Type} {cs : X → List AVal} {v : X → AVal} {h0 h : za} {x f : AVal} {R : List (List AVal)} {Q : AVal → za → Prop}
theorem zjq (S : zc6 E cs v) {P A M D U : List X} (hn : A.length = D.length) (hlen : (P ++ (A ++ (M ++ (D ++ U)))).length ≤ 100000000) {a b n : Nat} (ha : a = P.length) (hb : b = P.length + A.length + M.length) (hna : n = A.length)
  (ho : Rw E cs h0 h x (P ++ (A ++ (M ++ (D ++ U)))) R)
  (hq : ∀ h', Rw E cs h0 h' x (P ++ (D ++ (M ++ (A ++ U)))) R → Q (.tup []) h') :
  zbi.cps C E x (.int .i64 (a : Int)) (.int .i64 (b : Int)) (.int .i64 (n : Int)) f h Q := by
 simp only [List.length_append] at hlen
 refine zm.intro (fun t vs hh => ∃ (A1 A2 D1 D2 : List X), t = A2.length ∧ vs = [.int .i64 (A1.length : Int)] ∧ A = A1 ++ A2 ∧ D = D1 ++ D2 ∧ A1.length = D1.length ∧ Rw E cs h0 hh x (P ++ (D1 ++ (A2 ++ (M ++ (A1 ++ (D2 ++ U)))))) R) A.length ?_
  ⟨[], A, [], D, rfl, rfl, rfl, rfl, rfl, by simpa using ho⟩
 rintro Y t vs hh ⟨A1, A2, D1, D2, rfl, rfl, rfl, rfl, hl, o⟩ hY
 simp only [List.length_append] at hn hlen hb hna
 simp -dsimp only [zbi.l2, zbi.k1, lssN, B.ze]
 cases A2 with
 | nil =>
  have : D2 = [] := List.eq_nil_of_length_eq_zero (by simp at hn; omega)
  subst this
  rw [show decide (A1.length < n) = false by simp at hna ⊢; omega, B.cond_false]
  exact hq hh (by simpa using o)
 | cons p A2 =>
  cases D2 with
  | nil => simp at hn; omega
  | cons q D2 =>
   simp only [List.length_cons] at hn hlen hb hna
   rw [show decide (A1.length < n) = true by simp; omega, B.cond_true]
   have o3 : Rw E cs h0 hh x ((P ++ D1) ++ p :: ((A2 ++ (M ++ A1)) ++ q :: (D2 ++ U))) R := by simpa using o
   have i1 : a + A1.length = (P ++ D1).length := by simp; omega
   have i2 : b + A1.length = (P ++ D1).length + 1 + (A2 ++ (M ++ A1)).length := by simp; omega
   simp -dsimp only [zpr (a := a) (b := A1.length) (by omega), zpr (a := b) (b := A1.length) (by omega), o3.idx (i := a + A1.length) (by simp; omega), o3.idx (i := b + A1.length) (by simp; omega), B.ze]
   refine o3.ld S (zoj i2) ?_
   refine o3.ld S (zjx i1) ?_
   refine o3.swapUp S i1 i2 fun h4 o4 => ?_
   simp -dsimp only [add1 (a := A1.length) (by omega), B.ze]
   exact hY A2.length _ _ (by simp) ⟨A1 ++ [p], A2, D1 ++ [q], D2, rfl, by simp, by simp, by simp, by simp [hl], by simpa using o4⟩
theorem rotate_spec (S : zc6 E cs v) {f1 : Nat} (s1 : ∀ (x v1 v2 v3 f : AVal) (h : za) (Q : AVal → za → Prop), zbi.cps C E x v1 v2 v3 f h (dn Q) → C f1 [x, v1, v2, v3, f] h Q)
  {P A D U : List X} (hA : A ≠ []) (hD : D ≠ []) (hlen : (P ++ (A ++ (D ++ U))).length ≤ 100000000) {a m b : Nat} (ha : a = P.length) (hm : m = P.length + A.length) (hb : b = P.length + A.length + D.length)
  (ho : Rw E cs h0 h x (P ++ (A ++ (D ++ U))) R) (hq : ∀ h', Rw E cs h0 h' x (P ++ (D ++ (A ++ U))) R → Q (.tup []) h') :
  zbk.cps C E f1 x (.int .i64 (a : Int)) (.int .i64 (m : Int)) (.int .i64 (b : Int)) f h Q := by
 simp only [List.length_append] at hlen
 simp -dsimp only [zbk.cps, zla (a := m) (b := a) (by omega) (by omega), zla (a := b) (b := m) (by omega) (by omega), B.ze]
 refine zm.intro (fun t vs hh => ∃ (P' A' D' U' : List X), t = A'.length + D'.length ∧ vs = [.int .i64 (A'.length : Int), .int .i64 (D'.length : Int)] ∧ A' ≠ [] ∧ D' ≠ [] ∧ P'.length + A'.length = m ∧ m + D'.length + U'.length ≤ 100000000 ∧ P' ++ (D' ++ (A' ++ U')) = P ++ (D ++ (A ++ U)) ∧
  Rw E cs h0 hh x (P' ++ (A' ++ (D' ++ U'))) R) (A.length + D.length) ?_ ⟨P, A, D, U, rfl, by rw [show m - a = A.length by omega, show b - m = D.length by omega], hA, hD, hm.symm, by omega, rfl, ho⟩
 rintro Y t vs hh ⟨P', A', D', U', rfl, rfl, hA', hD', hm', hU', he, o⟩ hY
 have ka := List.length_pos_iff.2 hA'
 have kd := List.length_pos_iff.2 hD'
 simp -dsimp only [zbk.l2, zbk.k1, neqN, gtrN, B.ze]
 refine B.zk (fun h1 => ?_) (fun h1 => ?_)
 ·simp only [Bool.not_eq_true', decide_eq_false_iff_not] at h1
  simp -dsimp only [gtrN, B.ze]
  refine B.zk (fun h2 => ?_) (fun h2 => ?_)
  ·simp only [decide_eq_true_eq] at h2
   simp -dsimp only [zla (a := m) (b := A'.length) (by omega) (by omega), B.ze]
   have t1 : (A'.take D'.length).length = D'.length := by simp; omega
   have o2 : Rw E cs h0 hh x (P' ++ (A'.take D'.length ++ (A'.drop D'.length ++ (D' ++ U')))) R := by rw [← List.append_assoc (A'.take _), List.take_append_drop]; exact o
   refine s1 _ _ _ _ _ _ _ (zjq S t1 (by simp; omega) (by omega) (by simp; omega) t1.symm o2 fun h3 o3 => zba ?_)
   simp -dsimp only [zla (a := A'.length) (b := D'.length) (by omega) (by omega), B.ze]
   refine hY _ _ _ ?_ ⟨P' ++ D', A'.drop D'.length, A'.take D'.length, U', rfl, ?_, ?_, ?_, ?_, ?_, ?_, by simpa using o3⟩
   ·simp; omega
   ·rw [t1]; simp
   ·intro e; simp at e; omega
   ·intro e; rw [e] at t1; simp at t1; omega
   ·simp; omega
   ·rw [t1]; omega
   ·rw [← he]; simp only [List.append_assoc]; rw [← List.append_assoc (A'.take _), List.take_append_drop]
  ·simp only [decide_eq_false_iff_not] at h2
   simp -dsimp only [zla (a := m) (b := A'.length) (by omega) (by omega), zpr (a := m) (b := D'.length) (by omega), zla (a := m + D'.length) (b := A'.length) (by omega) (by omega), B.ze]
   have t1 : (D'.drop (D'.length - A'.length)).length = A'.length := by simp; omega
   have t2 : (D'.take (D'.length - A'.length)).length = D'.length - A'.length := by simp
   have o2 : Rw E cs h0 hh x (P' ++ (A' ++ (D'.take (D'.length - A'.length) ++ (D'.drop (D'.length - A'.length) ++ U')))) R := by rw [← List.append_assoc (D'.take _), List.take_append_drop]; exact o
   refine s1 _ _ _ _ _ _ _ (zjq S t1.symm (by simp only [List.length_append, t1, t2]; omega) (by omega) (by rw [t2]; omega) rfl o2 fun h3 o3 => zba ?_)
   simp -dsimp only [zla (a := D'.length) (b := A'.length) (by omega) (by omega), B.ze]
   refine hY _ _ _ ?_ ⟨P', D'.drop (D'.length - A'.length), D'.take (D'.length - A'.length), A' ++ U', rfl, ?_, ?_, ?_, ?_, ?_, ?_, o3⟩
   ·rw [t1, t2]; omega
   ·rw [t1, t2]
   ·intro e; rw [e] at t1; simp at t1; omega
   ·intro e; rw [e] at t2; simp at t2; omega
   ·rw [t1]; omega
   ·rw [t2]; simp; omega
   ·rw [← he]; rw [← List.append_assoc (D'.take _), List.take_append_drop]
 ·simp only [Bool.not_eq_false', decide_eq_true_eq] at h1
  simp -dsimp only [zla (a := m) (b := A'.length) (by omega) (by omega), B.ze]
  refine s1 _ _ _ _ _ _ _ (zjq S (P := P') (M := []) h1 (by simp only [List.length_append, List.length_nil]; omega) (by omega) (by simp; omega) rfl (U := U') (by simpa using o) fun h3 o3 => zba ?_)
  exact hq h3 (by rw [← he]; simpa using o3)
end
end Go.Ab
namespace Go.Ab
variable {C : CSem} {N : Nat → Nat}
theorem toU64 {a : Nat} (h : a < 4611686018427387904) : V.toInt .u64 (.int .i64 (a : Int)) = some (.int .u64 (a : Int)) := by
 rw [V.toInt_int]; congr 2
 simp only [IntKind.wrap, IntKind.bits, IntKind.signed]; simp; omega
theorem shr1 {a : Nat} : V.bin .shr (.int .u64 (a : Int)) (.int .u64 1) = some (.int .u64 ((a / 2 : Nat) : Int)) := by
 simp only [V.bin, V.shift]
 rw [if_neg (by omega), Nat.min_eq_left (by simp [IntKind.bits])]
 congr 2
 rw [Int.fdiv_eq_ediv_of_nonneg _ (by simp)]; simp
theorem toI64 {a : Nat} (h : a < 4611686018427387904) : V.toInt .i64 (.int .u64 (a : Int)) = some (.int .i64 (a : Int)) := by
 rw [V.toInt_int, wrap_i64 (by omega) (by omega)]
section
variable {E : zx} {T : Type} {cs : T → List AVal} {v : T → AVal} {c : T → T → Int} {h0 h : za} {x f : AVal} {R : List (List AVal)} {Q : AVal → za → Prop}
theorem split_at {X : Type} {L : List X} {k : Nat} (h : k < L.length) : ∃ L1 z L2, L = L1 ++ z :: L2 ∧ L1.length = k :=
 ⟨L.take k, L[k], L.drop (k + 1), by rw [← List.drop_eq_getElem_cons h, List.take_append_drop], by simp; omega⟩
theorem zsi (S : zc6 E cs v) (W : Weak (zch c)) {f1 f2 : Nat} {P D U : List (T × Nat)} {y : T × Nat} (hlen : (P ++ y :: (D ++ U)).length ≤ 100000000) (hs : D.Pairwise (lt' (zch c))) (ht : ∀ q ∈ D, y.2 < q.2)
  (hc : zed C v c f h0) {a m b : Nat} (ha : a = P.length) (hm : m = P.length + 1) (hb : b = P.length + 1 + D.length) (ho : Rw E (fun p : T × Nat => cs p.1) h0 h x (P ++ y :: (D ++ U)) R)
  (hq : ∀ h' M', M'.Perm (y :: D) → M'.Pairwise (lt' (zch c)) → Rw E (fun p : T × Nat => cs p.1) h0 h' x (P ++ (M' ++ U)) R → Q (.tup []) h') :
  zb.cps C E f1 f2 x (.int .i64 (a : Int)) (.int .i64 (m : Int)) (.int .i64 (b : Int)) f h Q := by
 have S' := S.comp (fun p : T × Nat => p.1)
 subst ha
 have hlen' : P.length + 1 + D.length + U.length ≤ 100000000 := by simp at hlen; omega
 simp -dsimp only [zb.cps, zb.k17, zla (a := m) (b := P.length) (by omega) (by omega), show m - P.length = 1 by omega, eql1, B.ze]
 simp -dsimp only [Int.natCast_one, V.zh0, B.ze, decide_true, B.cond_true]
 refine zm.intro (fun t vs hh => hh = h ∧ ∃ (D1 D2 D3 : List (T × Nat)), t = D2.length ∧ vs = [.int .i64 ((m + D1.length : Nat) : Int), .int .i64 ((m + D1.length + D2.length : Nat) : Int)] ∧ D = D1 ++ (D2 ++ D3) ∧ (∀ q ∈ D1, lt' (zch c) q y) ∧ ∀ q ∈ D3, lt' (zch c) y q) D.length ?_
  ⟨rfl, [], D, [], rfl, by simp; omega, by simp, by simp, by simp⟩
 rintro Y t vs hh ⟨rfl, D1, D2, D3, rfl, rfl, rfl, h1, h3⟩ hY
 simp only [List.length_append] at hlen' hb
 simp -dsimp only [zb.l16, zb.k15, lssN, B.ze]
 refine B.zk (fun hk => ?_) (fun hk => ?_)
 ·simp only [decide_eq_true_eq] at hk
  have hmid : (m + D1.length + (m + D1.length + D2.length)) / 2 = m + D1.length + D2.length / 2 := by omega
  simp -dsimp only [zpr (a := m + D1.length) (b := m + D1.length + D2.length) (by omega), toU64 (a := m + D1.length + (m + D1.length + D2.length)) (by omega), shr1, hmid, toI64 (a := m + D1.length + D2.length / 2) (by omega), B.ze]
  obtain ⟨E1, z, E2, rfl, hE⟩ := split_at (L := D2) (k := D2.length / 2) (by omega)
  rw [← hE]
  simp only [List.length_append, List.length_cons] at hlen' hb hk
  have g1 : (P ++ y :: (D1 ++ (E1 ++ z :: E2 ++ D3) ++ U))[m + D1.length + E1.length]? = some z := by
   have := zjx (P := P ++ y :: (D1 ++ E1)) (Q := E2 ++ D3 ++ U) (a := z) (i := m + D1.length + E1.length) (by simp; omega)
   simpa using this
  have g2 : (P ++ y :: (D1 ++ (E1 ++ z :: E2 ++ D3) ++ U))[P.length]? = some y := zjx rfl
  simp -dsimp only [ho.idx (i := m + D1.length + E1.length) (by simp; omega), ho.idx (i := P.length) (by simp), B.ze]
  refine ho.ld S' g1 ?_
  refine ho.ld S' g2 ?_
  refine hc.call _ _ _ _ ho.le ?_
  simp -dsimp only [V.zfx, B.ze]
  have hzy : y.2 < z.2 := ht z (by simp)
  have hs' := hs
  simp only [List.pairwise_append, List.pairwise_cons, List.mem_append, List.mem_cons] at hs'
  refine B.zk (fun hl => ?_) (fun hl => ?_)
  ·have lz : lt' (zch c) z y := (lt'_gt hzy).2 hl
   simp -dsimp only [add1 (a := m + D1.length + E1.length) (by omega), B.ze]
   refine hY E2.length _ _ (by simp; omega) ⟨rfl, D1 ++ E1 ++ [z], E2, D3, rfl, by simp; omega, by simp, ?_, h3⟩
   intro q hq
   simp only [List.mem_append, List.mem_singleton] at hq
   rcases hq with (hq | hq) | rfl
   ·exact h1 q hq
   ·exact zhl W (hs'.2.1.1.2.2 q hq z (.inl rfl)) lz
   ·exact lz
  ·have lz : lt' (zch c) y z := (zs8 W hzy).2 hl
   refine hY E1.length _ _ (by simp) ⟨rfl, D1, E1, z :: E2 ++ D3, rfl, rfl, by simp, h1, ?_⟩
   intro q hq
   simp only [List.cons_append, List.mem_cons, List.mem_append] at hq
   rcases hq with rfl | hq | hq
   ·exact lz
   ·exact zhl W lz (hs'.2.1.1.2.1.1 q hq)
   ·exact h3 q hq
 ·simp only [decide_eq_false_iff_not] at hk
  have e : D2 = [] := List.eq_nil_of_length_eq_zero (by omega)
  subst e
  simp only [List.length_nil, List.nil_append, Nat.add_zero] at hlen' hb hs hq ho
  refine zm.intro (fun t vs hh => ∃ (B1 B2 : List (T × Nat)), t = B2.length ∧ vs = [.int .i64 ((P.length + B1.length : Nat) : Int)] ∧ D1 = B1 ++ B2 ∧ Rw E (fun p : T × Nat => cs p.1) h0 hh x (P ++ (B1 ++ y :: (B2 ++ (D3 ++ U)))) R) D1.length ?_
   ⟨[], D1, rfl, by simp, rfl, by simpa using ho⟩
  rintro Z t vs h2 ⟨B1, B2, rfl, rfl, rfl, o2⟩ hZ
  simp only [List.length_append] at hlen' hb
  simp -dsimp only [zb.l14, zb.k13, List.length_append, sub1 (a := m + (B1.length + B2.length)) (by omega) (by omega), lssN, B.ze]
  cases B2 with
  | nil =>
   rw [show decide (P.length + B1.length < m + (B1.length + ([] : List (T × Nat)).length) - 1) = false by simp; omega, B.cond_false]
   refine hq h2 (B1 ++ y :: D3) ?_ ?_ (by simpa using o2)
   ·simp
   ·simp only [List.append_nil] at hs h1
    rw [List.pairwise_append] at hs ⊢
    rw [List.pairwise_cons]
    refine ⟨hs.1, ⟨h3, hs.2.1⟩, fun p hp q hq2 => ?_⟩
    rcases List.mem_cons.1 hq2 with rfl | hq2
    ·exact h1 p hp
    ·exact hs.2.2 p hp q hq2
  | cons z B2 =>
   simp only [List.length_cons] at hlen' hb ⊢
   rw [show decide (P.length + B1.length < m + (B1.length + (B2.length + 1)) - 1) = true by simp; omega, B.cond_true]
   have o3 : Rw E (fun p : T × Nat => cs p.1) h0 h2 x ((P ++ B1) ++ y :: ([] ++ z :: (B2 ++ (D3 ++ U)))) R := by simpa using o2
   have i1 : P.length + B1.length = (P ++ B1).length := by simp
   have i2 : P.length + B1.length + 1 = (P ++ B1).length + 1 + ([] : List (T × Nat)).length := by simp
   simp -dsimp only [add1 (a := P.length + B1.length) (by omega), o3.idx (i := P.length + B1.length + 1) (by simp; omega), o3.idx (i := P.length + B1.length) (by simp), B.ze]
   refine o3.ld S' (zoj i2) ?_
   refine o3.ld S' (zjx i1) ?_
   refine o3.swapUp S' i1 i2 fun h4 o4 => ?_
   refine hZ B2.length _ _ (by simp) ⟨B1 ++ [z], B2, rfl, by simp [Nat.add_assoc], by simp, by simpa using o4⟩
end
end Go.Ab
namespace Go.Ab
variable {C : CSem} {N : Nat → Nat}
section
variable {E : zx} {T : Type} {cs : T → List AVal} {v : T → AVal} {c : T → T → Int} {h0 h : za} {x f : AVal} {R : List (List AVal)} {Q : AVal → za → Prop}
theorem zsh (S : zc6 E cs v) (W : Weak (zch c)) {f1 f2 : Nat} {P A U : List (T × Nat)} {y : T × Nat} (hA : 2 ≤ A.length) (hlen : (P ++ (A ++ y :: U)).length ≤ 100000000) (hs : A.Pairwise (lt' (zch c))) (ht : ∀ q ∈ A, q.2 < y.2)
  (hc : zed C v c f h0) {a m b : Nat} (ha : a = P.length) (hm : m = P.length + A.length) (hb : b = P.length + A.length + 1) (ho : Rw E (fun p : T × Nat => cs p.1) h0 h x (P ++ (A ++ y :: U)) R)
  (hq : ∀ h' M', M'.Perm (A ++ [y]) → M'.Pairwise (lt' (zch c)) → Rw E (fun p : T × Nat => cs p.1) h0 h' x (P ++ (M' ++ U)) R → Q (.tup []) h') :
  zb.cps C E f1 f2 x (.int .i64 (a : Int)) (.int .i64 (m : Int)) (.int .i64 (b : Int)) f h Q := by
 have S' := S.comp (fun p : T × Nat => p.1)
 subst ha
 have hlen' : P.length + A.length + 1 + U.length ≤ 100000000 := by simp at hlen; omega
 simp -dsimp only [zb.cps, zb.k17, zb.k12, zla (a := m) (b := P.length) (by omega) (by omega), zla (a := b) (b := m) (by omega) (by omega), eql1, B.ze]
 rw [show decide (m - P.length = 1) = false by simp; omega, B.cond_false]
 simp -dsimp only [zb.k12, zla (a := b) (b := m) (by omega) (by omega), eql1, B.ze]
 rw [show decide (b - m = 1) = true by simp; omega, B.cond_true]
 refine zm.intro (fun t vs hh => hh = h ∧ ∃ (D1 D2 D3 : List (T × Nat)), t = D2.length ∧ vs = [.int .i64 ((P.length + D1.length : Nat) : Int), .int .i64 ((P.length + D1.length + D2.length : Nat) : Int)] ∧ A = D1 ++ (D2 ++ D3) ∧ (∀ q ∈ D1, lt' (zch c) q y) ∧ ∀ q ∈ D3, lt' (zch c) y q) A.length ?_
  ⟨rfl, [], A, [], rfl, by simp; omega, by simp, by simp, by simp⟩
 rintro Y t vs hh ⟨rfl, D1, D2, D3, rfl, rfl, rfl, h1, h3⟩ hY
 simp only [List.length_append] at hlen' hb hm
 simp -dsimp only [zb.l11, zb.k10, lssN, B.ze]
 have g0 : (P ++ (D1 ++ (D2 ++ D3) ++ y :: U))[m]? = some y := by
  have := zjx (P := P ++ (D1 ++ (D2 ++ D3))) (Q := U) (a := y) (i := m) (by simp; omega)
  simpa using this
 refine B.zk (fun hk => ?_) (fun hk => ?_)
 ·simp only [decide_eq_true_eq] at hk
  have hmid : (P.length + D1.length + (P.length + D1.length + D2.length)) / 2 = P.length + D1.length + D2.length / 2 := by omega
  simp -dsimp only [zpr (a := P.length + D1.length) (b := P.length + D1.length + D2.length) (by omega), toU64 (a := P.length + D1.length + (P.length + D1.length + D2.length)) (by omega), shr1, hmid, toI64 (a := P.length + D1.length + D2.length / 2) (by omega), B.ze]
  obtain ⟨E1, z, E2, rfl, hE⟩ := split_at (L := D2) (k := D2.length / 2) (by omega)
  rw [← hE]
  simp only [List.length_append, List.length_cons] at hlen' hb hk hm
  have g1 : (P ++ (D1 ++ (E1 ++ z :: E2 ++ D3) ++ y :: U))[P.length + D1.length + E1.length]? = some z := by
   have := zjx (P := P ++ (D1 ++ E1)) (Q := E2 ++ D3 ++ y :: U) (a := z) (i := P.length + D1.length + E1.length) (by simp; omega)
   simpa using this
  simp -dsimp only [ho.idx (i := P.length + D1.length + E1.length) (by simp; omega), ho.idx (i := m) (by simp; omega), B.ze]
  refine ho.ld S' g0 ?_
  refine ho.ld S' g1 ?_
  refine hc.call _ _ _ _ ho.le ?_
  simp -dsimp only [V.zfx, V.zf7, B.ze]
  have hzy : z.2 < y.2 := ht z (by simp)
  have hs' := hs
  simp only [List.pairwise_append, List.pairwise_cons, List.mem_append, List.mem_cons] at hs'
  refine B.zk (fun hl => ?_) (fun hl => ?_)
  ·simp only [Bool.not_eq_true'] at hl
   have lz : lt' (zch c) z y := (zs8 W hzy).2 hl
   simp -dsimp only [add1 (a := P.length + D1.length + E1.length) (by omega), B.ze]
   refine hY E2.length _ _ (by simp; omega) ⟨rfl, D1 ++ E1 ++ [z], E2, D3, rfl, by simp; omega, by simp, ?_, h3⟩
   intro q hq
   simp only [List.mem_append, List.mem_singleton] at hq
   rcases hq with (hq | hq) | rfl
   ·exact h1 q hq
   ·exact zhl W (hs'.2.1.1.2.2 q hq z (.inl rfl)) lz
   ·exact lz
  ·simp only [Bool.not_eq_false'] at hl
   have lz : lt' (zch c) y z := (lt'_gt hzy).2 hl
   refine hY E1.length _ _ (by simp) ⟨rfl, D1, E1, z :: E2 ++ D3, rfl, rfl, by simp, h1, ?_⟩
   intro q hq
   simp only [List.cons_append, List.mem_cons, List.mem_append] at hq
   rcases hq with rfl | hq | hq
   ·exact lz
   ·exact zhl W lz (hs'.2.1.1.2.1.1 q hq)
   ·exact h3 q hq
 ·simp only [decide_eq_false_iff_not] at hk
  have e : D2 = [] := List.eq_nil_of_length_eq_zero (by omega)
  subst e
  simp only [List.length_nil, List.nil_append, Nat.add_zero, Nat.zero_add] at hlen' hb hs hq ho hm
  refine zm.intro (fun t vs hh => ∃ (B1 B2 : List (T × Nat)), t = B1.length ∧ vs = [.int .i64 ((P.length + D1.length + B1.length : Nat) : Int)] ∧ D3 = B1 ++ B2 ∧ Rw E (fun p : T × Nat => cs p.1) h0 hh x (P ++ (D1 ++ (B1 ++ y :: (B2 ++ U)))) R) D3.length ?_
   ⟨D3, [], rfl, by simp; omega, by simp, by simpa using ho⟩
  rintro Z t vs h2 ⟨B1, B2, rfl, rfl, rfl, o2⟩ hZ
  simp only [List.length_append] at hlen' hb hm
  simp -dsimp only [zb.l9, zb.k8, gtrN, B.ze]
  obtain rfl | ⟨B0, z, rfl⟩ := znd B1
  ·rw [show decide (P.length + D1.length < P.length + D1.length + ([] : List (T × Nat)).length) = false by simp, B.cond_false]
   refine hq h2 (D1 ++ y :: B2) ?_ ?_ (by simpa using o2)
   ·simp only [List.nil_append, List.append_assoc]
    exact List.Perm.append_left _ (List.perm_append_singleton y B2).symm
   ·simp only [List.nil_append] at hs h3
    rw [List.pairwise_append] at hs ⊢
    rw [List.pairwise_cons]
    refine ⟨hs.1, ⟨h3, hs.2.1⟩, fun p hp q hq2 => ?_⟩
    rcases List.mem_cons.1 hq2 with rfl | hq2
    ·exact h1 p hp
    ·exact hs.2.2 p hp q hq2
  ·have eL : (B0 ++ [z]).length = B0.length + 1 := by simp
   rw [eL] at hlen' hb hm ⊢
   rw [show decide (P.length + D1.length < P.length + D1.length + (B0.length + 1)) = true by simp, B.cond_true]
   have o3 : Rw E (fun p : T × Nat => cs p.1) h0 h2 x ((P ++ (D1 ++ B0)) ++ z :: ([] ++ y :: (B2 ++ U))) R := by simpa using o2
   have i1 : P.length + D1.length + B0.length = (P ++ (D1 ++ B0)).length := by simp; omega
   have i2 : P.length + D1.length + (B0.length + 1) = (P ++ (D1 ++ B0)).length + 1 + ([] : List (T × Nat)).length := by simp; omega
   have i3 : P.length + D1.length + (B0.length + 1) - 1 = P.length + D1.length + B0.length := by omega
   simp -dsimp only [sub1 (a := P.length + D1.length + (B0.length + 1)) (by omega) (by omega), i3, o3.idx (i := P.length + D1.length + (B0.length + 1)) (by simp; omega), o3.idx (i := P.length + D1.length + B0.length) (by simp; omega), B.ze]
   refine o3.ld S' (zjx i1) ?_
   refine o3.ld S' (zoj i2) ?_
   refine o3.swapDn S' i1 i2 fun h4 o4 => ?_
   refine hZ B0.length _ _ (by simp) ⟨B0, z :: B2, rfl, rfl, by simp, by simpa using o4⟩
theorem pw_get {X : Type} {r : X → X → Prop} {L : List X} (h : L.Pairwise r) {i j : Nat} {a b : X} (hij : i < j) (ha : L[i]? = some a) (hb : L[j]? = some b) : r a b := by
 obtain ⟨h1, rfl⟩ := List.getElem?_eq_some_iff.1 ha
 obtain ⟨h2, rfl⟩ := List.getElem?_eq_some_iff.1 hb
 exact List.pairwise_iff_getElem.1 h i j h1 h2 hij
theorem zjj {X : Type} {L : List X} {n : Nat} {a : X} (h : a ∈ L.take n) : ∃ i, i < n ∧ L[i]? = some a := by
 obtain ⟨i, hi⟩ := List.getElem?_of_mem h
 have : i < n := by have := (List.getElem?_eq_some_iff.1 hi).1; simp at this; omega
 exact ⟨i, this, by rwa [List.getElem?_take_of_lt this] at hi⟩
theorem zle {X : Type} {L : List X} {n : Nat} {a : X} (h : a ∈ L.drop n) : ∃ i, n ≤ i ∧ L[i]? = some a := by
 obtain ⟨i, hi⟩ := List.getElem?_of_mem h
 rw [List.getElem?_drop] at hi
 exact ⟨n + i, by omega, hi⟩
theorem pw_low {less : T → T → Bool} (W : Weak less) {L : List (T × Nat)} (h : L.Pairwise (lt' less)) {i j : Nat} {a b w : T × Nat} (hij : i ≤ j) (ha : L[i]? = some a) (hb : L[j]? = some b) (hw : lt' less b w) : lt' less a w := by
 rcases Nat.lt_or_eq_of_le hij with k | rfl
 ·exact zhl W (pw_get h k ha hb) hw
 ·rw [ha] at hb; cases hb; exact hw
theorem pw_high {less : T → T → Bool} (W : Weak less) {L : List (T × Nat)} (h : L.Pairwise (lt' less)) {i j : Nat} {a b w : T × Nat} (hij : i ≤ j) (ha : L[i]? = some a) (hb : L[j]? = some b) (hw : lt' less w a) : lt' less w b := by
 rcases Nat.lt_or_eq_of_le hij with k | rfl
 ·exact zhl W hw (pw_get h k ha hb)
 ·rw [ha] at hb; cases hb; exact hw
end
end Go.Ab
namespace Go.Ab
variable {C : CSem} {N : Nat → Nat}
theorem and_lss {h : za} {a b c d : Nat} {X Y : za → Prop} (hx : a < b → c < d → X h) (hy : ¬(a < b ∧ c < d) → Y h) :
  (B.pv (V.bin .lss (.int .i64 (a : Int)) (.int .i64 (b : Int))) fun v => B.gd h v true (fun K => K (.int .i64 (c : Int)) h) fun v2 h => B.gd h v true (fun K => K (.int .i64 (d : Int)) h) fun v3 h =>
   B.gd h v true (fun K => B.pv (V.bin .lss v2 v3) fun v => K v h) fun v4 h => B.pick v v4 (.bool false) fun v5 => B.cond v5 (X h) (Y h) : Prop) := by
 rw [lssN]
 simp -dsimp only [B.ze]
 by_cases h1 : a < b
 ·rw [show decide (a < b) = true by simpa using h1]
  simp -dsimp only [B.gd_t, B.zeg, lssN, B.ze, B.zif]
  refine B.zk (fun h2 => hx h1 (by simpa using h2)) (fun h2 => hy fun k => by simp at h2; omega)
 ·rw [show decide (a < b) = false by simpa using h1]
  simp -dsimp only [B.gd_t, B.zfo, B.zje, B.cond_false]
  exact hy fun k => h1 k.1
section
variable {E : zx} {T : Type} {cs : T → List AVal} {v : T → AVal} {c : T → T → Int} {h0 h : za} {x f : AVal} {R : List (List AVal)} {Q : AVal → za → Prop}
theorem symTail (S : zc6 E cs v) {f1 f2 f3 : Nat} {P A1 A2 D1 D2 U : List (T × Nat)} {a m b mid st en : Nat}
  (s1 : ∀ (x v1 v2 v3 f : AVal) (h : za) (Q : AVal → za → Prop), zb.cps C E f1 f2 x v1 v2 v3 f h (dn Q) → C f1 [x, v1, v2, v3, f] h Q)
  (s2 : ∀ (x v1 v2 v3 f : AVal) (h : za) (Q : AVal → za → Prop), zbk.cps C E f3 x v1 v2 v3 f h (dn Q) → C f2 [x, v1, v2, v3, f] h Q)
  (s3 : ∀ (x v1 v2 v3 f : AVal) (h : za) (Q : AVal → za → Prop), zbi.cps C E x v1 v2 v3 f h (dn Q) → C f3 [x, v1, v2, v3, f] h Q)
  (ih1 : ∀ (U : List (T × Nat)) (h : za) (Q : AVal → za → Prop), A1 ≠ [] → D1 ≠ [] → (P ++ (A1 ++ (D1 ++ U))).length ≤ 100000000 → Rw E (fun p : T × Nat => cs p.1) h0 h x (P ++ (A1 ++ (D1 ++ U))) R →
   (∀ h' M', M'.Perm (A1 ++ D1) → M'.Pairwise (lt' (zch c)) → Rw E (fun p : T × Nat => cs p.1) h0 h' x (P ++ (M' ++ U)) R → Q (.tup []) h') → zb.cps C E f1 f2 x (.int .i64 (a : Int)) (.int .i64 (st : Int)) (.int .i64 (mid : Int)) f h Q)
  (ih2 : ∀ (P : List (T × Nat)) (h : za) (Q : AVal → za → Prop), A2 ≠ [] → D2 ≠ [] → P.length = mid → (P ++ (A2 ++ (D2 ++ U))).length ≤ 100000000 → Rw E (fun p : T × Nat => cs p.1) h0 h x (P ++ (A2 ++ (D2 ++ U))) R →
   (∀ h' M', M'.Perm (A2 ++ D2) → M'.Pairwise (lt' (zch c)) → Rw E (fun p : T × Nat => cs p.1) h0 h' x (P ++ (M' ++ U)) R → Q (.tup []) h') → zb.cps C E f1 f2 x (.int .i64 (mid : Int)) (.int .i64 (en : Int)) (.int .i64 (b : Int)) f h Q)
  (hlen : P.length + A1.length + A2.length + D1.length + D2.length + U.length ≤ 100000000) (ha : a = P.length) (hst : st = P.length + A1.length) (hmid : mid = P.length + A1.length + D1.length) (hm : m = P.length + A1.length + A2.length)
  (hen : en = P.length + A1.length + A2.length + D1.length) (hb : b = P.length + A1.length + A2.length + D1.length + D2.length)
  (pA : (A1 ++ A2).Pairwise (lt' (zch c))) (pD : (D1 ++ D2).Pairwise (lt' (zch c))) (x1 : ∀ p ∈ A1, ∀ q ∈ D2, lt' (zch c) p q) (x2 : ∀ p ∈ D1, ∀ q ∈ A2, lt' (zch c) p q)
  (ho : Rw E (fun p : T × Nat => cs p.1) h0 h x (P ++ (A1 ++ (A2 ++ (D1 ++ (D2 ++ U))))) R)
  (hq : ∀ h' M', M'.Perm ((A1 ++ A2) ++ (D1 ++ D2)) → M'.Pairwise (lt' (zch c)) → Rw E (fun p : T × Nat => cs p.1) h0 h' x (P ++ (M' ++ U)) R → Q (.tup []) h') :
  zb.k3 C E f1 f2 Q x (.int .i64 (a : Int)) (.int .i64 (m : Int)) (.int .i64 (b : Int)) f (.int .i64 (mid : Int)) (.int .i64 (st : Int)) (.int .i64 (en : Int)) h := by
 have S' := S.comp (fun p : T × Nat => p.1)
 rw [List.pairwise_append] at pA pD
 have fin : ∀ h' M1 M2, M1.Perm (A1 ++ D1) → M1.Pairwise (lt' (zch c)) → M2.Perm (A2 ++ D2) → M2.Pairwise (lt' (zch c)) → Rw E (fun p : T × Nat => cs p.1) h0 h' x (P ++ (M1 ++ (M2 ++ U))) R → Q (.tup []) h' := by
  intro h' M1 M2 p1 w1 p2 w2 o
  refine hq h' (M1 ++ M2) ?_ ?_ (by simpa using o)
  ·refine (p1.append p2).trans ?_
   simp only [List.append_assoc]
   refine List.Perm.append_left _ ?_
   rw [← List.append_assoc, ← List.append_assoc]
   exact List.Perm.append_right _ List.perm_append_comm
  ·rw [List.pairwise_append]
   refine ⟨w1, w2, fun p hp q hq => ?_⟩
   rcases List.mem_append.1 (p1.mem_iff.1 hp) with h1 | h1 <;> rcases List.mem_append.1 (p2.mem_iff.1 hq) with h2 | h2
   ·exact pA.2.2 p h1 q h2
   ·exact x1 p h1 q h2
   ·exact x2 p h1 q h2
   ·exact pD.2.2 p h1 q h2
 have k1 : ∀ h' M1, M1.Perm (A1 ++ D1) → M1.Pairwise (lt' (zch c)) → Rw E (fun p : T × Nat => cs p.1) h0 h' x (P ++ (M1 ++ (A2 ++ (D2 ++ U)))) R →
   zb.k1 C E f1 f2 Q x (.int .i64 (b : Int)) f (.int .i64 (mid : Int)) (.int .i64 (en : Int)) h' := by
  intro h' M1 p1 w1 o
  have l1 := p1.length_eq
  rw [List.length_append] at l1
  refine and_lss (fun k1 k2 => ?_) (fun k => ?_)
  ·refine s1 _ _ _ _ _ _ _ (ih2 (P ++ M1) h' _ ?_ ?_ ?_ ?_ (by simpa using o) fun h2 M2 p2 w2 o2 => zba (fin h2 M1 M2 p1 w1 p2 w2 (by simpa using o2)))
   ·rintro rfl; simp at hen; omega
   ·rintro rfl; simp at hb; omega
   ·simp; omega
   ·simp; omega
  ·have : A2 = [] ∨ D2 = [] := by
    rcases Nat.eq_zero_or_pos A2.length with e | e
    ·exact .inl (List.eq_nil_of_length_eq_zero e)
    ·exact .inr (List.eq_nil_of_length_eq_zero (by omega))
   refine fin h' M1 (A2 ++ D2) p1 w1 (List.Perm.refl _) ?_ (by simpa using o)
   rcases this with rfl | rfl
   ·simpa using pD.2.1
   ·simpa using pA.2.1
 have k2 : ∀ h', Rw E (fun p : T × Nat => cs p.1) h0 h' x (P ++ (A1 ++ (D1 ++ (A2 ++ (D2 ++ U))))) R →
   zb.k2 C E f1 f2 Q x (.int .i64 (a : Int)) (.int .i64 (b : Int)) f (.int .i64 (mid : Int)) (.int .i64 (st : Int)) (.int .i64 (en : Int)) h' := by
  intro h' o
  refine and_lss (fun k1' k2 => ?_) (fun k => ?_)
  ·refine s1 _ _ _ _ _ _ _ (ih1 (A2 ++ (D2 ++ U)) h' _ ?_ ?_ ?_ o fun h2 M1 p1 w1 o2 => zba (k1 h2 M1 p1 w1 o2))
   ·rintro rfl; simp at hst; omega
   ·rintro rfl; simp at hmid; omega
   ·simp; omega
  ·have : A1 = [] ∨ D1 = [] := by
    rcases Nat.eq_zero_or_pos A1.length with e | e
    ·exact .inl (List.eq_nil_of_length_eq_zero e)
    ·exact .inr (List.eq_nil_of_length_eq_zero (by omega))
   refine k1 h' (A1 ++ D1) (List.Perm.refl _) ?_ (by simpa using o)
   rcases this with rfl | rfl
   ·simpa using pD.1
   ·simpa using pA.1
 refine and_lss (fun g1 g2 => ?_) (fun k => ?_)
 ·refine s2 _ _ _ _ _ _ _ (rotate_spec S' s3 (P := P ++ A1) (A := A2) (D := D1) (U := D2 ++ U) ?_ ?_ (by simp; omega) (by simp; omega) (by simp; omega) (by simp; omega) (by simpa using ho) fun h2 o2 => zba (k2 h2 (by simpa using o2)))
  ·rintro rfl; simp at hm; omega
  ·rintro rfl; simp at hen; omega
 ·refine k2 h ?_
  have : A2 = [] ∨ D1 = [] := by
   rcases Nat.eq_zero_or_pos A2.length with e | e
   ·exact .inl (List.eq_nil_of_length_eq_zero e)
   ·exact .inr (List.eq_nil_of_length_eq_zero (by omega))
  rcases this with rfl | rfl <;> simpa using ho
end
end Go.Ab
namespace Go.Ab
variable {C : CSem} {N : Nat → Nat}
section
variable {E : zx} {T : Type} {cs : T → List AVal} {v : T → AVal} {c : T → T → Int} {h0 h : za} {x f : AVal} {R : List (List AVal)} {Q : AVal → za → Prop}
theorem symLoop (S : zc6 E cs v) (W : Weak (zch c)) {f1 f2 : Nat} {P A D U : List (T × Nat)} {a m b mid n pp μ s0 r0 : Nat} (hc : zed C v c f h0)
  (pA : A.Pairwise (lt' (zch c))) (pD : D.Pairwise (lt' (zch c))) (ht : ∀ p ∈ A, ∀ q ∈ D, p.2 < q.2)
  (hlen : P.length + A.length + D.length + U.length ≤ 100000000) (ha : a = P.length) (hm : m = P.length + A.length) (hb : b = P.length + A.length + D.length) (hmid : mid = P.length + μ) (hn : n = mid + m) (hpp : pp = n - 1)
  (q1 : s0 ≤ r0) (q2 : r0 ≤ A.length) (q3 : r0 ≤ μ) (q4 : μ ≤ s0 + D.length) (e1 : s0 = 0 ∨ μ = s0 + D.length) (e2 : r0 = A.length ∨ r0 = μ)
  (ho : Rw E (fun p : T × Nat => cs p.1) h0 h x (P ++ (A ++ (D ++ U))) R)
  (hq : ∀ A1 A2 D1 D2, A = A1 ++ A2 → D = D1 ++ D2 → A1.length + D1.length = μ → (∀ p ∈ A1, ∀ q ∈ D2, lt' (zch c) p q) → (∀ p ∈ D1, ∀ q ∈ A2, lt' (zch c) p q) →
   zb.k3 C E f1 f2 Q x (.int .i64 (a : Int)) (.int .i64 (m : Int)) (.int .i64 (b : Int)) f (.int .i64 (mid : Int)) (.int .i64 ((P.length + A1.length : Nat) : Int)) (.int .i64 ((m + D1.length : Nat) : Int)) h) :
  zm (zb.l5 C E f1 f2 Q x (.int .i64 (a : Int)) (.int .i64 (m : Int)) (.int .i64 (b : Int)) f (.int .i64 (mid : Int)) (.int .i64 (n : Int)) (.int .i64 (pp : Int))) [.int .i64 ((P.length + s0 : Nat) : Int), .int .i64 ((P.length + r0 : Nat) : Int)] h := by
 have S' := S.comp (fun p : T × Nat => p.1)
 refine zm.intro (fun t vs hh => hh = h ∧ ∃ (s r : Nat), t = r - s ∧ vs = [.int .i64 ((P.length + s : Nat) : Int), .int .i64 ((P.length + r : Nat) : Int)] ∧ s0 ≤ s ∧ s ≤ r ∧ r ≤ r0 ∧
  (s = s0 ∨ 0 < s ∧ ∃ u w, A[s - 1]? = some u ∧ D[μ - s]? = some w ∧ lt' (zch c) u w) ∧ (r = r0 ∨ ∃ u w, A[r]? = some u ∧ D[μ - 1 - r]? = some w ∧ lt' (zch c) w u)) (r0 - s0) ?_
  ⟨rfl, s0, r0, rfl, rfl, Nat.le_refl _, q1, Nat.le_refl _, .inl rfl, .inl rfl⟩
 rintro Y t vs hh ⟨rfl, s, r, rfl, rfl, i1, i2, i3, lo, hi⟩ hY
 simp -dsimp only [zb.l5, zb.k4, lssN, B.ze]
 refine B.zk (fun hk => ?_) (fun hk => ?_)
 ·simp only [decide_eq_true_eq] at hk
  have hk' : s < r := by omega
  have hmd : (P.length + s + (P.length + r)) / 2 = P.length + (s + r) / 2 := by omega
  have k1 : s ≤ (s + r) / 2 := by omega
  have k2 : (s + r) / 2 < r := by omega
  have hpk : pp - (P.length + (s + r) / 2) = m + (μ - 1 - (s + r) / 2) := by omega
  simp -dsimp only [zpr (a := P.length + s) (b := P.length + r) (by omega), toU64 (a := P.length + s + (P.length + r)) (by omega), shr1, hmd, toI64 (a := P.length + (s + r) / 2) (by omega), zla (a := pp) (b := P.length + (s + r) / 2) (by omega) (by omega), hpk, B.ze]
  generalize hkk : (s + r) / 2 = k at *
  have gA : A[k]? = some A[k] := List.getElem?_eq_getElem (by omega)
  have gD : D[μ - 1 - k]? = some D[μ - 1 - k] := List.getElem?_eq_getElem (by omega)
  have g1 : (P ++ (A ++ (D ++ U)))[m + (μ - 1 - k)]? = some D[μ - 1 - k] := by
   rw [List.getElem?_append_right (by omega), List.getElem?_append_right (by omega), List.getElem?_append_left (by omega), show m + (μ - 1 - k) - P.length - A.length = μ - 1 - k by omega]; exact gD
  have g2 : (P ++ (A ++ (D ++ U)))[P.length + k]? = some A[k] := by
   rw [List.getElem?_append_right (by omega), List.getElem?_append_left (by omega), show P.length + k - P.length = k by omega]; exact gA
  simp -dsimp only [ho.idx (i := m + (μ - 1 - k)) (by simp; omega), ho.idx (i := P.length + k) (by simp; omega), B.ze]
  refine ho.ld S' g1 ?_
  refine ho.ld S' g2 ?_
  refine hc.call _ _ _ _ ho.le ?_
  simp -dsimp only [V.zfx, V.zf7, B.ze]
  have htt : A[k].2 < D[μ - 1 - k].2 := ht _ (List.getElem_mem _) _ (List.getElem_mem _)
  refine B.zk (fun hl => ?_) (fun hl => ?_)
  ·simp only [Bool.not_eq_true'] at hl
   have lz : lt' (zch c) A[k] D[μ - 1 - k] := (zs8 W htt).2 hl
   simp -dsimp only [add1 (a := P.length + k) (by omega), B.ze]
   refine hY (r - (k + 1)) _ _ (by omega) ⟨rfl, k + 1, r, rfl, by rw [Nat.add_assoc], by omega, by omega, i3, .inr ⟨by omega, A[k], D[μ - 1 - k], by rw [Nat.add_sub_cancel]; exact gA, by rw [show μ - (k + 1) = μ - 1 - k by omega]; exact gD, lz⟩, hi⟩
  ·simp only [Bool.not_eq_false'] at hl
   have lz : lt' (zch c) D[μ - 1 - k] A[k] := (lt'_gt htt).2 hl
   refine hY (k - s) _ _ (by omega) ⟨rfl, s, k, rfl, rfl, i1, by omega, by omega, lo, .inr ⟨A[k], D[μ - 1 - k], gA, gD, lz⟩⟩
 ·simp only [decide_eq_false_iff_not] at hk
  have e : s = r := by omega
  subst e
  simp -dsimp only [zla (a := n) (b := P.length + s) (by omega) (by omega), show n - (P.length + s) = m + (μ - s) by omega, B.ze]
  have := hq (A.take s) (A.drop s) (D.take (μ - s)) (D.drop (μ - s)) (List.take_append_drop _ _).symm (List.take_append_drop _ _).symm (by simp; omega) ?_ ?_
  ·rw [show (A.take s).length = s by simp; omega, show (D.take (μ - s)).length = μ - s by simp; omega] at this
   exact this
  ·intro p hp q hq2
   obtain ⟨i, k1, k2⟩ := zjj hp
   obtain ⟨j, k3, k4⟩ := zle hq2
   rcases lo with rfl | ⟨k0, u, w, hu, hw, huw⟩
   ·rcases e1 with e1 | e1
    ·omega
    ·have := (List.getElem?_eq_some_iff.1 k4).1; omega
   ·exact pw_high W pD (show μ - s ≤ j by omega) hw k4 (pw_low W pA (show i ≤ s - 1 by omega) k2 hu huw)
  ·intro p hp q hq2
   obtain ⟨i, k1, k2⟩ := zjj hp
   obtain ⟨j, k3, k4⟩ := zle hq2
   rcases hi with rfl | ⟨u, w, hu, hw, huw⟩
   ·rcases e2 with e2 | e2
    ·have := (List.getElem?_eq_some_iff.1 k4).1; omega
    ·omega
   ·exact pw_high W pA (show s ≤ j by omega) hu k4 (pw_low W pD (show i ≤ μ - 1 - s by omega) k2 hw huw)
theorem symMerge_spec (S : zc6 E cs v) (W : Weak (zch c)) {f1 f2 f3 : Nat} (hc : zed C v c f h0)
  (s1 : ∀ (x v1 v2 v3 f : AVal) (h : za) (Q : AVal → za → Prop), zb.cps C E f1 f2 x v1 v2 v3 f h (dn Q) → C f1 [x, v1, v2, v3, f] h Q)
  (s2 : ∀ (x v1 v2 v3 f : AVal) (h : za) (Q : AVal → za → Prop), zbk.cps C E f3 x v1 v2 v3 f h (dn Q) → C f2 [x, v1, v2, v3, f] h Q)
  (s3 : ∀ (x v1 v2 v3 f : AVal) (h : za) (Q : AVal → za → Prop), zbi.cps C E x v1 v2 v3 f h (dn Q) → C f3 [x, v1, v2, v3, f] h Q) :
  ∀ (k : Nat) (P A D U : List (T × Nat)) (a m b : Nat) (h : za) (Q : AVal → za → Prop), A.length + D.length = k → A ≠ [] → D ≠ [] → (P ++ (A ++ (D ++ U))).length ≤ 100000000 → a = P.length → m = P.length + A.length → b = P.length + A.length + D.length →
   A.Pairwise (lt' (zch c)) → D.Pairwise (lt' (zch c)) → (∀ p ∈ A, ∀ q ∈ D, p.2 < q.2) → Rw E (fun p : T × Nat => cs p.1) h0 h x (P ++ (A ++ (D ++ U))) R →
   (∀ h' M', M'.Perm (A ++ D) → M'.Pairwise (lt' (zch c)) → Rw E (fun p : T × Nat => cs p.1) h0 h' x (P ++ (M' ++ U)) R → Q (.tup []) h') →
   zb.cps C E f1 f2 x (.int .i64 (a : Int)) (.int .i64 (m : Int)) (.int .i64 (b : Int)) f h Q := by
 intro k
 induction k using Nat.strongRecOn with
 | ind k ih =>
 intro P A D U a m b h Q hk hA hD hlen ha hm hb pA pD ht ho hq
 have kA := List.length_pos_iff.2 hA
 have kD := List.length_pos_iff.2 hD
 by_cases hA1 : A.length = 1
 ·obtain ⟨y, rfl⟩ := List.length_eq_one_iff.1 hA1
  exact zsi S W (D := D) hlen pD (fun q hq => ht y (by simp) q hq) hc ha hm hb ho hq
 by_cases hD1 : D.length = 1
 ·obtain ⟨y, rfl⟩ := List.length_eq_one_iff.1 hD1
  exact zsh S W (by omega) hlen pA (fun q hq => ht q hq y (by simp)) hc ha hm hb ho hq
 simp only [List.length_append] at hlen
 generalize hμ : (A.length + D.length) / 2 = μ
 have hmd : (a + b) / 2 = P.length + μ := by omega
 have main : ∀ A1 A2 D1 D2, A = A1 ++ A2 → D = D1 ++ D2 → A1.length + D1.length = μ → (∀ p ∈ A1, ∀ q ∈ D2, lt' (zch c) p q) → (∀ p ∈ D1, ∀ q ∈ A2, lt' (zch c) p q) →
   zb.k3 C E f1 f2 Q x (.int .i64 (a : Int)) (.int .i64 (m : Int)) (.int .i64 (b : Int)) f (.int .i64 ((P.length + μ : Nat) : Int)) (.int .i64 ((P.length + A1.length : Nat) : Int)) (.int .i64 ((m + D1.length : Nat) : Int)) h := by
  rintro A1 A2 D1 D2 rfl rfl hl x1 x2
  simp only [List.length_append] at hlen hb hm hk hA1 hD1 hμ kA kD
  have pA' := List.pairwise_append.1 pA
  have pD' := List.pairwise_append.1 pD
  refine symTail S s1 s2 s3 (P := P) (A1 := A1) (A2 := A2) (D1 := D1) (D2 := D2) (U := U) ?_ ?_ (by omega) ha rfl (by omega) (by omega) (by omega) (by omega) pA pD x1 x2 (by simpa using ho) hq
  ·intro U h Q n1 n2 hl2 o hq
   exact ih _ (show A1.length + D1.length < k by omega) P A1 D1 U _ _ _ h Q rfl n1 n2 hl2 ha rfl (by omega) pA'.1 pD'.1 (fun p hp q hq => ht p (List.mem_append_left _ hp) q (List.mem_append_left _ hq)) o hq
  ·intro P2 h Q n1 n2 hp hl2 o hq
   exact ih _ (show A2.length + D2.length < k by omega) P2 A2 D2 U _ _ _ h Q rfl n1 n2 hl2 hp.symm (by omega) (by omega) pA'.2.1 pD'.2.1 (fun p hp q hq => ht p (List.mem_append_right _ hp) q (List.mem_append_right _ hq)) o hq
 simp -dsimp only [zb.cps, zb.k17, zla (a := m) (b := a) (by omega) (by omega), eql1, B.ze]
 rw [show decide (m - a = 1) = false by simp; omega, B.cond_false]
 simp -dsimp only [zb.k12, zla (a := b) (b := m) (by omega) (by omega), eql1, B.ze]
 rw [show decide (b - m = 1) = false by simp; omega, B.cond_false]
 simp -dsimp only [zb.k7, zb.k6, zpr (a := a) (b := b) (by omega), toU64 (a := a + b) (by omega), shr1, hmd, toI64 (a := P.length + μ) (by omega), zpr (a := P.length + μ) (b := m) (by omega), gtrN, B.ze]
 refine B.zk (fun hg => ?_) (fun hg => ?_)
 ·simp only [decide_eq_true_eq] at hg
  simp -dsimp only [zla (a := P.length + μ + m) (b := b) (by omega) (by omega), sub1 (a := P.length + μ + m) (by omega) (by omega), show P.length + μ + m - b = P.length + (μ - D.length) by omega, B.ze]
  exact symLoop S W (P := P) (A := A) (D := D) (U := U) (s0 := μ - D.length) (r0 := μ) hc pA pD ht (by omega) ha hm hb rfl rfl rfl (by omega) (by omega) (by omega) (by omega) (.inr (by omega)) (.inr rfl) ho main
 ·simp only [decide_eq_false_iff_not] at hg
  simp -dsimp only [sub1 (a := P.length + μ + m) (by omega) (by omega), B.ze]
  have := symLoop S W (f1 := f1) (f2 := f2) (P := P) (A := A) (D := D) (U := U) (s0 := 0) (r0 := A.length) (Q := Q) hc pA pD ht (by omega) ha hm hb rfl rfl rfl (by omega) (by omega) (by omega) (by omega) (.inl rfl) (.inl rfl) ho main
  rw [show P.length + 0 = a by omega, show P.length + A.length = m by omega] at this
  exact this
end
end Go.Ab
namespace Go.Ab
variable {C : CSem} {N : Nat → Nat}
theorem mul2l {a : Nat} (h : a < 2305843009213693952) : V.bin .mul (.int .i64 2) (.int .i64 (a : Int)) = some (.int .i64 ((2 * a : Nat) : Int)) := by
 rw [V.bin_mul, wrap_i64 (by omega) (by omega)]; simp
theorem mul2r {a : Nat} (h : a < 2305843009213693952) : V.bin .mul (.int .i64 (a : Int)) (.int .i64 2) = some (.int .i64 ((2 * a : Nat) : Int)) := by
 rw [V.bin_mul, wrap_i64 (by omega) (by omega)]; congr 2; omega
def Apt {T : Type} (A D : List (T × Nat)) : Prop := ∀ p ∈ A, ∀ q ∈ D, p.2 < q.2
theorem zr2 {X : Type} {bs : Nat} : ∀ {Bs : List (List X)}, (∀ B ∈ Bs, B.length = bs) → Bs.flatten.length = Bs.length * bs
 | [], _ => by simp
 | B :: Bs, h => by
  simp only [List.flatten_cons, List.length_append, List.length_cons, Nat.add_mul, Nat.one_mul]
  rw [h B (by simp), zr2 fun B hB => h B (by simp [hB])]; omega
section
variable {E : zx} {T : Type} {cs : T → List AVal} {v : T → AVal} {c : T → T → Int} {h0 h : za} {x f : AVal} {R : List (List AVal)} {Q : AVal → za → Prop}
theorem mergeAll_spec (S : zc6 E cs v) (W : Weak (zch c)) {f1 f2 f3 f4 : Nat} (hc : zed C v c f h0)
  (s1 : ∀ (x v1 v2 v3 f : AVal) (h : za) (Q : AVal → za → Prop), zb.cps C E f1 f2 x v1 v2 v3 f h (dn Q) → C f1 [x, v1, v2, v3, f] h Q)
  (s2 : ∀ (x v1 v2 v3 f : AVal) (h : za) (Q : AVal → za → Prop), zbk.cps C E f3 x v1 v2 v3 f h (dn Q) → C f2 [x, v1, v2, v3, f] h Q)
  (s3 : ∀ (x v1 v2 v3 f : AVal) (h : za) (Q : AVal → za → Prop), zbi.cps C E x v1 v2 v3 f h (dn Q) → C f3 [x, v1, v2, v3, f] h Q)
  {G0 M0 : List (T × Nat)} {Bs0 : List (List (T × Nat))} {bs0 n : Nat} (hbs : 0 < bs0) (hb1 : bs0 ≤ 200000000) (hn : n = G0.length) (hlen : G0.length ≤ 100000000)
  (hf : ∀ B ∈ Bs0, B.length = bs0 ∧ B.Pairwise (lt' (zch c))) (hM : M0.length < bs0) (hMs : M0.Pairwise (lt' (zch c))) (hap : (Bs0 ++ [M0]).Pairwise Apt) (hp : (Bs0.flatten ++ M0).Perm G0)
  (ho : Rw E (fun p : T × Nat => cs p.1) h0 h x (Bs0.flatten ++ M0) R)
  (hq : ∀ h' M', M'.Perm G0 → M'.Pairwise (lt' (zch c)) → Rw E (fun p : T × Nat => cs p.1) h0 h' x M' R → Q (.tup []) h') :
  zm (zi.l5 C E f1 f4 Q x (.int .i64 (n : Int)) f) [.int .i64 (bs0 : Int)] h := by
 have sm := symMerge_spec (R := R) (h0 := h0) (x := x) S W hc s1 s2 s3
 refine zm.intro (fun t vs hh => ∃ (bs : Nat) (Bs : List (List (T × Nat))) (M : List (T × Nat)), t = n - bs ∧ vs = [.int .i64 (bs : Int)] ∧ 0 < bs ∧ bs ≤ 200000000 ∧ (∀ B ∈ Bs, B.length = bs ∧ B.Pairwise (lt' (zch c))) ∧ M.length < bs ∧ M.Pairwise (lt' (zch c)) ∧
  (Bs ++ [M]).Pairwise Apt ∧ (Bs.flatten ++ M).Perm G0 ∧ Rw E (fun p : T × Nat => cs p.1) h0 hh x (Bs.flatten ++ M) R) (n - bs0) ?_ ⟨bs0, Bs0, M0, rfl, rfl, hbs, hb1, hf, hM, hMs, hap, hp, ho⟩
 rintro Y t vs hh ⟨bs, Bs, M, rfl, rfl, hbs, hb1, hf, hM, hMs, hap, hp, o⟩ hY
 simp -dsimp only [zi.l5, zi.k4, lssN, B.ze]
 have hl := hp.length_eq
 rw [List.length_append, zr2 fun B hB => (hf B hB).1] at hl
 refine B.zk (fun hk => ?_) (fun hk => ?_)
 ·simp only [decide_eq_true_eq] at hk
  simp -dsimp only [mul2l (a := bs) (by omega), B.ze]
  refine zm.intro (fun t vs h2 => ∃ (Cs Bs : List (List (T × Nat))), t = Bs.length ∧ vs = [.int .i64 ((Cs.flatten.length : Nat) : Int), .int .i64 ((Cs.flatten.length + 2 * bs : Nat) : Int)] ∧ (∀ B ∈ Cs, B.length = 2 * bs ∧ B.Pairwise (lt' (zch c))) ∧ (∀ B ∈ Bs, B.length = bs ∧ B.Pairwise (lt' (zch c))) ∧
   (Cs ++ (Bs ++ [M])).Pairwise Apt ∧ (Cs.flatten ++ (Bs.flatten ++ M)).Perm G0 ∧ Rw E (fun p : T × Nat => cs p.1) h0 h2 x (Cs.flatten ++ (Bs.flatten ++ M)) R) Bs.length ?_ ⟨[], Bs, rfl, by simp, by simp, hf, by simpa using hap, by simpa using hp, by simpa using o⟩
  clear hf hap hp o hl
  rintro Z t vs h2 ⟨Cs, Bs, rfl, rfl, hC, hf, hap, hp, o⟩ hZ
  have hl := hp.length_eq
  have hlB := zr2 fun B hB => (hf B hB).1
  simp only [List.length_append] at hl
  simp -dsimp only [zi.l3, zi.k2, leqN, B.ze]
  rw [List.pairwise_append, List.pairwise_append] at hap
  match Bs, hf, hap, hp, o, hZ, hlB, hl with
  | [], hf, hap, hp, o, hZ, hlB, hl =>
   simp only [List.length_nil, Nat.zero_mul, List.flatten_nil, List.nil_append] at hlB hl hap hp o
   rw [show decide (Cs.flatten.length + 2 * bs ≤ n) = false by simp only [decide_eq_false_iff_not]; omega, B.cond_false]
   simp -dsimp only [zi.k1, zpr (a := Cs.flatten.length) (b := bs) (by omega), lssN, mul2r (a := bs) (by omega), B.ze]
   rw [show decide (Cs.flatten.length + bs < n) = false by simp only [decide_eq_false_iff_not]; omega, B.cond_false]
   simp -dsimp only [mul2r (a := bs) (by omega), B.ze]
   refine hY (n - 2 * bs) _ _ (by omega) ⟨2 * bs, Cs, M, rfl, rfl, by omega, by omega, hC, by omega, hMs, ?_, hp, o⟩
   rw [List.pairwise_append]; exact ⟨hap.1, List.pairwise_singleton .., hap.2.2⟩
  | [B1], hf, hap, hp, o, hZ, hlB, hl =>
   simp only [List.length_singleton, Nat.one_mul, List.flatten_cons, List.flatten_nil, List.append_nil] at hlB hl hp o
   have hB1 := hf B1 (by simp)
   have hB1l := hB1.1
   rw [show decide (Cs.flatten.length + 2 * bs ≤ n) = false by simp only [decide_eq_false_iff_not]; omega, B.cond_false]
   simp -dsimp only [zi.k1, zpr (a := Cs.flatten.length) (b := bs) (by omega), lssN, B.ze]
   have hBM : Apt B1 M := by
    have := hap.2.1.2.2 B1 (by simp) M (by simp); exact this
   have hCB : ∀ A ∈ Cs, Apt A B1 := fun A hA => hap.2.2 A hA B1 (by simp)
   have hCM : ∀ A ∈ Cs, Apt A M := fun A hA => hap.2.2 A hA M (by simp)
   refine B.zk (fun hg => ?_) (fun hg => ?_)
   ·simp only [decide_eq_true_eq] at hg
    refine s1 _ _ _ _ _ _ _ (sm _ Cs.flatten B1 M [] _ _ _ h2 _ rfl (by rintro rfl; simp at hB1; omega) (by rintro rfl; simp only [List.length_nil] at hl; omega) (by simp only [List.length_append, List.length_nil]; omega) rfl (by rw [hB1.1]) (by omega) hB1.2 hMs hBM (by simpa using o) fun h3 M' p3 w3 o3 => zba ?_)
    simp -dsimp only [mul2r (a := bs) (by omega), B.ze]
    have l3 := p3.length_eq
    rw [List.length_append] at l3
    refine hY (n - 2 * bs) _ _ (by omega) ⟨2 * bs, Cs, M', rfl, rfl, by omega, by omega, hC, by omega, w3, ?_, ?_, by simpa using o3⟩
    ·rw [List.pairwise_append]
     refine ⟨hap.1, List.pairwise_singleton .., fun A hA D hD => ?_⟩
     rw [List.mem_singleton.1 hD]
     intro p hpA q hq
     rcases List.mem_append.1 (p3.mem_iff.1 hq) with k | k
     ·exact hCB A hA p hpA q k
     ·exact hCM A hA p hpA q k
    ·exact (List.Perm.append_left _ p3).trans hp
   ·simp only [decide_eq_false_iff_not] at hg
    have : M = [] := List.eq_nil_of_length_eq_zero (by omega)
    subst this
    simp -dsimp only [mul2r (a := bs) (by omega), B.ze]
    refine hY (n - 2 * bs) _ _ (by omega) ⟨2 * bs, Cs, B1, rfl, rfl, by omega, by omega, hC, by omega, hB1.2, ?_, by simpa using hp, by simpa using o⟩
    rw [List.pairwise_append]
    refine ⟨hap.1, List.pairwise_singleton .., fun A hA D hD => ?_⟩
    rw [List.mem_singleton.1 hD]
    exact hCB A hA
  | B1 :: B2 :: Bs, hf, hap, hp, o, hZ, hlB, hl =>
   simp only [List.length_cons, List.flatten_cons, List.length_append] at hlB hl
   have hB1 := hf B1 (by simp)
   have hB2 := hf B2 (by simp)
   simp only [List.flatten_cons, List.append_assoc] at hp o
   rw [show decide (Cs.flatten.length + 2 * bs ≤ n) = true by simp only [decide_eq_true_eq]; omega, B.cond_true]
   simp -dsimp only [zpr (a := Cs.flatten.length) (b := bs) (by omega), B.ze]
   have h12 : Apt B1 B2 := by
    have := hap.2.1.1; rw [List.pairwise_cons] at this; exact this.1 B2 (by simp)
   refine s1 _ _ _ _ _ _ _ (sm _ Cs.flatten B1 B2 (Bs.flatten ++ M) _ _ _ h2 _ rfl (by rintro rfl; simp at hB1; omega) (by rintro rfl; simp at hB2; omega) (by simp only [List.length_append]; omega) rfl (by rw [hB1.1]) (by omega) hB1.2 hB2.2 h12 o fun h3 M' p3 w3 o3 => zba ?_)
   simp -dsimp only [mul2l (a := bs) (by omega), zpr (a := Cs.flatten.length + 2 * bs) (b := 2 * bs) (by omega), B.ze]
   have l3 := p3.length_eq
   rw [List.length_append] at l3
   have e3 : (Cs ++ [M']).flatten = Cs.flatten ++ M' := by simp
   refine hZ Bs.length _ _ (by simp; omega) ⟨Cs ++ [M'], Bs, rfl, ?_, ?_, fun B hB => hf B (by simp [hB]), ?_, ?_, ?_⟩
   ·rw [e3, List.length_append]; rw [show Cs.flatten.length + M'.length = Cs.flatten.length + 2 * bs by omega]
   ·intro B hB
    rcases List.mem_append.1 hB with k | k
    ·exact hC B k
    ·rw [List.mem_singleton.1 k]; exact ⟨by omega, w3⟩
   ·have a1 := hap.2.1.1
    rw [List.pairwise_cons, List.pairwise_cons] at a1
    rw [List.append_assoc, List.pairwise_append]
    refine ⟨hap.1, ?_, ?_⟩
    ·rw [List.singleton_append, List.pairwise_cons]
     refine ⟨fun D hD p hpM q hq => ?_, ?_⟩
     ·rcases List.mem_append.1 (p3.mem_iff.1 hpM) with k | k
      ·rcases List.mem_append.1 hD with kk | kk
       ·exact a1.1 D (by simp [kk]) p k q hq
       ·exact hap.2.1.2.2 B1 (by simp) D kk p k q hq
      ·rcases List.mem_append.1 hD with kk | kk
       ·exact a1.2.1 D kk p k q hq
       ·exact hap.2.1.2.2 B2 (by simp) D kk p k q hq
     ·rw [List.pairwise_append]
      exact ⟨a1.2.2, List.pairwise_singleton .., fun A hA D hD => hap.2.1.2.2 A (by simp [hA]) D hD⟩
    ·intro A hA D hD
     rcases List.mem_append.1 hD with k | k
     ·rw [List.mem_singleton.1 k]
      intro p hpA q hq
      rcases List.mem_append.1 (p3.mem_iff.1 hq) with kk | kk
      ·exact hap.2.2 A hA B1 (by simp) p hpA q kk
      ·exact hap.2.2 A hA B2 (by simp) p hpA q kk
     ·refine hap.2.2 A hA D ?_
      rcases List.mem_append.1 k with kk | kk
      ·simp [kk]
      ·simp at kk; simp [kk]
   ·rw [e3, List.append_assoc]
    refine List.Perm.trans (List.Perm.append_left _ ?_) hp
    rw [← List.append_assoc B1]
    exact List.Perm.append_right _ p3
   ·rw [e3, List.append_assoc]; exact o3
 ·simp only [decide_eq_false_iff_not] at hk
  refine hq hh (Bs.flatten ++ M) hp ?_ o
  match Bs, hf, hl with
  | [], _, _ => simpa using hMs
  | [B1], hf, hl =>
   have hB1 := hf B1 (by simp)
   simp at hl
   have : M = [] := List.eq_nil_of_length_eq_zero (by omega)
   subst this
   simpa using hB1.2
  | B1 :: B2 :: Bs, hf, hl =>
   simp only [List.length_cons, Nat.add_mul, Nat.one_mul] at hl
   omega
end
end Go.Ab
namespace Go.Ab
variable {C : CSem} {N : Nat → Nat}
section
variable {E : zx} {T : Type} {cs : T → List AVal} {v : T → AVal} {c : T → T → Int} {h0 h : za} {x f : AVal} {R : List (List AVal)} {Q : AVal → za → Prop}
structure SortFns (C : CSem) (E : zx) (f1 f2 f3 f4 f5 : Nat) : Prop where
 s1 : ∀ (x v1 v2 v3 f : AVal) (h : za) (Q : AVal → za → Prop), zb.cps C E f1 f2 x v1 v2 v3 f h (dn Q) → C f1 [x, v1, v2, v3, f] h Q
 s2 : ∀ (x v1 v2 v3 f : AVal) (h : za) (Q : AVal → za → Prop), zbk.cps C E f3 x v1 v2 v3 f h (dn Q) → C f2 [x, v1, v2, v3, f] h Q
 s3 : ∀ (x v1 v2 v3 f : AVal) (h : za) (Q : AVal → za → Prop), zbi.cps C E x v1 v2 v3 f h (dn Q) → C f3 [x, v1, v2, v3, f] h Q
 s4 : ∀ (x v1 v2 f : AVal) (h : za) (Q : AVal → za → Prop), zn.cps C E x v1 v2 f h (dn Q) → C f4 [x, v1, v2, f] h Q
 s5 : ∀ (x v1 f : AVal) (h : za) (Q : AVal → za → Prop), zi.cps C E f1 f4 x v1 f h (dn Q) → C f5 [x, v1, f] h Q
theorem stable_spec (S : zc6 E cs v) (W : Weak (zch c)) {f1 f2 f3 f4 f5 : Nat} (F : SortFns C E f1 f2 f3 f4 f5) (hc : zed C v c f h0)
  {G0 : List (T × Nat)} {n : Nat} (hn : n = G0.length) (hlen : G0.length ≤ 100000000) (ht : G0.Pairwise fun a b => a.2 < b.2) (ho : Rw E (fun p : T × Nat => cs p.1) h0 h x G0 R)
  (hq : ∀ h' M', M'.Perm G0 → M'.Pairwise (lt' (zch c)) → Rw E (fun p : T × Nat => cs p.1) h0 h' x M' R → Q (.tup []) h') :
  zi.cps C E f1 f4 x (.int .i64 (n : Int)) f h Q := by
 show zm (zi.l7 C E f1 f4 Q x (.int .i64 (n : Int)) f (.int .i64 ((20 : Nat) : Int))) [.int .i64 ((0 : Nat) : Int), .int .i64 ((20 : Nat) : Int)] h
 refine zm.intro (fun t vs hh => ∃ (Bs : List (List (T × Nat))) (M : List (T × Nat)), t = M.length ∧ vs = [.int .i64 ((Bs.flatten.length : Nat) : Int), .int .i64 ((Bs.flatten.length + 20 : Nat) : Int)] ∧ (∀ B ∈ Bs, B.length = 20 ∧ B.Pairwise (lt' (zch c))) ∧
  M.Pairwise (fun a b => a.2 < b.2) ∧ (Bs ++ [M]).Pairwise Apt ∧ (Bs.flatten ++ M).Perm G0 ∧ Rw E (fun p : T × Nat => cs p.1) h0 hh x (Bs.flatten ++ M) R) G0.length ?_
  ⟨[], G0, rfl, by simp, by simp, ht, List.pairwise_singleton .., by simp, by simpa using ho⟩
 rintro Y t vs hh ⟨Bs, M, rfl, rfl, hf, hM, hap, hp, o⟩ hY
 have hl := hp.length_eq
 rw [List.length_append] at hl
 simp -dsimp only [zi.l7, zi.k6, leqN, B.ze]
 refine B.zk (fun hk => ?_) (fun hk => ?_)
 ·simp only [decide_eq_true_eq] at hk
  have t1 : (M.take 20).length = 20 := by simp; omega
  have eM := (List.take_append_drop 20 M).symm
  have o2 : Rw E (fun p : T × Nat => cs p.1) h0 hh x (Bs.flatten ++ (M.take 20 ++ M.drop 20)) R := by rw [← eM]; exact o
  have hM2 := hM
  rw [eM, List.pairwise_append] at hM2
  refine F.s4 _ _ _ _ _ _ (zf9 S W (P := Bs.flatten) (M := M.take 20) (U := M.drop 20) (by rw [← eM, List.length_append]; omega) hM2.1 hc rfl (by rw [t1]) o2 fun h2 M' p2 w2 o3 => zba ?_)
  have l2 := p2.length_eq
  rw [t1] at l2
  simp -dsimp only [zpr (a := Bs.flatten.length + 20) (b := 20) (by omega), B.ze]
  have e3 : (Bs ++ [M']).flatten = Bs.flatten ++ M' := by simp
  rw [List.pairwise_append] at hap
  refine hY (M.drop 20).length _ _ (by simp; omega) ⟨Bs ++ [M'], M.drop 20, rfl, ?_, ?_, hM2.2.1, ?_, ?_, ?_⟩
  ·rw [e3, List.length_append, l2]
  ·intro B hB
   rcases List.mem_append.1 hB with k | k
   ·exact hf B k
   ·rw [List.mem_singleton.1 k]; exact ⟨l2, w2⟩
  ·rw [List.append_assoc, List.pairwise_append, List.singleton_append, List.pairwise_cons]
   refine ⟨hap.1, ⟨fun D hD p hp q hq => ?_, List.pairwise_singleton ..⟩, fun A hA D hD p hp q hq => ?_⟩
   ·rw [List.mem_singleton.1 hD] at hq
    exact hM2.2.2 p (p2.mem_iff.1 hp) q hq
   ·rcases List.mem_cons.1 hD with rfl | hD
    ·exact hap.2.2 A hA M (by simp) p hp q (List.mem_of_mem_take (p2.mem_iff.1 hq))
    ·rw [List.mem_singleton.1 hD] at hq
     exact hap.2.2 A hA M (by simp) p hp q (List.mem_of_mem_drop hq)
  ·rw [e3, List.append_assoc]
   refine List.Perm.trans (List.Perm.append_left _ ?_) hp
   conv => rhs; rw [eM]
   exact List.Perm.append_right _ p2
  ·rw [e3, List.append_assoc]; exact o3
 ·simp only [decide_eq_false_iff_not] at hk
  refine F.s4 _ _ _ _ _ _ (zf9 S W (P := Bs.flatten) (M := M) (U := []) (by rw [List.append_nil, List.length_append]; omega) hM hc rfl (by omega) (by simpa using o) fun h2 M' p2 w2 o3 => zba ?_)
  have l2 := p2.length_eq
  rw [List.append_nil] at o3
  rw [List.pairwise_append] at hap
  refine mergeAll_spec S W hc F.s1 F.s2 F.s3 (by omega) (by omega) hn hlen hf (by omega) w2 ?_ ((List.Perm.append_left _ p2).trans hp) o3 hq
  rw [List.pairwise_append]
  refine ⟨hap.1, List.pairwise_singleton .., fun A hA D hD p hp q hq => ?_⟩
  rw [List.mem_singleton.1 hD] at hq
  exact hap.2.2 A hA M (by simp) p hp q (p2.mem_iff.1 hq)
theorem zipIdx_up {X : Type} (L : List X) : L.zipIdx.Pairwise fun a b => a.2 < b.2 := by
 rw [List.pairwise_iff_getElem]
 intro i j h1 h2 hij
 simp [List.getElem_zipIdx]
 omega
theorem zlb (S : zc6 E cs v) (W : Weak (zch c)) {f1 f2 f3 f4 f5 : Nat} (F : SortFns C E f1 f2 f3 f4 f5) (hc : zed C v c f h0)
  {L : List T} (hlen : L.length ≤ 100000000) (ho : Rw E cs h0 h x L R)
  (hq : ∀ h' L', zf5 (zch c) L L' → Rw E cs h0 h' x L' R → Q (.tup []) h') :
  zfi.cps C E f5 x f h Q := by
 simp -dsimp only [zfi.cps, ho.lenE, B.ze]
 have e : (L.zipIdx.map fun p : T × Nat => cs p.1) = L.map cs := by
  have := congrArg (List.map cs) (List.zipIdx_map_fst 0 L)
  rw [List.map_map] at this
  exact this
 refine F.s5 _ _ _ _ _ (stable_spec (G0 := L.zipIdx) S W F hc (by simp) (by simpa using hlen) (zipIdx_up L) (by unfold Rw; rw [e]; exact ho) fun h' M' p w o => zba ?_)
 refine hq h' (M'.map (·.1)) ⟨M', rfl, p, w⟩ ?_
 unfold Rw at o ⊢
 rw [List.map_map]; exact o
end
end Go.Ab
namespace Go.Ab
section
variable {T : Type} {c : T → T → Int}
def posB (c : T → T → Int) (x : T) (out : List T) : Nat → Nat
 | 0 => 0
 | n + 1 => match out[n]? with
  | some o => if c x o < 0 then posB c x out n else n + 1
  | none => n + 1
def insB (c : T → T → Int) (out : List T) (x : T) : List T := out.take (posB c x out out.length) ++ x :: out.drop (posB c x out out.length)
def sortB (c : T → T → Int) (L : List T) : List T := L.foldl (insB c) []
theorem posB_le (x : T) (out : List T) : ∀ n, posB c x out n ≤ n
 | 0 => Nat.le_refl _
 | n + 1 => by
  unfold posB
  have := posB_le x out n
  split
  ·split <;> omega
  ·omega
theorem zs2 (x : T) (out : List T) : ∀ n, n ≤ out.length → ∀ i o, posB c x out n ≤ i → i < n → out[i]? = some o → c x o < 0
 | 0, _, i, o, _, h, _ => by omega
 | n + 1, hn, i, o, h1, h2, h3 => by
  unfold posB at h1
  rw [List.getElem?_eq_getElem (show n < out.length by omega)] at h1
  simp only at h1
  split at h1
  ·rename_i hc
   by_cases e : i = n
   ·subst e
    rw [List.getElem?_eq_getElem (show i < out.length by omega)] at h3
    cases h3; exact hc
   ·exact zs2 x out n (by omega) i o h1 (by omega) h3
  ·omega
theorem posB_last (x : T) (out : List T) : ∀ n, n ≤ out.length → posB c x out n = 0 ∨ ∃ o, out[posB c x out n - 1]? = some o ∧ ¬ c x o < 0
 | 0, _ => .inl rfl
 | n + 1, hn => by
  have hg := List.getElem?_eq_getElem (show n < out.length by omega)
  by_cases hc : c x out[n] < 0
  ·have e : posB c x out (n + 1) = posB c x out n := by
    rw [posB, hg]; simp [hc]
   rw [e]; exact posB_last x out n (by omega)
  ·have e : posB c x out (n + 1) = n + 1 := by
    rw [posB, hg]; simp [hc]
   rw [e]; exact .inr ⟨out[n], by rw [Nat.add_sub_cancel]; exact hg, hc⟩
theorem insB_step (W : Weak (zch c)) {G : List (T × Nat)} {x : T} {n : Nat} (hs : G.Pairwise (lt' (zch c))) (ht : ∀ p ∈ G, p.2 < n) :
  ∃ G' : List (T × Nat), G'.map (·.1) = insB c (G.map (·.1)) x ∧ G'.Perm (G ++ [(x, n)]) ∧ G'.Pairwise (lt' (zch c)) := by
 generalize hk : posB c x (G.map (·.1)) (G.map (·.1)).length = k
 have hkl : k ≤ G.length := by have := posB_le (c := c) x (G.map (·.1)) (G.map (·.1)).length; rw [hk] at this; simpa using this
 refine ⟨G.take k ++ (x, n) :: G.drop k, ?_, ?_, ?_⟩
 ·unfold insB; rw [hk]; simp
 ·have h1 : (G.take k ++ (x, n) :: G.drop k).Perm ((x, n) :: (G.take k ++ G.drop k)) := List.perm_middle
  rw [List.take_append_drop] at h1
  exact h1.trans (List.perm_append_singleton _ _).symm
 ·have hG := hs
  rw [← List.take_append_drop k G, List.pairwise_append] at hs
  rw [List.pairwise_append, List.pairwise_cons]
  have up : ∀ p ∈ G.drop k, lt' (zch c) (x, n) p := fun p hp => by
   obtain ⟨i, h1, h2⟩ := zle hp
   have hi := (List.getElem?_eq_some_iff.1 h2).1
   have := zs2 (c := c) x (G.map (·.1)) _ (Nat.le_refl _) i p.1 (by rw [hk]; exact h1) (by simpa using hi) (by rw [List.getElem?_map, h2]; rfl)
   exact .inl (by simpa [zch] using this)
  have lo : ∀ p ∈ G.take k, lt' (zch c) p (x, n) := fun p hp => by
   obtain ⟨i, h1, h2⟩ := zjj hp
   rcases posB_last (c := c) x (G.map (·.1)) _ (Nat.le_refl _) with h0 | ⟨o, ho, hc⟩
   ·rw [hk] at h0; omega
   ·rw [hk, List.getElem?_map] at ho
    cases hq : G[k - 1]? with
    | none => rw [hq] at ho; cases ho
    | some q =>
     rw [hq] at ho; cases ho
     refine pw_low W hG (show i ≤ k - 1 by omega) h2 hq ?_
     exact (zs8 (x := q) (y := (x, n)) W (ht q (List.mem_of_getElem? hq))).2 (by simpa [zch] using hc)
  refine ⟨hs.1, ⟨up, hs.2.1⟩, fun p hp q hq => ?_⟩
  rcases List.mem_cons.1 hq with rfl | hq
  ·exact lo p hp
  ·exact hs.2.2 p hp q hq
theorem zh5 (W : Weak (zch c)) (L : List T) : zf5 (zch c) L (sortB c L) := by
 suffices h : ∀ k, k ≤ L.length → ∃ G : List (T × Nat), G.map (·.1) = (L.take k).foldl (insB c) [] ∧ G.Perm (L.zipIdx.take k) ∧ G.Pairwise (lt' (zch c)) by
  have := h L.length (Nat.le_refl _)
  rw [List.take_length, List.take_of_length_le (by simp)] at this
  exact this
 intro k
 induction k with
 | zero => exact fun _ => ⟨[], rfl, by simp, .nil⟩
 | succ k ih =>
  intro hk
  obtain ⟨G, h1, h2, h3⟩ := ih (by omega)
  have hg : L.zipIdx.take (k + 1) = L.zipIdx.take k ++ [(L[k], k)] := by
   rw [List.take_add_one, List.getElem?_eq_getElem (by rw [List.length_zipIdx]; omega)]
   simp [List.getElem_zipIdx]
  have hl : L.take (k + 1) = L.take k ++ [L[k]] := by
   rw [List.take_add_one, List.getElem?_eq_getElem (show k < L.length by omega)]; rfl
  have ht : ∀ p ∈ G, p.2 < k := fun p hp => by
   obtain ⟨i, i1, i2⟩ := zjj (h2.mem_iff.1 hp)
   obtain ⟨j1, j2⟩ := List.getElem?_eq_some_iff.1 i2
   rw [List.getElem_zipIdx] at j2
   rw [← j2]; simpa using i1
  obtain ⟨G', g1, g2, g3⟩ := insB_step W (x := L[k]) h3 ht
  refine ⟨G', ?_, ?_, g3⟩
  ·rw [g1, hl, List.foldl_append, h1]; rfl
  ·rw [hg]; exact g2.trans (List.Perm.append_right _ h2)
theorem zpv (W : Weak (zch c)) {L S : List T} (h : zf5 (zch c) L S) : S = sortB c L := h.unique W (zh5 W L)
end
end Go.Ab
namespace Go.Ab
variable {C : CSem} {N : Nat → Nat}
section
variable {E : zx} {T : Type} {cs : T → List AVal} {v : T → AVal}
def AskSpec (C : CSem) (v : T → AVal) (f : AVal) (p : T → Bool) (h : za) : Prop := ∀ (t : T) (h' : za) (K : AVal → za → Prop), h.le h' → K (.bool (p t)) h' → B.zjc h' C f [v t] K
def idxI (p : T → Bool) (L : List T) : Int := match L.findIdx? p with | some i => (i : Int) | none => -1
theorem findIdx_first {α : Type} {p : α → Bool} {L : List α} {k : Nat} (hk : k < L.length) (h : ∀ i, i < k → ∀ a, L[i]? = some a → p a = false) (hp : p L[k] = true) : L.findIdx? p = some k := by
 rw [List.findIdx?_eq_some_iff_getElem]
 exact ⟨hk, hp, fun j hj => by simp [h j hj _ (List.getElem?_eq_getElem (by omega))]⟩
theorem zsp (S : zc6 E cs v) {x f : AVal} {p : T → Bool} {L : List T} {R : List (List AVal)} {h : za} {Q : AVal → za → Prop} (hx : SlX h E.es x (L.map cs) R) (hlen : L.length < 4611686018427387904) (hf : AskSpec C v f p h)
  (hq : Q (.int .i64 (idxI p L)) h) : zdz.cps C E x f h Q := by
 have e1 := hx.zcj
 rw [List.length_map] at e1
 simp -dsimp only [zdz.cps, e1, B.ze]
 refine zm.intro (fun t vs hh => hh = h ∧ ∃ k : Nat, k + t = L.length ∧ vs = [.int .i64 (k : Int)] ∧ ∀ i, i < k → ∀ a, L[i]? = some a → p a = false) L.length ?_ ⟨rfl, 0, by omega, rfl, fun i hi => by omega⟩
 rintro Y t vs h ⟨rfl, k, ht, rfl, hno⟩ hY
 simp -dsimp only [zdz.l2, zdz.k1, lssN, B.ze]
 refine B.zk (fun hb => ?_) (fun hb => ?_) <;> simp only [decide_eq_true_eq, decide_eq_false_iff_not] at hb
 ·have hg : (L.map cs)[k]? = some (cs L[k]) := by rw [List.getElem?_map, List.getElem?_eq_getElem hb]; rfl
  have hidx : V.idxS E.es x (.int .i64 (k : Int)) = some (elp E.es x k 0) := hx.idxN (by simpa using hb)
  simp -dsimp only [hidx, B.ze]
  refine S.ld hx hg ?_
  refine hf _ _ _ (za.le_refl _) ?_
  refine B.zk (fun hc => ?_) (fun hc => ?_)
  ·have : idxI p L = (k : Int) := by rw [idxI, findIdx_first hb hno hc]
   rw [this] at hq; exact hq
  ·simp -dsimp only [add1 (show k < 4611686018427387904 by omega), B.ze]
   refine hY (L.length - (k + 1)) _ _ (by omega) ⟨rfl, k + 1, by omega, rfl, fun i hi a ha => ?_⟩
   by_cases e : i = k
   ·subst e; rw [List.getElem?_eq_getElem hb] at ha; cases ha; exact hc
   ·exact hno i (by omega) a ha
 ·have : idxI p L = -1 := by
   have : L.findIdx? p = none := by
    rw [List.findIdx?_eq_none_iff]
    intro a ha
    obtain ⟨j, hj, rfl⟩ := List.getElem_of_mem ha
    exact hno j (by omega) _ (List.getElem?_eq_getElem hj)
   rw [idxI, this]
  rw [this] at hq; exact hq
theorem idxI_any (p : T → Bool) (L : List T) : decide (0 ≤ idxI p L) = L.any p := by
 unfold idxI
 cases h : L.findIdx? p with
 | none =>
  rw [List.findIdx?_eq_none_iff] at h
  have : L.any p = false := by
   rw [List.any_eq_false]; intro a ha; simp [h a ha]
  rw [this]; rfl
 | some i =>
  obtain ⟨hi, hp, _⟩ := List.findIdx?_eq_some_iff_getElem.1 h
  have : L.any p = true := List.any_eq_true.2 ⟨_, List.getElem_mem hi, hp⟩
  rw [this, decide_eq_true_eq]; show (0 : Int) ≤ (i : Int); omega
theorem zpn {f1 : Nat} {x f : AVal} {p : T → Bool} {L : List T} {h : za} {Q : AVal → za → Prop} (s1 : ∀ Q' : AVal → za → Prop, Q' (.int .i64 (idxI p L)) h → C f1 [x, f] h Q')
  (hq : Q (.bool (L.any p)) h) : zgq.cps C E f1 x f h Q := by
 simp -dsimp only [zgq.cps]
 refine s1 _ ?_
 simp -dsimp only [V.znu, B.ze, idxI_any]
 exact hq
end
end Go.Ab
namespace Go.Ab
variable {C : CSem}
structure zc8 {X : Type} (a b : Nat) (G G' : List X) : Prop where
 perm : G'.Perm G
 out : ∀ i, i < a ∨ b ≤ i → G'[i]? = G[i]?
theorem zc8.refl {X : Type} (a b : Nat) (G : List X) : zc8 a b G G := ⟨.refl _, fun _ _ => rfl⟩
theorem zc8.trans {X : Type} {a b : Nat} {G G' G'' : List X} (x : zc8 a b G G') (y : zc8 a b G' G'') : zc8 a b G G'' := ⟨y.perm.trans x.perm, fun i hi => (y.out i hi).trans (x.out i hi)⟩
theorem zc8.mono {X : Type} {a b a' b' : Nat} {G G' : List X} (x : zc8 a b G G') (ha : a' ≤ a) (hb : b ≤ b') : zc8 a' b' G G' := ⟨x.perm, fun i hi => x.out i (by omega)⟩
theorem zc8.len {X : Type} {a b : Nat} {G G' : List X} (x : zc8 a b G G') : G'.length = G.length := x.perm.length_eq
theorem zc8.same {X : Type} {a b : Nat} {G G' : List X} (w : zc8 a b G G') {k : Nat} (hk : k < a ∨ b ≤ k) (h1 : k < G'.length) (h2 : k < G.length) : G'[k] = G[k] := by
 have := w.out k hk
 rw [List.getElem?_eq_getElem h1, List.getElem?_eq_getElem h2] at this
 exact Option.some.inj this
def swp {X : Type} (G : List X) (i j : Nat) (hi : i < G.length) (hj : j < G.length) : List X := (G.set i G[j]).set j G[i]
theorem swp_perm {X : Type} {G : List X} {i j : Nat} (hi : i < G.length) (hj : j < G.length) : (swp G i j hi hj).Perm G := by
 unfold swp
 exact List.set_set_perm hi hj
theorem swp_get {X : Type} {G : List X} {i j : Nat} (hi : i < G.length) (hj : j < G.length) (k : Nat) : (swp G i j hi hj)[k]? = if k = j then some G[i] else if k = i then some G[j] else G[k]? := by
 unfold swp
 rw [List.getElem?_set]
 by_cases e : j = k
 ·subst e; simp [hj]
 ·rw [if_neg e, if_neg (Ne.symm e), List.getElem?_set]
  by_cases e2 : i = k
  ·subst e2; simp [hi]
  ·rw [if_neg e2, if_neg (Ne.symm e2)]
theorem ze6 {X : Type} {G : List X} {i j a b : Nat} (hi : i < G.length) (hj : j < G.length) (h1 : a ≤ i) (h2 : i < b) (h3 : a ≤ j) (h4 : j < b) : zc8 a b G (swp G i j hi hj) := ⟨swp_perm hi hj, fun k hk => by
 rw [swp_get, if_neg (by omega), if_neg (by omega)]⟩
section
variable {E : zx} {X : Type} {cs : X → List AVal} {v : X → AVal} {h0 h : za} {x f : AVal} {G : List X} {R : List (List AVal)} {c : X → X → Int}
theorem Rw.swap (ho : Rw E cs h0 h x G R) (S : zc6 E cs v) {i j : Nat} (hi : i < G.length) (hj : j < G.length) {K : za → Prop} (hk : ∀ h', Rw E cs h0 h' x (swp G i j hi hj) R → K h') :
  E.st h (elp E.es x i 0) (v G[j]) fun h => E.st h (elp E.es x j 0) (v G[i]) K := by
 refine ho.st S (t := G[j]) hi fun h1 o1 => ?_
 exact o1.st S (t := G[i]) (by simpa using hj) fun h2 o2 => hk h2 o2
theorem quo4 {a : Nat} (h : a < 4611686018427387904) : V.bin .quo (.int .i64 (a : Int)) (.int .i64 4) = some (.int .i64 ((a / 4 : Nat) : Int)) := by
 rw [V.bin_quo _ _ _ (by omega), show (a : Int).tdiv 4 = ((a / 4 : Nat) : Int) from rfl, wrap_i64 (by omega) (by omega)]
theorem mulN {a b : Nat} (h : a * b < 4611686018427387904) : V.bin .mul (.int .i64 (a : Int)) (.int .i64 (b : Int)) = some (.int .i64 ((a * b : Nat) : Int)) := by
 rw [V.bin_mul, show (a : Int) * (b : Int) = ((a * b : Nat) : Int) by simp, wrap_i64 (by omega) (by omega)]
theorem zse {a b : Nat} (h : a + b < 4611686018427387904) : V.bin .add (.int .i64 (a : Int)) (.int .i64 (b : Int)) = some (.int .i64 ((a + b : Nat) : Int)) := by
 rw [V.znv, show (a : Int) + (b : Int) = ((a + b : Nat) : Int) by simp, wrap_i64 (by omega) (by omega)]
theorem zi9 {a b : Nat} (h : b ≤ a) (h2 : a < 4611686018427387904) : V.bin .sub (.int .i64 (a : Int)) (.int .i64 (b : Int)) = some (.int .i64 ((a - b : Nat) : Int)) := by
 rw [V.zf3, show (a : Int) - (b : Int) = ((a - b : Nat) : Int) by omega, wrap_i64 (by omega) (by omega)]
theorem geqN {a b : Nat} : V.bin .geq (.int .i64 (a : Int)) (.int .i64 (b : Int)) = some (.bool (decide (b ≤ a))) := by rw [V.znu]; congr 3; exact propext (by omega)
end
end Go.Ab
namespace Go.Ab
variable {C : CSem}
structure PInv {X : Type} (c : X → X → Int) (a b : Nat) (G : List X) (i j : Nat) : Prop where
 hb : b ≤ G.length
 hi : a < i
 hj : j < b
 hij : i ≤ j + 1
 lo : ∀ k (h : k < G.length) (ha : a < G.length), a < k → k < i → c G[k] G[a] < 0
 hi2 : ∀ k (h : k < G.length) (ha : a < G.length), j < k → k < b → ¬ c G[k] G[a] < 0
structure zjo {X : Type} (c : X → X → Int) (a b m : Nat) (G : List X) : Prop where
 ge : a ≤ m
 lt : m < b
 hb : b ≤ G.length
 lo : ∀ k (h : k < G.length) (hm : m < G.length), a ≤ k → k < m → c G[k] G[m] < 0
 hi : ∀ k (h : k < G.length) (hm : m < G.length), m < k → k < b → ¬ c G[k] G[m] < 0
section
variable {E : zx} {X : Type} {cs : X → List AVal} {v : X → AVal} {h0 h : za} {x f : AVal} {G : List X} {R : List (List AVal)} {c : X → X → Int} {Q : AVal → za → Prop} {Y1 : List AVal → za → Prop} {a b i j : Nat}
theorem zgm {X : Type} {G : List X} {i j : Nat} (hi : i < G.length) (hj : j < G.length) {k : Nat} (hk : k < (swp G i j hi hj).length) (hk' : k < G.length) : (swp G i j hi hj)[k] = if k = j then G[i] else if k = i then G[j] else G[k] := by
 have := swp_get hi hj k
 rw [List.getElem?_eq_getElem hk] at this
 split at this
 ·rename_i e; rw [if_pos e]; exact Option.some.inj this
 ·rename_i e; rw [if_neg e]
  split at this
  ·rename_i e2; rw [if_pos e2]; exact Option.some.inj this
  ·rename_i e2; rw [if_neg e2, List.getElem?_eq_getElem hk'] at *; exact Option.some.inj this
theorem zjp {X : Type} {G : List X} {i j : Nat} (hi : i < G.length) (hj : j < G.length) : (swp G i j hi hj).length = G.length := by simp [swp]
theorem PInv.done (p : PInv c a b G i j) (hab : a < b) (hc : j < i) (hj : j < G.length) (ha : a < G.length) : zjo c a b j (swp G j a hj ha) := by
 have h1 := p.hi; have h2 := p.hij; have h3 := p.hj; have h4 := p.hb
 have hl := zjp hj ha
 have pj : ∀ (hm : j < (swp G j a hj ha).length), (swp G j a hj ha)[j] = G[a] := fun hm => by
  rw [zgm hj ha hm hj]
  by_cases e : j = a
  ·subst e; simp
  ·rw [if_neg e, if_pos rfl]
 refine ⟨by omega, h3, by omega, fun k hk hm k1 k2 => ?_, fun k hk hm k1 k2 => ?_⟩
 ·rw [pj, zgm hj ha hk (by omega)]
  by_cases e : k = a
  ·rw [if_pos e]; exact p.lo j hj ha (by omega) (by omega)
  ·rw [if_neg e, if_neg (by omega)]; exact p.lo k (by omega) ha (by omega) (by omega)
 ·rw [pj, zgm hj ha hk (by omega), if_neg (by omega), if_neg (by omega)]
  exact p.hi2 k (by omega) ha k1 k2
theorem PInv.swap (p : PInv c a b G i j) (hc : i ≤ j) (hi : i < G.length) (hj : j < G.length) (ha : a < G.length) (h1 : ¬ c G[i] G[a] < 0) (h2 : c G[j] G[a] < 0) : PInv c a b (swp G i j hi hj) (i + 1) (j - 1) := by
 have k1 := p.hi; have k2 := p.hij; have k3 := p.hj; have k4 := p.hb
 have hne : i ≠ j := fun e => by subst e; exact h1 h2
 have hl := zjp hi hj
 have pa : ∀ (hm : a < (swp G i j hi hj).length), (swp G i j hi hj)[a] = G[a] := fun hm => by rw [zgm hi hj hm ha, if_neg (by omega), if_neg (by omega)]
 refine ⟨by omega, by omega, by omega, by omega, fun k hk hm q1 q2 => ?_, fun k hk hm q1 q2 => ?_⟩
 ·rw [pa, zgm hi hj hk (by omega), if_neg (by omega)]
  by_cases e : k = i
  ·rw [if_pos e]; exact h2
  ·rw [if_neg e]; exact p.lo k (by omega) ha q1 (by omega)
 ·rw [pa, zgm hi hj hk (by omega)]
  by_cases e : k = j
  ·rw [if_pos e]; exact h1
  ·rw [if_neg e, if_neg (by omega)]; exact p.hi2 k (by omega) ha (by omega) q2
end
end Go.Ab
namespace Go.Ab
variable {C : CSem}
section
variable {E : zx} {X : Type} {cs : X → List AVal} {v : X → AVal} {h0 h : za} {x f : AVal} {G : List X} {R : List (List AVal)} {c : X → X → Int} {Q : AVal → za → Prop} {a b i j : Nat}
abbrev PartQ (E : zx) {X : Type} (cs : X → List AVal) (h0 : za) (x : AVal) (c : X → X → Int) (a b : Nat) (R : List (List AVal)) (G : List X) (Q : AVal → za → Prop) : Prop := ∀ h' m G' t, zjo c a b m G' → zc8 a b G G' → Rw E cs h0 h' x G' R → Q (.tup [.int .i64 (m : Int), .bool t]) h'
end
end Go.Ab
