/- What is proved: each function of this program does what its residual tells. -/
import Derived.Test.YtjhldpbpopjkiaaRows
import Derived.Test.YtjhldpbpopjkiaaR01
set_option linter.unusedVariables false
set_option maxRecDepth 100000
namespace Go.Ab.S01
open Go.Ab Go.Proofs

noncomputable abbrev P : Program := Try.prog
def N (k : Nat) : Nat := [7, 8, 9, 10, 11, 12, 13, 14, 15, 16, 18, 19, 17, 20, 21, 22, 23, 24, 25, 26, 27, 3, 4, 5, 6].getD k 0
theorem mixed : P.follows .mixedOrders = true := by kernel_rfl

def law01_WindowTells.I : Bx := ⟨[3, 4, 7, 9, 11, 13], [], 75, [(7, [(0, []), (2, []), (1, [2]), (3, []), (4, []), (5, []), (6, []), (7, []), (9, []), (10, []), (8, [9]), (11, []), (12, []), (13, []), (14, []), (15, []), (16, []), (17, []), (18, []), (19, []), (20, []), (21, []), (22, []), (23, []), (24, []), (25, []), (26, []), (27, []), (28, []), (29, []), (30, []), (31, []), (32, []), (33, []), (34, [])])]⟩
noncomputable def law01_WindowTells.B : Code := Try.f3.body.getD .skip
noncomputable def law01_WindowTells.R : List ResultVar := Try.f3.results.toList
theorem law01_WindowTells.L2 {C : CSem} (hC : CMono C) (Q : AVal → AHeap → Prop) (s : Slots) (h : AHeap) (hR : law01_WindowTells.k1 C N Q (s 0) (s 1) (s 2) h) : bwp P C law01_WindowTells.I (Code.at law01_WindowTells.B []) (retB P law01_WindowTells.I law01_WindowTells.R Q) s h :=
  (by kernel_rfl : bwp P C law01_WindowTells.I (Code.at law01_WindowTells.B []) (retB P law01_WindowTells.I law01_WindowTells.R Q) s h = (law01_WindowTells.k1 C N Q (s 0) (s 1) (s 2) h)).mpr hR
theorem law01_WindowTells.ok {v0 v1 v2 : AVal} {h : AHeap} {Q : AVal → AHeap → Prop} (hR : law01_WindowTells.cps (AC P) N v0 v1 v2 h Q) : AC P (N 21) [v0, v1, v2] h Q :=
  AC_introB mixed (fn := Try.f3) (c := law01_WindowTells.B) (by kernel_rfl) (by kernel_rfl) (callFunc_enter (fn := Try.f3) (by kernel_rfl) (by kernel_rfl) (by kernel_rfl)) (by kernel_rfl) (Nat.le_of_ble_eq_true (by kernel_rfl)) (Nat.le_of_ble_eq_true (by kernel_rfl)) (by kernel_rfl) (law01_WindowTells.L2 (AC_cmono P) Q (startS [v0, v1, v2]) h hR)
theorem law01_WindowTells.imp : law01_WindowTells.Imp (AC P) N := fun _ _ _ _ _ hR => AC_drop (law01_WindowTells.ok hR)

def law01_WindowMeets.I : Bx := ⟨[5, 6, 7, 11, 13, 15, 17, 19, 21, 23, 25], [], 124, []⟩
noncomputable def law01_WindowMeets.B : Code := Try.f4.body.getD .skip
noncomputable def law01_WindowMeets.R : List ResultVar := Try.f4.results.toList
theorem law01_WindowMeets.L2 {C : CSem} (hC : CMono C) (Q : AVal → AHeap → Prop) (s : Slots) (h : AHeap) (hR : law01_WindowMeets.k1 C N Q (s 0) (s 1) (s 2) (s 3) (s 4) h) : bwp P C law01_WindowMeets.I (Code.at law01_WindowMeets.B []) (retB P law01_WindowMeets.I law01_WindowMeets.R Q) s h :=
  (by kernel_rfl : bwp P C law01_WindowMeets.I (Code.at law01_WindowMeets.B []) (retB P law01_WindowMeets.I law01_WindowMeets.R Q) s h = (law01_WindowMeets.k1 C N Q (s 0) (s 1) (s 2) (s 3) (s 4) h)).mpr hR
theorem law01_WindowMeets.ok {v0 v1 v2 v3 v4 : AVal} {h : AHeap} {Q : AVal → AHeap → Prop} (hR : law01_WindowMeets.cps (AC P) N v0 v1 v2 v3 v4 h Q) : AC P (N 22) [v0, v1, v2, v3, v4] h Q :=
  AC_introB mixed (fn := Try.f4) (c := law01_WindowMeets.B) (by kernel_rfl) (by kernel_rfl) (callFunc_enter (fn := Try.f4) (by kernel_rfl) (by kernel_rfl) (by kernel_rfl)) (by kernel_rfl) (Nat.le_of_ble_eq_true (by kernel_rfl)) (Nat.le_of_ble_eq_true (by kernel_rfl)) (by kernel_rfl) (law01_WindowMeets.L2 (AC_cmono P) Q (startS [v0, v1, v2, v3, v4]) h hR)
theorem law01_WindowMeets.imp : law01_WindowMeets.Imp (AC P) N := fun _ _ _ _ _ _ _ hR => AC_drop (law01_WindowMeets.ok hR)

def law01_WindowRows.I : Bx := ⟨[], [], 28, []⟩
noncomputable def law01_WindowRows.B : Code := Try.f5.body.getD .skip
noncomputable def law01_WindowRows.R : List ResultVar := Try.f5.results.toList
theorem law01_WindowRows.L2 {C : CSem} (hC : CMono C) (Q : AVal → AHeap → Prop) (s : Slots) (h : AHeap) (hR : law01_WindowRows.k1 C N Q (s 0) h) : bwp P C law01_WindowRows.I (Code.at law01_WindowRows.B []) (retB P law01_WindowRows.I law01_WindowRows.R Q) s h :=
  (by kernel_rfl : bwp P C law01_WindowRows.I (Code.at law01_WindowRows.B []) (retB P law01_WindowRows.I law01_WindowRows.R Q) s h = (law01_WindowRows.k1 C N Q (s 0) h)).mpr hR
theorem law01_WindowRows.ok {v0 : AVal} {h : AHeap} {Q : AVal → AHeap → Prop} (hR : law01_WindowRows.cps (AC P) N v0 h Q) : AC P (N 23) [v0] h Q :=
  AC_introB mixed (fn := Try.f5) (c := law01_WindowRows.B) (by kernel_rfl) (by kernel_rfl) (callFunc_enter (fn := Try.f5) (by kernel_rfl) (by kernel_rfl) (by kernel_rfl)) (by kernel_rfl) (Nat.le_of_ble_eq_true (by kernel_rfl)) (Nat.le_of_ble_eq_true (by kernel_rfl)) (by kernel_rfl) (law01_WindowRows.L2 (AC_cmono P) Q (startS [v0]) h hR)
theorem law01_WindowRows.imp : law01_WindowRows.Imp (AC P) N := fun _ _ _ hR => AC_drop (law01_WindowRows.ok hR)

def law01_WindowDays.I : Bx := ⟨[8, 17], [], 165, [(21, [(0, []), (1, []), (2, []), (3, []), (4, []), (5, []), (6, []), (7, []), (8, []), (9, []), (10, []), (11, []), (12, []), (13, []), (14, []), (15, []), (16, []), (17, []), (18, []), (19, []), (20, []), (21, []), (22, []), (23, []), (24, []), (25, []), (26, []), (27, []), (28, [])]), (30, [(0, []), (1, []), (2, []), (3, []), (4, []), (5, []), (6, []), (7, []), (8, []), (9, []), (10, []), (11, []), (12, []), (13, []), (14, [])])]⟩
noncomputable def law01_WindowDays.B : Code := Try.f6.body.getD .skip
noncomputable def law01_WindowDays.R : List ResultVar := Try.f6.results.toList
theorem law01_WindowDays.L2 {C : CSem} (hC : CMono C) (Q : AVal → AHeap → Prop) (s : Slots) (h : AHeap) (hR : law01_WindowDays.k1 C N Q (s 0) (s 1) (s 9) (s 10) (s 11) (s 14) h) : bwp P C law01_WindowDays.I (Code.at law01_WindowDays.B [1, 1, 1, 1, 1, 1, 1, 1, 1, 1]) (retB P law01_WindowDays.I law01_WindowDays.R Q) s h :=
  (by kernel_rfl : bwp P C law01_WindowDays.I (Code.at law01_WindowDays.B [1, 1, 1, 1, 1, 1, 1, 1, 1, 1]) (retB P law01_WindowDays.I law01_WindowDays.R Q) s h = (law01_WindowDays.k1 C N Q (s 0) (s 1) (s 9) (s 10) (s 11) (s 14) h)).mpr hR
noncomputable def law01_WindowDays.q1 (C : CSem) (Q : AVal → AHeap → Prop) : Ex → Slots → AHeap → Prop := Ex.then (fun s h => law01_WindowDays.k1 C N Q (s 0) (s 1) (s 9) (s 10) (s 11) (s 14) h) (retB P law01_WindowDays.I law01_WindowDays.R Q)
noncomputable def law01_WindowDays.q2 (C : CSem) (Q : AVal → AHeap → Prop) : Ex → Slots → AHeap → Prop := Ex.inBlock 6 (law01_WindowDays.q1 C Q)
noncomputable def law01_WindowDays.q3 (C : CSem) (Q : AVal → AHeap → Prop) (Y1 : List AVal → AHeap → Prop) : Ex → Slots → AHeap → Prop := Ex.then (fun s h => Y1 [(s 14), (s 15)] h) (law01_WindowDays.q2 C Q)
theorem law01_WindowDays.L3 {C : CSem} (hC : CMono C) (Q : AVal → AHeap → Prop) (Y1 : List AVal → AHeap → Prop) (s : Slots) (h : AHeap) (hR : B.pv (V.bin .add (s 15) (.int .i64 1)) fun v114 =>
    Y1 [(s 14), v114] h) : bwp P C law01_WindowDays.I (Code.at law01_WindowDays.B [1, 1, 1, 1, 1, 1, 1, 1, 1, 0, 1, 0, 0, 1, 1]) (law01_WindowDays.q3 C Q Y1) s h :=
  (by kernel_rfl : bwp P C law01_WindowDays.I (Code.at law01_WindowDays.B [1, 1, 1, 1, 1, 1, 1, 1, 1, 0, 1, 0, 0, 1, 1]) (law01_WindowDays.q3 C Q Y1) s h = (B.pv (V.bin .add (s 15) (.int .i64 1)) fun v114 =>
    Y1 [(s 14), v114] h)).mpr hR
noncomputable def law01_WindowDays.q4 (C : CSem) (Q : AVal → AHeap → Prop) (Y1 : List AVal → AHeap → Prop) : Ex → Slots → AHeap → Prop := Ex.then (fun s h => B.pv (V.bin .add (s 15) (.int .i64 1)) fun v114 =>
    Y1 [(s 14), v114] h) (law01_WindowDays.q3 C Q Y1)
noncomputable def law01_WindowDays.q5 (C : CSem) (Q : AVal → AHeap → Prop) (Y1 : List AVal → AHeap → Prop) : Ex → Slots → AHeap → Prop := Ex.inBlock 7 (law01_WindowDays.q4 C Q Y1)
noncomputable def law01_WindowDays.q6 (C : CSem) (Q : AVal → AHeap → Prop) (Y1 : List AVal → AHeap → Prop) : Ex → Slots → AHeap → Prop := Ex.inBlock 8 (law01_WindowDays.q5 C Q Y1)
noncomputable def law01_WindowDays.q7 (C : CSem) (Q : AVal → AHeap → Prop) (Y1 : List AVal → AHeap → Prop) (Y2 : List AVal → AHeap → Prop) : Ex → Slots → AHeap → Prop := Ex.then (fun s h => Y2 [(s 14), (s 16)] h) (law01_WindowDays.q6 C Q Y1)
theorem law01_WindowDays.L5 {C : CSem} (hC : CMono C) (Q : AVal → AHeap → Prop) (Y1 : List AVal → AHeap → Prop) (Y2 : List AVal → AHeap → Prop) (s : Slots) (h : AHeap) (hR : law01_WindowDays.k4 C N Q Y1 Y2 (s 0) (s 1) (s 9) (s 10) (s 11) (s 14) (s 15) (s 16) h) : bwp P C law01_WindowDays.I (Code.at law01_WindowDays.B [1, 1, 1, 1, 1, 1, 1, 1, 1, 0, 1, 0, 0, 1, 0, 0, 1, 0, 0]) (law01_WindowDays.q7 C Q Y1 Y2) s h :=
  (by kernel_rfl : bwp P C law01_WindowDays.I (Code.at law01_WindowDays.B [1, 1, 1, 1, 1, 1, 1, 1, 1, 0, 1, 0, 0, 1, 0, 0, 1, 0, 0]) (law01_WindowDays.q7 C Q Y1 Y2) s h = (law01_WindowDays.k4 C N Q Y1 Y2 (s 0) (s 1) (s 9) (s 10) (s 11) (s 14) (s 15) (s 16) h)).mpr hR
theorem law01_WindowDays.L7 {C : CSem} (hC : CMono C) (Q : AVal → AHeap → Prop) (Y1 : List AVal → AHeap → Prop) (s : Slots) (h : AHeap) (hR : LoopR (law01_WindowDays.l6 C N Q Y1 (s 0) (s 1) (s 9) (s 10) (s 11) (s 15)) [(s 14), (s 16)] h) : bwp P C law01_WindowDays.I (Code.at law01_WindowDays.B [1, 1, 1, 1, 1, 1, 1, 1, 1, 0, 1, 0, 0, 1, 0, 0, 1, 0]) (law01_WindowDays.q6 C Q Y1) s h :=
  loopB hC [0, 1, 9, 10, 11, 15] [14, 16] (G := (fun kv lv h Y2 => match kv with | [v0, v1, v9, v10, v11, v15] => law01_WindowDays.l6 C N Q Y1 v0 v1 v9 v10 v11 v15 lv h Y2 | _ => False)) (by kernel_rfl : (Code.at law01_WindowDays.B [1, 1, 1, 1, 1, 1, 1, 1, 1, 0, 1, 0, 0, 1, 0, 0, 1, 0]) = .loop (Code.at law01_WindowDays.B [1, 1, 1, 1, 1, 1, 1, 1, 1, 0, 1, 0, 0, 1, 0, 0, 1, 0, 0])) (by kernel_rfl) (fun Y2 s h hR => law01_WindowDays.L5 hC Q Y1 Y2 s h hR) hR
theorem law01_WindowDays.L8 {C : CSem} (hC : CMono C) (Q : AVal → AHeap → Prop) (Y1 : List AVal → AHeap → Prop) (s : Slots) (h : AHeap) (hR : LoopR (law01_WindowDays.l6 C N Q Y1 (s 0) (s 1) (s 9) (s 10) (s 11) (s 15)) [(s 14), (s 16)] h) : bwp P C law01_WindowDays.I (Code.at law01_WindowDays.B [1, 1, 1, 1, 1, 1, 1, 1, 1, 0, 1, 0, 0, 1, 0, 0, 1]) (law01_WindowDays.q5 C Q Y1) s h :=
  blockB (by kernel_rfl : (Code.at law01_WindowDays.B [1, 1, 1, 1, 1, 1, 1, 1, 1, 0, 1, 0, 0, 1, 0, 0, 1]) = .block 8 (Code.at law01_WindowDays.B [1, 1, 1, 1, 1, 1, 1, 1, 1, 0, 1, 0, 0, 1, 0, 0, 1, 0])) (law01_WindowDays.L7 hC Q Y1 s h hR)
noncomputable def law01_WindowDays.q8 (C : CSem) (Q : AVal → AHeap → Prop) (Y1 : List AVal → AHeap → Prop) : Ex → Slots → AHeap → Prop := Ex.then (fun s h => LoopR (law01_WindowDays.l6 C N Q Y1 (s 0) (s 1) (s 9) (s 10) (s 11) (s 15)) [(s 14), (s 16)] h) (law01_WindowDays.q5 C Q Y1)
theorem law01_WindowDays.L9 {C : CSem} (hC : CMono C) (Q : AVal → AHeap → Prop) (Y1 : List AVal → AHeap → Prop) (s : Slots) (h : AHeap) (hR : LoopR (law01_WindowDays.l6 C N Q Y1 (s 0) (s 1) (s 9) (s 10) (s 11) (s 15)) [(s 14), (.int .i64 0)] h) : bwp P C law01_WindowDays.I (Code.at law01_WindowDays.B [1, 1, 1, 1, 1, 1, 1, 1, 1, 0, 1, 0, 0, 1, 0, 0, 0]) (law01_WindowDays.q8 C Q Y1) s h :=
  (by kernel_rfl : bwp P C law01_WindowDays.I (Code.at law01_WindowDays.B [1, 1, 1, 1, 1, 1, 1, 1, 1, 0, 1, 0, 0, 1, 0, 0, 0]) (law01_WindowDays.q8 C Q Y1) s h = (LoopR (law01_WindowDays.l6 C N Q Y1 (s 0) (s 1) (s 9) (s 10) (s 11) (s 15)) [(s 14), (.int .i64 0)] h)).mpr hR
theorem law01_WindowDays.L10 {C : CSem} (hC : CMono C) (Q : AVal → AHeap → Prop) (Y1 : List AVal → AHeap → Prop) (s : Slots) (h : AHeap) (hR : LoopR (law01_WindowDays.l6 C N Q Y1 (s 0) (s 1) (s 9) (s 10) (s 11) (s 15)) [(s 14), (.int .i64 0)] h) : bwp P C law01_WindowDays.I (Code.at law01_WindowDays.B [1, 1, 1, 1, 1, 1, 1, 1, 1, 0, 1, 0, 0, 1, 0, 0]) (law01_WindowDays.q5 C Q Y1) s h :=
  seqB hC (by kernel_rfl : (Code.at law01_WindowDays.B [1, 1, 1, 1, 1, 1, 1, 1, 1, 0, 1, 0, 0, 1, 0, 0]) = .seq (Code.at law01_WindowDays.B [1, 1, 1, 1, 1, 1, 1, 1, 1, 0, 1, 0, 0, 1, 0, 0, 0]) (Code.at law01_WindowDays.B [1, 1, 1, 1, 1, 1, 1, 1, 1, 0, 1, 0, 0, 1, 0, 0, 1])) (fun s h hR => law01_WindowDays.L8 hC Q Y1 s h hR) (law01_WindowDays.L9 hC Q Y1 s h hR)
theorem law01_WindowDays.L11 {C : CSem} (hC : CMono C) (Q : AVal → AHeap → Prop) (Y1 : List AVal → AHeap → Prop) (s : Slots) (h : AHeap) (hR : LoopR (law01_WindowDays.l6 C N Q Y1 (s 0) (s 1) (s 9) (s 10) (s 11) (s 15)) [(s 14), (.int .i64 0)] h) : bwp P C law01_WindowDays.I (Code.at law01_WindowDays.B [1, 1, 1, 1, 1, 1, 1, 1, 1, 0, 1, 0, 0, 1, 0]) (law01_WindowDays.q4 C Q Y1) s h :=
  blockB (by kernel_rfl : (Code.at law01_WindowDays.B [1, 1, 1, 1, 1, 1, 1, 1, 1, 0, 1, 0, 0, 1, 0]) = .block 7 (Code.at law01_WindowDays.B [1, 1, 1, 1, 1, 1, 1, 1, 1, 0, 1, 0, 0, 1, 0, 0])) (law01_WindowDays.L10 hC Q Y1 s h hR)
theorem law01_WindowDays.L12 {C : CSem} (hC : CMono C) (Q : AVal → AHeap → Prop) (Y1 : List AVal → AHeap → Prop) (s : Slots) (h : AHeap) (hR : LoopR (law01_WindowDays.l6 C N Q Y1 (s 0) (s 1) (s 9) (s 10) (s 11) (s 15)) [(s 14), (.int .i64 0)] h) : bwp P C law01_WindowDays.I (Code.at law01_WindowDays.B [1, 1, 1, 1, 1, 1, 1, 1, 1, 0, 1, 0, 0, 1]) (law01_WindowDays.q3 C Q Y1) s h :=
  seqB hC (by kernel_rfl : (Code.at law01_WindowDays.B [1, 1, 1, 1, 1, 1, 1, 1, 1, 0, 1, 0, 0, 1]) = .seq (Code.at law01_WindowDays.B [1, 1, 1, 1, 1, 1, 1, 1, 1, 0, 1, 0, 0, 1, 0]) (Code.at law01_WindowDays.B [1, 1, 1, 1, 1, 1, 1, 1, 1, 0, 1, 0, 0, 1, 1])) (fun s h hR => law01_WindowDays.L3 hC Q Y1 s h hR) (law01_WindowDays.L11 hC Q Y1 s h hR)
noncomputable def law01_WindowDays.q9 (C : CSem) (Q : AVal → AHeap → Prop) (Y1 : List AVal → AHeap → Prop) : Ex → Slots → AHeap → Prop := Ex.then (fun s h => LoopR (law01_WindowDays.l6 C N Q Y1 (s 0) (s 1) (s 9) (s 10) (s 11) (s 15)) [(s 14), (.int .i64 0)] h) (law01_WindowDays.q3 C Q Y1)
theorem law01_WindowDays.L14 {C : CSem} (hC : CMono C) (Q : AVal → AHeap → Prop) (Y1 : List AVal → AHeap → Prop) (s : Slots) (h : AHeap) (hR : law01_WindowDays.k13 C N Q Y1 (s 0) (s 1) (s 9) (s 10) (s 11) (s 14) (s 15) h) : bwp P C law01_WindowDays.I (Code.at law01_WindowDays.B [1, 1, 1, 1, 1, 1, 1, 1, 1, 0, 1, 0, 0, 0]) (law01_WindowDays.q9 C Q Y1) s h :=
  (by kernel_rfl : bwp P C law01_WindowDays.I (Code.at law01_WindowDays.B [1, 1, 1, 1, 1, 1, 1, 1, 1, 0, 1, 0, 0, 0]) (law01_WindowDays.q9 C Q Y1) s h = (law01_WindowDays.k13 C N Q Y1 (s 0) (s 1) (s 9) (s 10) (s 11) (s 14) (s 15) h)).mpr hR
theorem law01_WindowDays.L15 {C : CSem} (hC : CMono C) (Q : AVal → AHeap → Prop) (Y1 : List AVal → AHeap → Prop) (s : Slots) (h : AHeap) (hR : law01_WindowDays.k13 C N Q Y1 (s 0) (s 1) (s 9) (s 10) (s 11) (s 14) (s 15) h) : bwp P C law01_WindowDays.I (Code.at law01_WindowDays.B [1, 1, 1, 1, 1, 1, 1, 1, 1, 0, 1, 0, 0]) (law01_WindowDays.q3 C Q Y1) s h :=
  seqB hC (by kernel_rfl : (Code.at law01_WindowDays.B [1, 1, 1, 1, 1, 1, 1, 1, 1, 0, 1, 0, 0]) = .seq (Code.at law01_WindowDays.B [1, 1, 1, 1, 1, 1, 1, 1, 1, 0, 1, 0, 0, 0]) (Code.at law01_WindowDays.B [1, 1, 1, 1, 1, 1, 1, 1, 1, 0, 1, 0, 0, 1])) (fun s h hR => law01_WindowDays.L12 hC Q Y1 s h hR) (law01_WindowDays.L14 hC Q Y1 s h hR)
theorem law01_WindowDays.L17 {C : CSem} (hC : CMono C) (Q : AVal → AHeap → Prop) (s : Slots) (h : AHeap) (hR : LoopR (law01_WindowDays.l16 C N Q (s 0) (s 1) (s 9) (s 10) (s 11)) [(s 14), (s 15)] h) : bwp P C law01_WindowDays.I (Code.at law01_WindowDays.B [1, 1, 1, 1, 1, 1, 1, 1, 1, 0, 1, 0]) (law01_WindowDays.q2 C Q) s h :=
  loopB hC [0, 1, 9, 10, 11] [14, 15] (G := (fun kv lv h Y1 => match kv with | [v0, v1, v9, v10, v11] => law01_WindowDays.l16 C N Q v0 v1 v9 v10 v11 lv h Y1 | _ => False)) (by kernel_rfl : (Code.at law01_WindowDays.B [1, 1, 1, 1, 1, 1, 1, 1, 1, 0, 1, 0]) = .loop (Code.at law01_WindowDays.B [1, 1, 1, 1, 1, 1, 1, 1, 1, 0, 1, 0, 0])) (by kernel_rfl) (fun Y1 s h hR => law01_WindowDays.L15 hC Q Y1 s h hR) hR
theorem law01_WindowDays.L18 {C : CSem} (hC : CMono C) (Q : AVal → AHeap → Prop) (s : Slots) (h : AHeap) (hR : LoopR (law01_WindowDays.l16 C N Q (s 0) (s 1) (s 9) (s 10) (s 11)) [(s 14), (s 15)] h) : bwp P C law01_WindowDays.I (Code.at law01_WindowDays.B [1, 1, 1, 1, 1, 1, 1, 1, 1, 0, 1]) (law01_WindowDays.q1 C Q) s h :=
  blockB (by kernel_rfl : (Code.at law01_WindowDays.B [1, 1, 1, 1, 1, 1, 1, 1, 1, 0, 1]) = .block 6 (Code.at law01_WindowDays.B [1, 1, 1, 1, 1, 1, 1, 1, 1, 0, 1, 0])) (law01_WindowDays.L17 hC Q s h hR)
noncomputable def law01_WindowDays.q10 (C : CSem) (Q : AVal → AHeap → Prop) : Ex → Slots → AHeap → Prop := Ex.then (fun s h => LoopR (law01_WindowDays.l16 C N Q (s 0) (s 1) (s 9) (s 10) (s 11)) [(s 14), (s 15)] h) (law01_WindowDays.q1 C Q)
theorem law01_WindowDays.L19 {C : CSem} (hC : CMono C) (Q : AVal → AHeap → Prop) (s : Slots) (h : AHeap) (hR : LoopR (law01_WindowDays.l16 C N Q (s 0) (s 1) (s 9) (s 10) (s 11)) [(s 14), (.int .i64 0)] h) : bwp P C law01_WindowDays.I (Code.at law01_WindowDays.B [1, 1, 1, 1, 1, 1, 1, 1, 1, 0, 0]) (law01_WindowDays.q10 C Q) s h :=
  (by kernel_rfl : bwp P C law01_WindowDays.I (Code.at law01_WindowDays.B [1, 1, 1, 1, 1, 1, 1, 1, 1, 0, 0]) (law01_WindowDays.q10 C Q) s h = (LoopR (law01_WindowDays.l16 C N Q (s 0) (s 1) (s 9) (s 10) (s 11)) [(s 14), (.int .i64 0)] h)).mpr hR
theorem law01_WindowDays.L20 {C : CSem} (hC : CMono C) (Q : AVal → AHeap → Prop) (s : Slots) (h : AHeap) (hR : LoopR (law01_WindowDays.l16 C N Q (s 0) (s 1) (s 9) (s 10) (s 11)) [(s 14), (.int .i64 0)] h) : bwp P C law01_WindowDays.I (Code.at law01_WindowDays.B [1, 1, 1, 1, 1, 1, 1, 1, 1, 0]) (law01_WindowDays.q1 C Q) s h :=
  seqB hC (by kernel_rfl : (Code.at law01_WindowDays.B [1, 1, 1, 1, 1, 1, 1, 1, 1, 0]) = .seq (Code.at law01_WindowDays.B [1, 1, 1, 1, 1, 1, 1, 1, 1, 0, 0]) (Code.at law01_WindowDays.B [1, 1, 1, 1, 1, 1, 1, 1, 1, 0, 1])) (fun s h hR => law01_WindowDays.L18 hC Q s h hR) (law01_WindowDays.L19 hC Q s h hR)
theorem law01_WindowDays.L21 {C : CSem} (hC : CMono C) (Q : AVal → AHeap → Prop) (s : Slots) (h : AHeap) (hR : LoopR (law01_WindowDays.l16 C N Q (s 0) (s 1) (s 9) (s 10) (s 11)) [(s 14), (.int .i64 0)] h) : bwp P C law01_WindowDays.I (Code.at law01_WindowDays.B [1, 1, 1, 1, 1, 1, 1, 1, 1]) (retB P law01_WindowDays.I law01_WindowDays.R Q) s h :=
  seqB hC (by kernel_rfl : (Code.at law01_WindowDays.B [1, 1, 1, 1, 1, 1, 1, 1, 1]) = .seq (Code.at law01_WindowDays.B [1, 1, 1, 1, 1, 1, 1, 1, 1, 0]) (Code.at law01_WindowDays.B [1, 1, 1, 1, 1, 1, 1, 1, 1, 1])) (fun s h hR => law01_WindowDays.L2 hC Q s h hR) (law01_WindowDays.L20 hC Q s h hR)
noncomputable def law01_WindowDays.q11 (C : CSem) (Q : AVal → AHeap → Prop) : Ex → Slots → AHeap → Prop := Ex.then (fun s h => LoopR (law01_WindowDays.l16 C N Q (s 0) (s 1) (s 9) (s 10) (s 11)) [(s 14), (.int .i64 0)] h) (retB P law01_WindowDays.I law01_WindowDays.R Q)
theorem law01_WindowDays.L22 {C : CSem} (hC : CMono C) (Q : AVal → AHeap → Prop) (s : Slots) (h : AHeap) (hR : LoopR (law01_WindowDays.l16 C N Q (s 0) (s 1) (s 9) (s 10) (s 11)) [.nils, (.int .i64 0)] h) : bwp P C law01_WindowDays.I (Code.at law01_WindowDays.B [1, 1, 1, 1, 1, 1, 1, 1, 0]) (law01_WindowDays.q11 C Q) s h :=
  (by kernel_rfl : bwp P C law01_WindowDays.I (Code.at law01_WindowDays.B [1, 1, 1, 1, 1, 1, 1, 1, 0]) (law01_WindowDays.q11 C Q) s h = (LoopR (law01_WindowDays.l16 C N Q (s 0) (s 1) (s 9) (s 10) (s 11)) [.nils, (.int .i64 0)] h)).mpr hR
theorem law01_WindowDays.L23 {C : CSem} (hC : CMono C) (Q : AVal → AHeap → Prop) (s : Slots) (h : AHeap) (hR : LoopR (law01_WindowDays.l16 C N Q (s 0) (s 1) (s 9) (s 10) (s 11)) [.nils, (.int .i64 0)] h) : bwp P C law01_WindowDays.I (Code.at law01_WindowDays.B [1, 1, 1, 1, 1, 1, 1, 1]) (retB P law01_WindowDays.I law01_WindowDays.R Q) s h :=
  seqB hC (by kernel_rfl : (Code.at law01_WindowDays.B [1, 1, 1, 1, 1, 1, 1, 1]) = .seq (Code.at law01_WindowDays.B [1, 1, 1, 1, 1, 1, 1, 1, 0]) (Code.at law01_WindowDays.B [1, 1, 1, 1, 1, 1, 1, 1, 1])) (fun s h hR => law01_WindowDays.L21 hC Q s h hR) (law01_WindowDays.L22 hC Q s h hR)
noncomputable def law01_WindowDays.q12 (C : CSem) (Q : AVal → AHeap → Prop) : Ex → Slots → AHeap → Prop := Ex.then (fun s h => LoopR (law01_WindowDays.l16 C N Q (s 0) (s 1) (s 9) (s 10) (s 11)) [.nils, (.int .i64 0)] h) (retB P law01_WindowDays.I law01_WindowDays.R Q)
noncomputable def law01_WindowDays.q13 (C : CSem) (Q : AVal → AHeap → Prop) : Ex → Slots → AHeap → Prop := Ex.inBlock 4 (law01_WindowDays.q12 C Q)
noncomputable def law01_WindowDays.q14 (C : CSem) (Q : AVal → AHeap → Prop) (Y3 : List AVal → AHeap → Prop) : Ex → Slots → AHeap → Prop := Ex.then (fun s h => Y3 [(s 11), (s 13)] h) (law01_WindowDays.q13 C Q)
theorem law01_WindowDays.L25 {C : CSem} (hC : CMono C) (Q : AVal → AHeap → Prop) (Y3 : List AVal → AHeap → Prop) (s : Slots) (h : AHeap) (hR : law01_WindowDays.k24 C N Q Y3 (s 0) (s 1) (s 2) (s 9) (s 10) (s 11) (s 13) h) : bwp P C law01_WindowDays.I (Code.at law01_WindowDays.B [1, 1, 1, 1, 1, 1, 1, 0, 1, 0, 0]) (law01_WindowDays.q14 C Q Y3) s h :=
  (by kernel_rfl : bwp P C law01_WindowDays.I (Code.at law01_WindowDays.B [1, 1, 1, 1, 1, 1, 1, 0, 1, 0, 0]) (law01_WindowDays.q14 C Q Y3) s h = (law01_WindowDays.k24 C N Q Y3 (s 0) (s 1) (s 2) (s 9) (s 10) (s 11) (s 13) h)).mpr hR
theorem law01_WindowDays.L27 {C : CSem} (hC : CMono C) (Q : AVal → AHeap → Prop) (s : Slots) (h : AHeap) (hR : LoopR (law01_WindowDays.l26 C N Q (s 0) (s 1) (s 2) (s 9) (s 10)) [(s 11), (s 13)] h) : bwp P C law01_WindowDays.I (Code.at law01_WindowDays.B [1, 1, 1, 1, 1, 1, 1, 0, 1, 0]) (law01_WindowDays.q13 C Q) s h :=
  loopB hC [0, 1, 2, 9, 10] [11, 13] (G := (fun kv lv h Y3 => match kv with | [v0, v1, v2, v9, v10] => law01_WindowDays.l26 C N Q v0 v1 v2 v9 v10 lv h Y3 | _ => False)) (by kernel_rfl : (Code.at law01_WindowDays.B [1, 1, 1, 1, 1, 1, 1, 0, 1, 0]) = .loop (Code.at law01_WindowDays.B [1, 1, 1, 1, 1, 1, 1, 0, 1, 0, 0])) (by kernel_rfl) (fun Y3 s h hR => law01_WindowDays.L25 hC Q Y3 s h hR) hR
theorem law01_WindowDays.L28 {C : CSem} (hC : CMono C) (Q : AVal → AHeap → Prop) (s : Slots) (h : AHeap) (hR : LoopR (law01_WindowDays.l26 C N Q (s 0) (s 1) (s 2) (s 9) (s 10)) [(s 11), (s 13)] h) : bwp P C law01_WindowDays.I (Code.at law01_WindowDays.B [1, 1, 1, 1, 1, 1, 1, 0, 1]) (law01_WindowDays.q12 C Q) s h :=
  blockB (by kernel_rfl : (Code.at law01_WindowDays.B [1, 1, 1, 1, 1, 1, 1, 0, 1]) = .block 4 (Code.at law01_WindowDays.B [1, 1, 1, 1, 1, 1, 1, 0, 1, 0])) (law01_WindowDays.L27 hC Q s h hR)
noncomputable def law01_WindowDays.q15 (C : CSem) (Q : AVal → AHeap → Prop) : Ex → Slots → AHeap → Prop := Ex.then (fun s h => LoopR (law01_WindowDays.l26 C N Q (s 0) (s 1) (s 2) (s 9) (s 10)) [(s 11), (s 13)] h) (law01_WindowDays.q12 C Q)
theorem law01_WindowDays.L29 {C : CSem} (hC : CMono C) (Q : AVal → AHeap → Prop) (s : Slots) (h : AHeap) (hR : LoopR (law01_WindowDays.l26 C N Q (s 0) (s 1) (s 2) (s 9) (s 10)) [(s 11), (.int .i64 0)] h) : bwp P C law01_WindowDays.I (Code.at law01_WindowDays.B [1, 1, 1, 1, 1, 1, 1, 0, 0]) (law01_WindowDays.q15 C Q) s h :=
  (by kernel_rfl : bwp P C law01_WindowDays.I (Code.at law01_WindowDays.B [1, 1, 1, 1, 1, 1, 1, 0, 0]) (law01_WindowDays.q15 C Q) s h = (LoopR (law01_WindowDays.l26 C N Q (s 0) (s 1) (s 2) (s 9) (s 10)) [(s 11), (.int .i64 0)] h)).mpr hR
theorem law01_WindowDays.L30 {C : CSem} (hC : CMono C) (Q : AVal → AHeap → Prop) (s : Slots) (h : AHeap) (hR : LoopR (law01_WindowDays.l26 C N Q (s 0) (s 1) (s 2) (s 9) (s 10)) [(s 11), (.int .i64 0)] h) : bwp P C law01_WindowDays.I (Code.at law01_WindowDays.B [1, 1, 1, 1, 1, 1, 1, 0]) (law01_WindowDays.q12 C Q) s h :=
  seqB hC (by kernel_rfl : (Code.at law01_WindowDays.B [1, 1, 1, 1, 1, 1, 1, 0]) = .seq (Code.at law01_WindowDays.B [1, 1, 1, 1, 1, 1, 1, 0, 0]) (Code.at law01_WindowDays.B [1, 1, 1, 1, 1, 1, 1, 0, 1])) (fun s h hR => law01_WindowDays.L28 hC Q s h hR) (law01_WindowDays.L29 hC Q s h hR)
theorem law01_WindowDays.L31 {C : CSem} (hC : CMono C) (Q : AVal → AHeap → Prop) (s : Slots) (h : AHeap) (hR : LoopR (law01_WindowDays.l26 C N Q (s 0) (s 1) (s 2) (s 9) (s 10)) [(s 11), (.int .i64 0)] h) : bwp P C law01_WindowDays.I (Code.at law01_WindowDays.B [1, 1, 1, 1, 1, 1, 1]) (retB P law01_WindowDays.I law01_WindowDays.R Q) s h :=
  seqB hC (by kernel_rfl : (Code.at law01_WindowDays.B [1, 1, 1, 1, 1, 1, 1]) = .seq (Code.at law01_WindowDays.B [1, 1, 1, 1, 1, 1, 1, 0]) (Code.at law01_WindowDays.B [1, 1, 1, 1, 1, 1, 1, 1])) (fun s h hR => law01_WindowDays.L23 hC Q s h hR) (law01_WindowDays.L30 hC Q s h hR)
noncomputable def law01_WindowDays.q16 (C : CSem) (Q : AVal → AHeap → Prop) : Ex → Slots → AHeap → Prop := Ex.then (fun s h => LoopR (law01_WindowDays.l26 C N Q (s 0) (s 1) (s 2) (s 9) (s 10)) [(s 11), (.int .i64 0)] h) (retB P law01_WindowDays.I law01_WindowDays.R Q)
noncomputable def law01_WindowDays.q17 (C : CSem) (Q : AVal → AHeap → Prop) : Ex → Slots → AHeap → Prop := Ex.inBlock 2 (law01_WindowDays.q16 C Q)
noncomputable def law01_WindowDays.q18 (C : CSem) (Q : AVal → AHeap → Prop) (Y4 : List AVal → AHeap → Prop) : Ex → Slots → AHeap → Prop := Ex.then (fun s h => Y4 [(s 10), (s 12)] h) (law01_WindowDays.q17 C Q)
theorem law01_WindowDays.L33 {C : CSem} (hC : CMono C) (Q : AVal → AHeap → Prop) (Y4 : List AVal → AHeap → Prop) (s : Slots) (h : AHeap) (hR : law01_WindowDays.k32 C N Q Y4 (s 0) (s 1) (s 2) (s 9) (s 10) (s 11) (s 12) h) : bwp P C law01_WindowDays.I (Code.at law01_WindowDays.B [1, 1, 1, 1, 1, 1, 0, 1, 0, 0]) (law01_WindowDays.q18 C Q Y4) s h :=
  (by kernel_rfl : bwp P C law01_WindowDays.I (Code.at law01_WindowDays.B [1, 1, 1, 1, 1, 1, 0, 1, 0, 0]) (law01_WindowDays.q18 C Q Y4) s h = (law01_WindowDays.k32 C N Q Y4 (s 0) (s 1) (s 2) (s 9) (s 10) (s 11) (s 12) h)).mpr hR
theorem law01_WindowDays.L35 {C : CSem} (hC : CMono C) (Q : AVal → AHeap → Prop) (s : Slots) (h : AHeap) (hR : LoopR (law01_WindowDays.l34 C N Q (s 0) (s 1) (s 2) (s 9) (s 11)) [(s 10), (s 12)] h) : bwp P C law01_WindowDays.I (Code.at law01_WindowDays.B [1, 1, 1, 1, 1, 1, 0, 1, 0]) (law01_WindowDays.q17 C Q) s h :=
  loopB hC [0, 1, 2, 9, 11] [10, 12] (G := (fun kv lv h Y4 => match kv with | [v0, v1, v2, v9, v11] => law01_WindowDays.l34 C N Q v0 v1 v2 v9 v11 lv h Y4 | _ => False)) (by kernel_rfl : (Code.at law01_WindowDays.B [1, 1, 1, 1, 1, 1, 0, 1, 0]) = .loop (Code.at law01_WindowDays.B [1, 1, 1, 1, 1, 1, 0, 1, 0, 0])) (by kernel_rfl) (fun Y4 s h hR => law01_WindowDays.L33 hC Q Y4 s h hR) hR
theorem law01_WindowDays.L36 {C : CSem} (hC : CMono C) (Q : AVal → AHeap → Prop) (s : Slots) (h : AHeap) (hR : LoopR (law01_WindowDays.l34 C N Q (s 0) (s 1) (s 2) (s 9) (s 11)) [(s 10), (s 12)] h) : bwp P C law01_WindowDays.I (Code.at law01_WindowDays.B [1, 1, 1, 1, 1, 1, 0, 1]) (law01_WindowDays.q16 C Q) s h :=
  blockB (by kernel_rfl : (Code.at law01_WindowDays.B [1, 1, 1, 1, 1, 1, 0, 1]) = .block 2 (Code.at law01_WindowDays.B [1, 1, 1, 1, 1, 1, 0, 1, 0])) (law01_WindowDays.L35 hC Q s h hR)
noncomputable def law01_WindowDays.q19 (C : CSem) (Q : AVal → AHeap → Prop) : Ex → Slots → AHeap → Prop := Ex.then (fun s h => LoopR (law01_WindowDays.l34 C N Q (s 0) (s 1) (s 2) (s 9) (s 11)) [(s 10), (s 12)] h) (law01_WindowDays.q16 C Q)
theorem law01_WindowDays.L37 {C : CSem} (hC : CMono C) (Q : AVal → AHeap → Prop) (s : Slots) (h : AHeap) (hR : LoopR (law01_WindowDays.l34 C N Q (s 0) (s 1) (s 2) (s 9) (s 11)) [(s 10), (.int .i64 0)] h) : bwp P C law01_WindowDays.I (Code.at law01_WindowDays.B [1, 1, 1, 1, 1, 1, 0, 0]) (law01_WindowDays.q19 C Q) s h :=
  (by kernel_rfl : bwp P C law01_WindowDays.I (Code.at law01_WindowDays.B [1, 1, 1, 1, 1, 1, 0, 0]) (law01_WindowDays.q19 C Q) s h = (LoopR (law01_WindowDays.l34 C N Q (s 0) (s 1) (s 2) (s 9) (s 11)) [(s 10), (.int .i64 0)] h)).mpr hR
theorem law01_WindowDays.L38 {C : CSem} (hC : CMono C) (Q : AVal → AHeap → Prop) (s : Slots) (h : AHeap) (hR : LoopR (law01_WindowDays.l34 C N Q (s 0) (s 1) (s 2) (s 9) (s 11)) [(s 10), (.int .i64 0)] h) : bwp P C law01_WindowDays.I (Code.at law01_WindowDays.B [1, 1, 1, 1, 1, 1, 0]) (law01_WindowDays.q16 C Q) s h :=
  seqB hC (by kernel_rfl : (Code.at law01_WindowDays.B [1, 1, 1, 1, 1, 1, 0]) = .seq (Code.at law01_WindowDays.B [1, 1, 1, 1, 1, 1, 0, 0]) (Code.at law01_WindowDays.B [1, 1, 1, 1, 1, 1, 0, 1])) (fun s h hR => law01_WindowDays.L36 hC Q s h hR) (law01_WindowDays.L37 hC Q s h hR)
theorem law01_WindowDays.L39 {C : CSem} (hC : CMono C) (Q : AVal → AHeap → Prop) (s : Slots) (h : AHeap) (hR : LoopR (law01_WindowDays.l34 C N Q (s 0) (s 1) (s 2) (s 9) (s 11)) [(s 10), (.int .i64 0)] h) : bwp P C law01_WindowDays.I (Code.at law01_WindowDays.B [1, 1, 1, 1, 1, 1]) (retB P law01_WindowDays.I law01_WindowDays.R Q) s h :=
  seqB hC (by kernel_rfl : (Code.at law01_WindowDays.B [1, 1, 1, 1, 1, 1]) = .seq (Code.at law01_WindowDays.B [1, 1, 1, 1, 1, 1, 0]) (Code.at law01_WindowDays.B [1, 1, 1, 1, 1, 1, 1])) (fun s h hR => law01_WindowDays.L31 hC Q s h hR) (law01_WindowDays.L38 hC Q s h hR)
noncomputable def law01_WindowDays.q20 (C : CSem) (Q : AVal → AHeap → Prop) : Ex → Slots → AHeap → Prop := Ex.then (fun s h => LoopR (law01_WindowDays.l34 C N Q (s 0) (s 1) (s 2) (s 9) (s 11)) [(s 10), (.int .i64 0)] h) (retB P law01_WindowDays.I law01_WindowDays.R Q)
theorem law01_WindowDays.L40 {C : CSem} (hC : CMono C) (Q : AVal → AHeap → Prop) (s : Slots) (h : AHeap) (hR : LoopR (law01_WindowDays.l34 C N Q (s 0) (s 1) (s 2) (s 9) (.bool false)) [(.bool false), (.int .i64 0)] h) : bwp P C law01_WindowDays.I (Code.at law01_WindowDays.B [1, 1, 1, 1, 1, 0]) (law01_WindowDays.q20 C Q) s h :=
  (by kernel_rfl : bwp P C law01_WindowDays.I (Code.at law01_WindowDays.B [1, 1, 1, 1, 1, 0]) (law01_WindowDays.q20 C Q) s h = (LoopR (law01_WindowDays.l34 C N Q (s 0) (s 1) (s 2) (s 9) (.bool false)) [(.bool false), (.int .i64 0)] h)).mpr hR
theorem law01_WindowDays.L41 {C : CSem} (hC : CMono C) (Q : AVal → AHeap → Prop) (s : Slots) (h : AHeap) (hR : LoopR (law01_WindowDays.l34 C N Q (s 0) (s 1) (s 2) (s 9) (.bool false)) [(.bool false), (.int .i64 0)] h) : bwp P C law01_WindowDays.I (Code.at law01_WindowDays.B [1, 1, 1, 1, 1]) (retB P law01_WindowDays.I law01_WindowDays.R Q) s h :=
  seqB hC (by kernel_rfl : (Code.at law01_WindowDays.B [1, 1, 1, 1, 1]) = .seq (Code.at law01_WindowDays.B [1, 1, 1, 1, 1, 0]) (Code.at law01_WindowDays.B [1, 1, 1, 1, 1, 1])) (fun s h hR => law01_WindowDays.L39 hC Q s h hR) (law01_WindowDays.L40 hC Q s h hR)
noncomputable def law01_WindowDays.q21 (C : CSem) (Q : AVal → AHeap → Prop) : Ex → Slots → AHeap → Prop := Ex.then (fun s h => LoopR (law01_WindowDays.l34 C N Q (s 0) (s 1) (s 2) (s 9) (.bool false)) [(.bool false), (.int .i64 0)] h) (retB P law01_WindowDays.I law01_WindowDays.R Q)
theorem law01_WindowDays.L42 {C : CSem} (hC : CMono C) (Q : AVal → AHeap → Prop) (s : Slots) (h : AHeap) (hR : B.call C (N 10) [(s 0)] h fun v49 h =>
    LoopR (law01_WindowDays.l34 C N Q (s 0) (s 1) (s 2) v49 (.bool false)) [(.bool false), (.int .i64 0)] h) : bwp P C law01_WindowDays.I (Code.at law01_WindowDays.B [1, 1, 1, 1, 0]) (law01_WindowDays.q21 C Q) s h :=
  (by kernel_rfl : bwp P C law01_WindowDays.I (Code.at law01_WindowDays.B [1, 1, 1, 1, 0]) (law01_WindowDays.q21 C Q) s h = (B.call C (N 10) [(s 0)] h fun v49 h =>
    LoopR (law01_WindowDays.l34 C N Q (s 0) (s 1) (s 2) v49 (.bool false)) [(.bool false), (.int .i64 0)] h)).mpr hR
theorem law01_WindowDays.L43 {C : CSem} (hC : CMono C) (Q : AVal → AHeap → Prop) (s : Slots) (h : AHeap) (hR : B.call C (N 10) [(s 0)] h fun v49 h =>
    LoopR (law01_WindowDays.l34 C N Q (s 0) (s 1) (s 2) v49 (.bool false)) [(.bool false), (.int .i64 0)] h) : bwp P C law01_WindowDays.I (Code.at law01_WindowDays.B [1, 1, 1, 1]) (retB P law01_WindowDays.I law01_WindowDays.R Q) s h :=
  seqB hC (by kernel_rfl : (Code.at law01_WindowDays.B [1, 1, 1, 1]) = .seq (Code.at law01_WindowDays.B [1, 1, 1, 1, 0]) (Code.at law01_WindowDays.B [1, 1, 1, 1, 1])) (fun s h hR => law01_WindowDays.L41 hC Q s h hR) (law01_WindowDays.L42 hC Q s h hR)
noncomputable def law01_WindowDays.q22 (C : CSem) (Q : AVal → AHeap → Prop) : Ex → Slots → AHeap → Prop := Ex.then (fun s h => B.call C (N 10) [(s 0)] h fun v49 h =>
    LoopR (law01_WindowDays.l34 C N Q (s 0) (s 1) (s 2) v49 (.bool false)) [(.bool false), (.int .i64 0)] h) (retB P law01_WindowDays.I law01_WindowDays.R Q)
noncomputable def law01_WindowDays.q23 (C : CSem) (Q : AVal → AHeap → Prop) : Ex → Slots → AHeap → Prop := Ex.inBlock 0 (law01_WindowDays.q22 C Q)
noncomputable def law01_WindowDays.q24 (C : CSem) (Q : AVal → AHeap → Prop) (Y5 : List AVal → AHeap → Prop) : Ex → Slots → AHeap → Prop := Ex.then (fun s h => Y5 [(s 7)] h) (law01_WindowDays.q23 C Q)
theorem law01_WindowDays.L45 {C : CSem} (hC : CMono C) (Q : AVal → AHeap → Prop) (Y5 : List AVal → AHeap → Prop) (s : Slots) (h : AHeap) (hR : law01_WindowDays.k44 C N Q Y5 (s 0) (s 1) (s 2) (s 7) h) : bwp P C law01_WindowDays.I (Code.at law01_WindowDays.B [1, 1, 1, 0, 1, 0, 0]) (law01_WindowDays.q24 C Q Y5) s h :=
  (by kernel_rfl : bwp P C law01_WindowDays.I (Code.at law01_WindowDays.B [1, 1, 1, 0, 1, 0, 0]) (law01_WindowDays.q24 C Q Y5) s h = (law01_WindowDays.k44 C N Q Y5 (s 0) (s 1) (s 2) (s 7) h)).mpr hR
theorem law01_WindowDays.L47 {C : CSem} (hC : CMono C) (Q : AVal → AHeap → Prop) (s : Slots) (h : AHeap) (hR : LoopR (law01_WindowDays.l46 C N Q (s 0) (s 1) (s 2)) [(s 7)] h) : bwp P C law01_WindowDays.I (Code.at law01_WindowDays.B [1, 1, 1, 0, 1, 0]) (law01_WindowDays.q23 C Q) s h :=
  loopB hC [0, 1, 2] [7] (G := (fun kv lv h Y5 => match kv with | [v0, v1, v2] => law01_WindowDays.l46 C N Q v0 v1 v2 lv h Y5 | _ => False)) (by kernel_rfl : (Code.at law01_WindowDays.B [1, 1, 1, 0, 1, 0]) = .loop (Code.at law01_WindowDays.B [1, 1, 1, 0, 1, 0, 0])) (by kernel_rfl) (fun Y5 s h hR => law01_WindowDays.L45 hC Q Y5 s h hR) hR
theorem law01_WindowDays.L48 {C : CSem} (hC : CMono C) (Q : AVal → AHeap → Prop) (s : Slots) (h : AHeap) (hR : LoopR (law01_WindowDays.l46 C N Q (s 0) (s 1) (s 2)) [(s 7)] h) : bwp P C law01_WindowDays.I (Code.at law01_WindowDays.B [1, 1, 1, 0, 1]) (law01_WindowDays.q22 C Q) s h :=
  blockB (by kernel_rfl : (Code.at law01_WindowDays.B [1, 1, 1, 0, 1]) = .block 0 (Code.at law01_WindowDays.B [1, 1, 1, 0, 1, 0])) (law01_WindowDays.L47 hC Q s h hR)
noncomputable def law01_WindowDays.q25 (C : CSem) (Q : AVal → AHeap → Prop) : Ex → Slots → AHeap → Prop := Ex.then (fun s h => LoopR (law01_WindowDays.l46 C N Q (s 0) (s 1) (s 2)) [(s 7)] h) (law01_WindowDays.q22 C Q)
theorem law01_WindowDays.L49 {C : CSem} (hC : CMono C) (Q : AVal → AHeap → Prop) (s : Slots) (h : AHeap) (hR : LoopR (law01_WindowDays.l46 C N Q (s 0) (s 1) (s 2)) [(.int .i64 0)] h) : bwp P C law01_WindowDays.I (Code.at law01_WindowDays.B [1, 1, 1, 0, 0]) (law01_WindowDays.q25 C Q) s h :=
  (by kernel_rfl : bwp P C law01_WindowDays.I (Code.at law01_WindowDays.B [1, 1, 1, 0, 0]) (law01_WindowDays.q25 C Q) s h = (LoopR (law01_WindowDays.l46 C N Q (s 0) (s 1) (s 2)) [(.int .i64 0)] h)).mpr hR
theorem law01_WindowDays.L50 {C : CSem} (hC : CMono C) (Q : AVal → AHeap → Prop) (s : Slots) (h : AHeap) (hR : LoopR (law01_WindowDays.l46 C N Q (s 0) (s 1) (s 2)) [(.int .i64 0)] h) : bwp P C law01_WindowDays.I (Code.at law01_WindowDays.B [1, 1, 1, 0]) (law01_WindowDays.q22 C Q) s h :=
  seqB hC (by kernel_rfl : (Code.at law01_WindowDays.B [1, 1, 1, 0]) = .seq (Code.at law01_WindowDays.B [1, 1, 1, 0, 0]) (Code.at law01_WindowDays.B [1, 1, 1, 0, 1])) (fun s h hR => law01_WindowDays.L48 hC Q s h hR) (law01_WindowDays.L49 hC Q s h hR)
theorem law01_WindowDays.L51 {C : CSem} (hC : CMono C) (Q : AVal → AHeap → Prop) (s : Slots) (h : AHeap) (hR : LoopR (law01_WindowDays.l46 C N Q (s 0) (s 1) (s 2)) [(.int .i64 0)] h) : bwp P C law01_WindowDays.I (Code.at law01_WindowDays.B [1, 1, 1]) (retB P law01_WindowDays.I law01_WindowDays.R Q) s h :=
  seqB hC (by kernel_rfl : (Code.at law01_WindowDays.B [1, 1, 1]) = .seq (Code.at law01_WindowDays.B [1, 1, 1, 0]) (Code.at law01_WindowDays.B [1, 1, 1, 1])) (fun s h hR => law01_WindowDays.L43 hC Q s h hR) (law01_WindowDays.L50 hC Q s h hR)
noncomputable def law01_WindowDays.q26 (C : CSem) (Q : AVal → AHeap → Prop) : Ex → Slots → AHeap → Prop := Ex.then (fun s h => LoopR (law01_WindowDays.l46 C N Q (s 0) (s 1) (s 2)) [(.int .i64 0)] h) (retB P law01_WindowDays.I law01_WindowDays.R Q)
theorem law01_WindowDays.L53 {C : CSem} (hC : CMono C) (Q : AVal → AHeap → Prop) (s : Slots) (h : AHeap) (hR : law01_WindowDays.k52 C N Q (s 0) (s 1) (s 2) h) : bwp P C law01_WindowDays.I (Code.at law01_WindowDays.B [1, 1, 0]) (law01_WindowDays.q26 C Q) s h :=
  (by kernel_rfl : bwp P C law01_WindowDays.I (Code.at law01_WindowDays.B [1, 1, 0]) (law01_WindowDays.q26 C Q) s h = (law01_WindowDays.k52 C N Q (s 0) (s 1) (s 2) h)).mpr hR
theorem law01_WindowDays.L54 {C : CSem} (hC : CMono C) (Q : AVal → AHeap → Prop) (s : Slots) (h : AHeap) (hR : law01_WindowDays.k52 C N Q (s 0) (s 1) (s 2) h) : bwp P C law01_WindowDays.I (Code.at law01_WindowDays.B [1, 1]) (retB P law01_WindowDays.I law01_WindowDays.R Q) s h :=
  seqB hC (by kernel_rfl : (Code.at law01_WindowDays.B [1, 1]) = .seq (Code.at law01_WindowDays.B [1, 1, 0]) (Code.at law01_WindowDays.B [1, 1, 1])) (fun s h hR => law01_WindowDays.L51 hC Q s h hR) (law01_WindowDays.L53 hC Q s h hR)
noncomputable def law01_WindowDays.q27 (C : CSem) (Q : AVal → AHeap → Prop) : Ex → Slots → AHeap → Prop := Ex.then (fun s h => law01_WindowDays.k52 C N Q (s 0) (s 1) (s 2) h) (retB P law01_WindowDays.I law01_WindowDays.R Q)
theorem law01_WindowDays.L55 {C : CSem} (hC : CMono C) (Q : AVal → AHeap → Prop) (s : Slots) (h : AHeap) (hR : B.call C (N 0) [] h fun v20 h =>
    B.pv (V.un .not v20) fun v21 =>
    B.cond v21
    (Q (.bool false) h)
    (law01_WindowDays.k52 C N Q (s 0) (s 1) (s 2) h)) : bwp P C law01_WindowDays.I (Code.at law01_WindowDays.B [1, 0]) (law01_WindowDays.q27 C Q) s h :=
  (by kernel_rfl : bwp P C law01_WindowDays.I (Code.at law01_WindowDays.B [1, 0]) (law01_WindowDays.q27 C Q) s h = (B.call C (N 0) [] h fun v20 h =>
    B.pv (V.un .not v20) fun v21 =>
    B.cond v21
    (Q (.bool false) h)
    (law01_WindowDays.k52 C N Q (s 0) (s 1) (s 2) h))).mpr hR
theorem law01_WindowDays.L56 {C : CSem} (hC : CMono C) (Q : AVal → AHeap → Prop) (s : Slots) (h : AHeap) (hR : B.call C (N 0) [] h fun v20 h =>
    B.pv (V.un .not v20) fun v21 =>
    B.cond v21
    (Q (.bool false) h)
    (law01_WindowDays.k52 C N Q (s 0) (s 1) (s 2) h)) : bwp P C law01_WindowDays.I (Code.at law01_WindowDays.B [1]) (retB P law01_WindowDays.I law01_WindowDays.R Q) s h :=
  seqB hC (by kernel_rfl : (Code.at law01_WindowDays.B [1]) = .seq (Code.at law01_WindowDays.B [1, 0]) (Code.at law01_WindowDays.B [1, 1])) (fun s h hR => law01_WindowDays.L54 hC Q s h hR) (law01_WindowDays.L55 hC Q s h hR)
noncomputable def law01_WindowDays.q28 (C : CSem) (Q : AVal → AHeap → Prop) : Ex → Slots → AHeap → Prop := Ex.then (fun s h => B.call C (N 0) [] h fun v20 h =>
    B.pv (V.un .not v20) fun v21 =>
    B.cond v21
    (Q (.bool false) h)
    (law01_WindowDays.k52 C N Q (s 0) (s 1) (s 2) h)) (retB P law01_WindowDays.I law01_WindowDays.R Q)
theorem law01_WindowDays.L57 {C : CSem} (hC : CMono C) (Q : AVal → AHeap → Prop) (s : Slots) (h : AHeap) (hR : B.call C (N 0) [] h fun v20 h =>
    B.pv (V.un .not v20) fun v21 =>
    B.cond v21
    (Q (.bool false) h)
    (law01_WindowDays.k52 C N Q (s 0) (s 1) (s 2) h)) : bwp P C law01_WindowDays.I (Code.at law01_WindowDays.B [0]) (law01_WindowDays.q28 C Q) s h :=
  (by kernel_rfl : bwp P C law01_WindowDays.I (Code.at law01_WindowDays.B [0]) (law01_WindowDays.q28 C Q) s h = (B.call C (N 0) [] h fun v20 h =>
    B.pv (V.un .not v20) fun v21 =>
    B.cond v21
    (Q (.bool false) h)
    (law01_WindowDays.k52 C N Q (s 0) (s 1) (s 2) h))).mpr hR
theorem law01_WindowDays.L58 {C : CSem} (hC : CMono C) (Q : AVal → AHeap → Prop) (s : Slots) (h : AHeap) (hR : B.call C (N 0) [] h fun v20 h =>
    B.pv (V.un .not v20) fun v21 =>
    B.cond v21
    (Q (.bool false) h)
    (law01_WindowDays.k52 C N Q (s 0) (s 1) (s 2) h)) : bwp P C law01_WindowDays.I (Code.at law01_WindowDays.B []) (retB P law01_WindowDays.I law01_WindowDays.R Q) s h :=
  seqB hC (by kernel_rfl : (Code.at law01_WindowDays.B []) = .seq (Code.at law01_WindowDays.B [0]) (Code.at law01_WindowDays.B [1])) (fun s h hR => law01_WindowDays.L56 hC Q s h hR) (law01_WindowDays.L57 hC Q s h hR)
theorem law01_WindowDays.ok {v0 v1 v2 : AVal} {h : AHeap} {Q : AVal → AHeap → Prop} (hR : law01_WindowDays.cps (AC P) N v0 v1 v2 h Q) : AC P (N 24) [v0, v1, v2] h Q :=
  AC_introB mixed (fn := Try.f6) (c := law01_WindowDays.B) (by kernel_rfl) (by kernel_rfl) (callFunc_enter (fn := Try.f6) (by kernel_rfl) (by kernel_rfl) (by kernel_rfl)) (by kernel_rfl) (Nat.le_of_ble_eq_true (by kernel_rfl)) (Nat.le_of_ble_eq_true (by kernel_rfl)) (by kernel_rfl) (law01_WindowDays.L58 (AC_cmono P) Q (startS [v0, v1, v2]) h hR)
theorem law01_WindowDays.imp : law01_WindowDays.Imp (AC P) N := fun _ _ _ _ _ hR => AC_drop (law01_WindowDays.ok hR)

def law01_awake.I : Bx := ⟨[2], [], 42, []⟩
noncomputable def law01_awake.B : Code := Try.f7.body.getD .skip
noncomputable def law01_awake.R : List ResultVar := Try.f7.results.toList
theorem law01_awake.L2 {C : CSem} (hC : CMono C) (Q : AVal → AHeap → Prop) (s : Slots) (h : AHeap) (hR : law01_awake.k1 C N Q h) : bwp P C law01_awake.I (Code.at law01_awake.B []) (retB P law01_awake.I law01_awake.R Q) s h :=
  (by kernel_rfl : bwp P C law01_awake.I (Code.at law01_awake.B []) (retB P law01_awake.I law01_awake.R Q) s h = (law01_awake.k1 C N Q h)).mpr hR
theorem law01_awake.ok {h : AHeap} {Q : AVal → AHeap → Prop} (hR : law01_awake.cps (AC P) N h Q) : AC P (N 0) [] h Q :=
  AC_introB mixed (fn := Try.f7) (c := law01_awake.B) (by kernel_rfl) (by kernel_rfl) (callFunc_enter (fn := Try.f7) (by kernel_rfl) (by kernel_rfl) (by kernel_rfl)) (by kernel_rfl) (Nat.le_of_ble_eq_true (by kernel_rfl)) (Nat.le_of_ble_eq_true (by kernel_rfl)) (by kernel_rfl) (law01_awake.L2 (AC_cmono P) Q (startS []) h hR)
theorem law01_awake.imp : law01_awake.Imp (AC P) N := fun _ _ hR => AC_drop (law01_awake.ok hR)

def window_Meet.I : Bx := ⟨[2, 3, 4], [15, 17, 20, 22], 28, []⟩
noncomputable def window_Meet.B : Code := Try.f8.body.getD .skip
noncomputable def window_Meet.R : List ResultVar := Try.f8.results.toList
theorem window_Meet.L2 {C : CSem} (hC : CMono C) (Q : AVal → AHeap → Prop) (s : Slots) (h : AHeap) (hR : window_Meet.k1 C N Q (s 0) (s 1) h) : bwp P C window_Meet.I (Code.at window_Meet.B []) (retB P window_Meet.I window_Meet.R Q) s h :=
  (by kernel_rfl : bwp P C window_Meet.I (Code.at window_Meet.B []) (retB P window_Meet.I window_Meet.R Q) s h = (window_Meet.k1 C N Q (s 0) (s 1) h)).mpr hR
theorem window_Meet.ok {v0 v1 : AVal} {h : AHeap} {Q : AVal → AHeap → Prop} (hR : window_Meet.cps (AC P) N v0 v1 h Q) : AC P (N 1) [v0, v1] h Q :=
  AC_introB mixed (fn := Try.f8) (c := window_Meet.B) (by kernel_rfl) (by kernel_rfl) (callFunc_enter (fn := Try.f8) (by kernel_rfl) (by kernel_rfl) (by kernel_rfl)) (by kernel_rfl) (Nat.le_of_ble_eq_true (by kernel_rfl)) (Nat.le_of_ble_eq_true (by kernel_rfl)) (by kernel_rfl) (window_Meet.L2 (AC_cmono P) Q (startS [v0, v1]) h hR)
theorem window_Meet.imp : window_Meet.Imp (AC P) N := fun _ _ _ _ hR => AC_drop (window_Meet.ok hR)

def ref01_Meet.I : Bx := ⟨[2, 3, 4], [], 12, []⟩
noncomputable def ref01_Meet.B : Code := Try.f9.body.getD .skip
noncomputable def ref01_Meet.R : List ResultVar := Try.f9.results.toList
theorem ref01_Meet.L2 {C : CSem} (hC : CMono C) (Q : AVal → AHeap → Prop) (s : Slots) (h : AHeap) (hR : ref01_Meet.k1 C N Q (s 0) (s 1) h) : bwp P C ref01_Meet.I (Code.at ref01_Meet.B []) (retB P ref01_Meet.I ref01_Meet.R Q) s h :=
  (by kernel_rfl : bwp P C ref01_Meet.I (Code.at ref01_Meet.B []) (retB P ref01_Meet.I ref01_Meet.R Q) s h = (ref01_Meet.k1 C N Q (s 0) (s 1) h)).mpr hR
theorem ref01_Meet.ok {v0 v1 : AVal} {h : AHeap} {Q : AVal → AHeap → Prop} (hR : ref01_Meet.cps (AC P) N v0 v1 h Q) : AC P (N 2) [v0, v1] h Q :=
  AC_introB mixed (fn := Try.f9) (c := ref01_Meet.B) (by kernel_rfl) (by kernel_rfl) (callFunc_enter (fn := Try.f9) (by kernel_rfl) (by kernel_rfl) (by kernel_rfl)) (by kernel_rfl) (Nat.le_of_ble_eq_true (by kernel_rfl)) (Nat.le_of_ble_eq_true (by kernel_rfl)) (by kernel_rfl) (ref01_Meet.L2 (AC_cmono P) Q (startS [v0, v1]) h hR)
theorem ref01_Meet.imp : ref01_Meet.Imp (AC P) N := fun _ _ _ _ hR => AC_drop (ref01_Meet.ok hR)

def window_From.I : Bx := ⟨[2, 4], [10, 14], 19, []⟩
noncomputable def window_From.B : Code := Try.f10.body.getD .skip
noncomputable def window_From.R : List ResultVar := Try.f10.results.toList
theorem window_From.L2 {C : CSem} (hC : CMono C) (Q : AVal → AHeap → Prop) (s : Slots) (h : AHeap) (hR : window_From.k1 C N Q (s 0) (s 1) h) : bwp P C window_From.I (Code.at window_From.B []) (retB P window_From.I window_From.R Q) s h :=
  (by kernel_rfl : bwp P C window_From.I (Code.at window_From.B []) (retB P window_From.I window_From.R Q) s h = (window_From.k1 C N Q (s 0) (s 1) h)).mpr hR
theorem window_From.ok {v0 v1 : AVal} {h : AHeap} {Q : AVal → AHeap → Prop} (hR : window_From.cps (AC P) N v0 v1 h Q) : AC P (N 3) [v0, v1] h Q :=
  AC_introB mixed (fn := Try.f10) (c := window_From.B) (by kernel_rfl) (by kernel_rfl) (callFunc_enter (fn := Try.f10) (by kernel_rfl) (by kernel_rfl) (by kernel_rfl)) (by kernel_rfl) (Nat.le_of_ble_eq_true (by kernel_rfl)) (Nat.le_of_ble_eq_true (by kernel_rfl)) (by kernel_rfl) (window_From.L2 (AC_cmono P) Q (startS [v0, v1]) h hR)
theorem window_From.imp : window_From.Imp (AC P) N := fun _ _ _ _ hR => AC_drop (window_From.ok hR)

def ref01_From.I : Bx := ⟨[2, 4], [], 12, []⟩
noncomputable def ref01_From.B : Code := Try.f11.body.getD .skip
noncomputable def ref01_From.R : List ResultVar := Try.f11.results.toList
theorem ref01_From.L2 {C : CSem} (hC : CMono C) (Q : AVal → AHeap → Prop) (s : Slots) (h : AHeap) (hR : ref01_From.k1 C N Q (s 0) (s 1) h) : bwp P C ref01_From.I (Code.at ref01_From.B []) (retB P ref01_From.I ref01_From.R Q) s h :=
  (by kernel_rfl : bwp P C ref01_From.I (Code.at ref01_From.B []) (retB P ref01_From.I ref01_From.R Q) s h = (ref01_From.k1 C N Q (s 0) (s 1) h)).mpr hR
theorem ref01_From.ok {v0 v1 : AVal} {h : AHeap} {Q : AVal → AHeap → Prop} (hR : ref01_From.cps (AC P) N v0 v1 h Q) : AC P (N 4) [v0, v1] h Q :=
  AC_introB mixed (fn := Try.f11) (c := ref01_From.B) (by kernel_rfl) (by kernel_rfl) (callFunc_enter (fn := Try.f11) (by kernel_rfl) (by kernel_rfl) (by kernel_rfl)) (by kernel_rfl) (Nat.le_of_ble_eq_true (by kernel_rfl)) (Nat.le_of_ble_eq_true (by kernel_rfl)) (by kernel_rfl) (ref01_From.L2 (AC_cmono P) Q (startS [v0, v1]) h hR)
theorem ref01_From.imp : ref01_From.Imp (AC P) N := fun _ _ _ _ hR => AC_drop (ref01_From.ok hR)

def window_Right.I : Bx := ⟨[1], [3, 7, 9, 14], 18, []⟩
noncomputable def window_Right.B : Code := Try.f12.body.getD .skip
noncomputable def window_Right.R : List ResultVar := Try.f12.results.toList
theorem window_Right.L2 {C : CSem} (hC : CMono C) (Q : AVal → AHeap → Prop) (s : Slots) (h : AHeap) (hR : window_Right.k1 C N Q (s 0) h) : bwp P C window_Right.I (Code.at window_Right.B []) (retB P window_Right.I window_Right.R Q) s h :=
  (by kernel_rfl : bwp P C window_Right.I (Code.at window_Right.B []) (retB P window_Right.I window_Right.R Q) s h = (window_Right.k1 C N Q (s 0) h)).mpr hR
theorem window_Right.ok {v0 : AVal} {h : AHeap} {Q : AVal → AHeap → Prop} (hR : window_Right.cps (AC P) N v0 h Q) : AC P (N 5) [v0] h Q :=
  AC_introB mixed (fn := Try.f12) (c := window_Right.B) (by kernel_rfl) (by kernel_rfl) (callFunc_enter (fn := Try.f12) (by kernel_rfl) (by kernel_rfl) (by kernel_rfl)) (by kernel_rfl) (Nat.le_of_ble_eq_true (by kernel_rfl)) (Nat.le_of_ble_eq_true (by kernel_rfl)) (by kernel_rfl) (window_Right.L2 (AC_cmono P) Q (startS [v0]) h hR)
theorem window_Right.imp : window_Right.Imp (AC P) N := fun _ _ _ hR => AC_drop (window_Right.ok hR)

def ref01_Right.I : Bx := ⟨[1], [3, 7, 9, 14], 18, []⟩
noncomputable def ref01_Right.B : Code := Try.f13.body.getD .skip
noncomputable def ref01_Right.R : List ResultVar := Try.f13.results.toList
theorem ref01_Right.L2 {C : CSem} (hC : CMono C) (Q : AVal → AHeap → Prop) (s : Slots) (h : AHeap) (hR : ref01_Right.k1 C N Q (s 0) h) : bwp P C ref01_Right.I (Code.at ref01_Right.B []) (retB P ref01_Right.I ref01_Right.R Q) s h :=
  (by kernel_rfl : bwp P C ref01_Right.I (Code.at ref01_Right.B []) (retB P ref01_Right.I ref01_Right.R Q) s h = (ref01_Right.k1 C N Q (s 0) h)).mpr hR
theorem ref01_Right.ok {v0 : AVal} {h : AHeap} {Q : AVal → AHeap → Prop} (hR : ref01_Right.cps (AC P) N v0 h Q) : AC P (N 6) [v0] h Q :=
  AC_introB mixed (fn := Try.f13) (c := ref01_Right.B) (by kernel_rfl) (by kernel_rfl) (callFunc_enter (fn := Try.f13) (by kernel_rfl) (by kernel_rfl) (by kernel_rfl)) (by kernel_rfl) (Nat.le_of_ble_eq_true (by kernel_rfl)) (Nat.le_of_ble_eq_true (by kernel_rfl)) (by kernel_rfl) (ref01_Right.L2 (AC_cmono P) Q (startS [v0]) h hR)
theorem ref01_Right.imp : ref01_Right.Imp (AC P) N := fun _ _ _ hR => AC_drop (ref01_Right.ok hR)

def window_Has.I : Bx := ⟨[2], [8, 15], 19, []⟩
noncomputable def window_Has.B : Code := Try.f14.body.getD .skip
noncomputable def window_Has.R : List ResultVar := Try.f14.results.toList
theorem window_Has.L2 {C : CSem} (hC : CMono C) (Q : AVal → AHeap → Prop) (s : Slots) (h : AHeap) (hR : window_Has.k1 C N Q (s 0) (s 1) h) : bwp P C window_Has.I (Code.at window_Has.B []) (retB P window_Has.I window_Has.R Q) s h :=
  (by kernel_rfl : bwp P C window_Has.I (Code.at window_Has.B []) (retB P window_Has.I window_Has.R Q) s h = (window_Has.k1 C N Q (s 0) (s 1) h)).mpr hR
theorem window_Has.ok {v0 v1 : AVal} {h : AHeap} {Q : AVal → AHeap → Prop} (hR : window_Has.cps (AC P) N v0 v1 h Q) : AC P (N 7) [v0, v1] h Q :=
  AC_introB mixed (fn := Try.f14) (c := window_Has.B) (by kernel_rfl) (by kernel_rfl) (callFunc_enter (fn := Try.f14) (by kernel_rfl) (by kernel_rfl) (by kernel_rfl)) (by kernel_rfl) (Nat.le_of_ble_eq_true (by kernel_rfl)) (Nat.le_of_ble_eq_true (by kernel_rfl)) (by kernel_rfl) (window_Has.L2 (AC_cmono P) Q (startS [v0, v1]) h hR)
theorem window_Has.imp : window_Has.Imp (AC P) N := fun _ _ _ _ hR => AC_drop (window_Has.ok hR)

def ref01_Has.I : Bx := ⟨[2], [9, 15], 19, []⟩
noncomputable def ref01_Has.B : Code := Try.f15.body.getD .skip
noncomputable def ref01_Has.R : List ResultVar := Try.f15.results.toList
theorem ref01_Has.L2 {C : CSem} (hC : CMono C) (Q : AVal → AHeap → Prop) (s : Slots) (h : AHeap) (hR : ref01_Has.k1 C N Q (s 0) (s 1) h) : bwp P C ref01_Has.I (Code.at ref01_Has.B []) (retB P ref01_Has.I ref01_Has.R Q) s h :=
  (by kernel_rfl : bwp P C ref01_Has.I (Code.at ref01_Has.B []) (retB P ref01_Has.I ref01_Has.R Q) s h = (ref01_Has.k1 C N Q (s 0) (s 1) h)).mpr hR
theorem ref01_Has.ok {v0 v1 : AVal} {h : AHeap} {Q : AVal → AHeap → Prop} (hR : ref01_Has.cps (AC P) N v0 v1 h Q) : AC P (N 8) [v0, v1] h Q :=
  AC_introB mixed (fn := Try.f15) (c := ref01_Has.B) (by kernel_rfl) (by kernel_rfl) (callFunc_enter (fn := Try.f15) (by kernel_rfl) (by kernel_rfl) (by kernel_rfl)) (by kernel_rfl) (Nat.le_of_ble_eq_true (by kernel_rfl)) (Nat.le_of_ble_eq_true (by kernel_rfl)) (by kernel_rfl) (ref01_Has.L2 (AC_cmono P) Q (startS [v0, v1]) h hR)
theorem ref01_Has.imp : ref01_Has.Imp (AC P) N := fun _ _ _ _ hR => AC_drop (ref01_Has.ok hR)

def kit_LentWindows.I : Bx := ⟨[], [], 25, []⟩
noncomputable def kit_LentWindows.B : Code := Try.f16.body.getD .skip
noncomputable def kit_LentWindows.R : List ResultVar := Try.f16.results.toList
theorem kit_LentWindows.L1 {C : CSem} (hC : CMono C) (Q : AVal → AHeap → Prop) (s : Slots) (h : AHeap) (hR : B.pv (V.lenSl (s 0)) fun v23 =>
    B.pv (V.cutSl 2 (s 3) none (some v23)) fun v24 =>
    Q v24 h) : bwp P C kit_LentWindows.I (Code.at kit_LentWindows.B [1, 1, 1, 1]) (retB P kit_LentWindows.I kit_LentWindows.R Q) s h :=
  (by kernel_rfl : bwp P C kit_LentWindows.I (Code.at kit_LentWindows.B [1, 1, 1, 1]) (retB P kit_LentWindows.I kit_LentWindows.R Q) s h = (B.pv (V.lenSl (s 0)) fun v23 =>
    B.pv (V.cutSl 2 (s 3) none (some v23)) fun v24 =>
    Q v24 h)).mpr hR
noncomputable def kit_LentWindows.q1 (C : CSem) (Q : AVal → AHeap → Prop) : Ex → Slots → AHeap → Prop := Ex.then (fun s h => B.pv (V.lenSl (s 0)) fun v23 =>
    B.pv (V.cutSl 2 (s 3) none (some v23)) fun v24 =>
    Q v24 h) (retB P kit_LentWindows.I kit_LentWindows.R Q)
noncomputable def kit_LentWindows.q2 (C : CSem) (Q : AVal → AHeap → Prop) : Ex → Slots → AHeap → Prop := Ex.inBlock 0 (kit_LentWindows.q1 C Q)
noncomputable def kit_LentWindows.q3 (C : CSem) (Q : AVal → AHeap → Prop) (Y1 : List AVal → AHeap → Prop) : Ex → Slots → AHeap → Prop := Ex.then (fun s h => Y1 [(s 3), (s 4)] h) (kit_LentWindows.q2 C Q)
theorem kit_LentWindows.L3 {C : CSem} (hC : CMono C) (Q : AVal → AHeap → Prop) (Y1 : List AVal → AHeap → Prop) (s : Slots) (h : AHeap) (hR : kit_LentWindows.k2 C N Q Y1 (s 0) (s 3) (s 4) h) : bwp P C kit_LentWindows.I (Code.at kit_LentWindows.B [1, 1, 1, 0, 1, 0, 0]) (kit_LentWindows.q3 C Q Y1) s h :=
  (by kernel_rfl : bwp P C kit_LentWindows.I (Code.at kit_LentWindows.B [1, 1, 1, 0, 1, 0, 0]) (kit_LentWindows.q3 C Q Y1) s h = (kit_LentWindows.k2 C N Q Y1 (s 0) (s 3) (s 4) h)).mpr hR
theorem kit_LentWindows.L5 {C : CSem} (hC : CMono C) (Q : AVal → AHeap → Prop) (s : Slots) (h : AHeap) (hR : LoopR (kit_LentWindows.l4 C N Q (s 0)) [(s 3), (s 4)] h) : bwp P C kit_LentWindows.I (Code.at kit_LentWindows.B [1, 1, 1, 0, 1, 0]) (kit_LentWindows.q2 C Q) s h :=
  loopB hC [0] [3, 4] (G := (fun kv lv h Y1 => match kv with | [v0] => kit_LentWindows.l4 C N Q v0 lv h Y1 | _ => False)) (by kernel_rfl : (Code.at kit_LentWindows.B [1, 1, 1, 0, 1, 0]) = .loop (Code.at kit_LentWindows.B [1, 1, 1, 0, 1, 0, 0])) (by kernel_rfl) (fun Y1 s h hR => kit_LentWindows.L3 hC Q Y1 s h hR) hR
theorem kit_LentWindows.L6 {C : CSem} (hC : CMono C) (Q : AVal → AHeap → Prop) (s : Slots) (h : AHeap) (hR : LoopR (kit_LentWindows.l4 C N Q (s 0)) [(s 3), (s 4)] h) : bwp P C kit_LentWindows.I (Code.at kit_LentWindows.B [1, 1, 1, 0, 1]) (kit_LentWindows.q1 C Q) s h :=
  blockB (by kernel_rfl : (Code.at kit_LentWindows.B [1, 1, 1, 0, 1]) = .block 0 (Code.at kit_LentWindows.B [1, 1, 1, 0, 1, 0])) (kit_LentWindows.L5 hC Q s h hR)
noncomputable def kit_LentWindows.q4 (C : CSem) (Q : AVal → AHeap → Prop) : Ex → Slots → AHeap → Prop := Ex.then (fun s h => LoopR (kit_LentWindows.l4 C N Q (s 0)) [(s 3), (s 4)] h) (kit_LentWindows.q1 C Q)
theorem kit_LentWindows.L7 {C : CSem} (hC : CMono C) (Q : AVal → AHeap → Prop) (s : Slots) (h : AHeap) (hR : LoopR (kit_LentWindows.l4 C N Q (s 0)) [(s 3), (.int .i64 0)] h) : bwp P C kit_LentWindows.I (Code.at kit_LentWindows.B [1, 1, 1, 0, 0]) (kit_LentWindows.q4 C Q) s h :=
  (by kernel_rfl : bwp P C kit_LentWindows.I (Code.at kit_LentWindows.B [1, 1, 1, 0, 0]) (kit_LentWindows.q4 C Q) s h = (LoopR (kit_LentWindows.l4 C N Q (s 0)) [(s 3), (.int .i64 0)] h)).mpr hR
theorem kit_LentWindows.L8 {C : CSem} (hC : CMono C) (Q : AVal → AHeap → Prop) (s : Slots) (h : AHeap) (hR : LoopR (kit_LentWindows.l4 C N Q (s 0)) [(s 3), (.int .i64 0)] h) : bwp P C kit_LentWindows.I (Code.at kit_LentWindows.B [1, 1, 1, 0]) (kit_LentWindows.q1 C Q) s h :=
  seqB hC (by kernel_rfl : (Code.at kit_LentWindows.B [1, 1, 1, 0]) = .seq (Code.at kit_LentWindows.B [1, 1, 1, 0, 0]) (Code.at kit_LentWindows.B [1, 1, 1, 0, 1])) (fun s h hR => kit_LentWindows.L6 hC Q s h hR) (kit_LentWindows.L7 hC Q s h hR)
theorem kit_LentWindows.L9 {C : CSem} (hC : CMono C) (Q : AVal → AHeap → Prop) (s : Slots) (h : AHeap) (hR : LoopR (kit_LentWindows.l4 C N Q (s 0)) [(s 3), (.int .i64 0)] h) : bwp P C kit_LentWindows.I (Code.at kit_LentWindows.B [1, 1, 1]) (retB P kit_LentWindows.I kit_LentWindows.R Q) s h :=
  seqB hC (by kernel_rfl : (Code.at kit_LentWindows.B [1, 1, 1]) = .seq (Code.at kit_LentWindows.B [1, 1, 1, 0]) (Code.at kit_LentWindows.B [1, 1, 1, 1])) (fun s h hR => kit_LentWindows.L1 hC Q s h hR) (kit_LentWindows.L8 hC Q s h hR)
noncomputable def kit_LentWindows.q5 (C : CSem) (Q : AVal → AHeap → Prop) : Ex → Slots → AHeap → Prop := Ex.then (fun s h => LoopR (kit_LentWindows.l4 C N Q (s 0)) [(s 3), (.int .i64 0)] h) (retB P kit_LentWindows.I kit_LentWindows.R Q)
theorem kit_LentWindows.L10 {C : CSem} (hC : CMono C) (Q : AVal → AHeap → Prop) (s : Slots) (h : AHeap) (hR : B.appW h 2 16 (s 3) (s 0) fun v11 h =>
    LoopR (kit_LentWindows.l4 C N Q (s 0)) [v11, (.int .i64 0)] h) : bwp P C kit_LentWindows.I (Code.at kit_LentWindows.B [1, 1, 0]) (kit_LentWindows.q5 C Q) s h :=
  (by kernel_rfl : bwp P C kit_LentWindows.I (Code.at kit_LentWindows.B [1, 1, 0]) (kit_LentWindows.q5 C Q) s h = (B.appW h 2 16 (s 3) (s 0) fun v11 h =>
    LoopR (kit_LentWindows.l4 C N Q (s 0)) [v11, (.int .i64 0)] h)).mpr hR
theorem kit_LentWindows.L11 {C : CSem} (hC : CMono C) (Q : AVal → AHeap → Prop) (s : Slots) (h : AHeap) (hR : B.appW h 2 16 (s 3) (s 0) fun v11 h =>
    LoopR (kit_LentWindows.l4 C N Q (s 0)) [v11, (.int .i64 0)] h) : bwp P C kit_LentWindows.I (Code.at kit_LentWindows.B [1, 1]) (retB P kit_LentWindows.I kit_LentWindows.R Q) s h :=
  seqB hC (by kernel_rfl : (Code.at kit_LentWindows.B [1, 1]) = .seq (Code.at kit_LentWindows.B [1, 1, 0]) (Code.at kit_LentWindows.B [1, 1, 1])) (fun s h hR => kit_LentWindows.L9 hC Q s h hR) (kit_LentWindows.L10 hC Q s h hR)
noncomputable def kit_LentWindows.q6 (C : CSem) (Q : AVal → AHeap → Prop) : Ex → Slots → AHeap → Prop := Ex.then (fun s h => B.appW h 2 16 (s 3) (s 0) fun v11 h =>
    LoopR (kit_LentWindows.l4 C N Q (s 0)) [v11, (.int .i64 0)] h) (retB P kit_LentWindows.I kit_LentWindows.R Q)
theorem kit_LentWindows.L13 {C : CSem} (hC : CMono C) (Q : AVal → AHeap → Prop) (s : Slots) (h : AHeap) (hR : kit_LentWindows.k12 C N Q (s 0) h) : bwp P C kit_LentWindows.I (Code.at kit_LentWindows.B [1, 0]) (kit_LentWindows.q6 C Q) s h :=
  (by kernel_rfl : bwp P C kit_LentWindows.I (Code.at kit_LentWindows.B [1, 0]) (kit_LentWindows.q6 C Q) s h = (kit_LentWindows.k12 C N Q (s 0) h)).mpr hR
theorem kit_LentWindows.L14 {C : CSem} (hC : CMono C) (Q : AVal → AHeap → Prop) (s : Slots) (h : AHeap) (hR : kit_LentWindows.k12 C N Q (s 0) h) : bwp P C kit_LentWindows.I (Code.at kit_LentWindows.B [1]) (retB P kit_LentWindows.I kit_LentWindows.R Q) s h :=
  seqB hC (by kernel_rfl : (Code.at kit_LentWindows.B [1]) = .seq (Code.at kit_LentWindows.B [1, 0]) (Code.at kit_LentWindows.B [1, 1])) (fun s h hR => kit_LentWindows.L11 hC Q s h hR) (kit_LentWindows.L13 hC Q s h hR)
noncomputable def kit_LentWindows.q7 (C : CSem) (Q : AVal → AHeap → Prop) : Ex → Slots → AHeap → Prop := Ex.then (fun s h => kit_LentWindows.k12 C N Q (s 0) h) (retB P kit_LentWindows.I kit_LentWindows.R Q)
theorem kit_LentWindows.L15 {C : CSem} (hC : CMono C) (Q : AVal → AHeap → Prop) (s : Slots) (h : AHeap) (hR : kit_LentWindows.k12 C N Q (s 0) h) : bwp P C kit_LentWindows.I (Code.at kit_LentWindows.B [0]) (kit_LentWindows.q7 C Q) s h :=
  (by kernel_rfl : bwp P C kit_LentWindows.I (Code.at kit_LentWindows.B [0]) (kit_LentWindows.q7 C Q) s h = (kit_LentWindows.k12 C N Q (s 0) h)).mpr hR
theorem kit_LentWindows.L16 {C : CSem} (hC : CMono C) (Q : AVal → AHeap → Prop) (s : Slots) (h : AHeap) (hR : kit_LentWindows.k12 C N Q (s 0) h) : bwp P C kit_LentWindows.I (Code.at kit_LentWindows.B []) (retB P kit_LentWindows.I kit_LentWindows.R Q) s h :=
  seqB hC (by kernel_rfl : (Code.at kit_LentWindows.B []) = .seq (Code.at kit_LentWindows.B [0]) (Code.at kit_LentWindows.B [1])) (fun s h hR => kit_LentWindows.L14 hC Q s h hR) (kit_LentWindows.L15 hC Q s h hR)
theorem kit_LentWindows.ok {v0 : AVal} {h : AHeap} {Q : AVal → AHeap → Prop} (hR : kit_LentWindows.cps (AC P) N v0 h Q) : AC P (N 9) [v0] h Q :=
  AC_introB mixed (fn := Try.f16) (c := kit_LentWindows.B) (by kernel_rfl) (by kernel_rfl) (callFunc_enter (fn := Try.f16) (by kernel_rfl) (by kernel_rfl) (by kernel_rfl)) (by kernel_rfl) (Nat.le_of_ble_eq_true (by kernel_rfl)) (Nat.le_of_ble_eq_true (by kernel_rfl)) (by kernel_rfl) (kit_LentWindows.L16 (AC_cmono P) Q (startS [v0]) h hR)
theorem kit_LentWindows.imp : kit_LentWindows.Imp (AC P) N := fun _ _ _ hR => AC_drop (kit_LentWindows.ok hR)

def kit_SameWindows.I : Bx := ⟨[], [], 26, [(6, [(0, []), (1, []), (2, []), (3, []), (4, []), (5, []), (6, []), (7, []), (8, [])])]⟩
noncomputable def kit_SameWindows.B : Code := Try.f17.body.getD .skip
noncomputable def kit_SameWindows.R : List ResultVar := Try.f17.results.toList
theorem kit_SameWindows.L1 {C : CSem} (hC : CMono C) (Q : AVal → AHeap → Prop) (s : Slots) (h : AHeap) (hR : Q (.bool true) h) : bwp P C kit_SameWindows.I (Code.at kit_SameWindows.B [1, 1, 1]) (retB P kit_SameWindows.I kit_SameWindows.R Q) s h :=
  (by kernel_rfl : bwp P C kit_SameWindows.I (Code.at kit_SameWindows.B [1, 1, 1]) (retB P kit_SameWindows.I kit_SameWindows.R Q) s h = (Q (.bool true) h)).mpr hR
noncomputable def kit_SameWindows.q1 (C : CSem) (Q : AVal → AHeap → Prop) : Ex → Slots → AHeap → Prop := Ex.then (fun s h => Q (.bool true) h) (retB P kit_SameWindows.I kit_SameWindows.R Q)
noncomputable def kit_SameWindows.q2 (C : CSem) (Q : AVal → AHeap → Prop) : Ex → Slots → AHeap → Prop := Ex.inBlock 0 (kit_SameWindows.q1 C Q)
noncomputable def kit_SameWindows.q3 (C : CSem) (Q : AVal → AHeap → Prop) (Y1 : List AVal → AHeap → Prop) : Ex → Slots → AHeap → Prop := Ex.then (fun s h => Y1 [(s 5)] h) (kit_SameWindows.q2 C Q)
theorem kit_SameWindows.L3 {C : CSem} (hC : CMono C) (Q : AVal → AHeap → Prop) (Y1 : List AVal → AHeap → Prop) (s : Slots) (h : AHeap) (hR : kit_SameWindows.k2 C N Q Y1 (s 0) (s 1) (s 5) h) : bwp P C kit_SameWindows.I (Code.at kit_SameWindows.B [1, 1, 0, 1, 0, 0]) (kit_SameWindows.q3 C Q Y1) s h :=
  (by kernel_rfl : bwp P C kit_SameWindows.I (Code.at kit_SameWindows.B [1, 1, 0, 1, 0, 0]) (kit_SameWindows.q3 C Q Y1) s h = (kit_SameWindows.k2 C N Q Y1 (s 0) (s 1) (s 5) h)).mpr hR
theorem kit_SameWindows.L5 {C : CSem} (hC : CMono C) (Q : AVal → AHeap → Prop) (s : Slots) (h : AHeap) (hR : LoopR (kit_SameWindows.l4 C N Q (s 0) (s 1)) [(s 5)] h) : bwp P C kit_SameWindows.I (Code.at kit_SameWindows.B [1, 1, 0, 1, 0]) (kit_SameWindows.q2 C Q) s h :=
  loopB hC [0, 1] [5] (G := (fun kv lv h Y1 => match kv with | [v0, v1] => kit_SameWindows.l4 C N Q v0 v1 lv h Y1 | _ => False)) (by kernel_rfl : (Code.at kit_SameWindows.B [1, 1, 0, 1, 0]) = .loop (Code.at kit_SameWindows.B [1, 1, 0, 1, 0, 0])) (by kernel_rfl) (fun Y1 s h hR => kit_SameWindows.L3 hC Q Y1 s h hR) hR
theorem kit_SameWindows.L6 {C : CSem} (hC : CMono C) (Q : AVal → AHeap → Prop) (s : Slots) (h : AHeap) (hR : LoopR (kit_SameWindows.l4 C N Q (s 0) (s 1)) [(s 5)] h) : bwp P C kit_SameWindows.I (Code.at kit_SameWindows.B [1, 1, 0, 1]) (kit_SameWindows.q1 C Q) s h :=
  blockB (by kernel_rfl : (Code.at kit_SameWindows.B [1, 1, 0, 1]) = .block 0 (Code.at kit_SameWindows.B [1, 1, 0, 1, 0])) (kit_SameWindows.L5 hC Q s h hR)
noncomputable def kit_SameWindows.q4 (C : CSem) (Q : AVal → AHeap → Prop) : Ex → Slots → AHeap → Prop := Ex.then (fun s h => LoopR (kit_SameWindows.l4 C N Q (s 0) (s 1)) [(s 5)] h) (kit_SameWindows.q1 C Q)
theorem kit_SameWindows.L7 {C : CSem} (hC : CMono C) (Q : AVal → AHeap → Prop) (s : Slots) (h : AHeap) (hR : LoopR (kit_SameWindows.l4 C N Q (s 0) (s 1)) [(.int .i64 0)] h) : bwp P C kit_SameWindows.I (Code.at kit_SameWindows.B [1, 1, 0, 0]) (kit_SameWindows.q4 C Q) s h :=
  (by kernel_rfl : bwp P C kit_SameWindows.I (Code.at kit_SameWindows.B [1, 1, 0, 0]) (kit_SameWindows.q4 C Q) s h = (LoopR (kit_SameWindows.l4 C N Q (s 0) (s 1)) [(.int .i64 0)] h)).mpr hR
theorem kit_SameWindows.L8 {C : CSem} (hC : CMono C) (Q : AVal → AHeap → Prop) (s : Slots) (h : AHeap) (hR : LoopR (kit_SameWindows.l4 C N Q (s 0) (s 1)) [(.int .i64 0)] h) : bwp P C kit_SameWindows.I (Code.at kit_SameWindows.B [1, 1, 0]) (kit_SameWindows.q1 C Q) s h :=
  seqB hC (by kernel_rfl : (Code.at kit_SameWindows.B [1, 1, 0]) = .seq (Code.at kit_SameWindows.B [1, 1, 0, 0]) (Code.at kit_SameWindows.B [1, 1, 0, 1])) (fun s h hR => kit_SameWindows.L6 hC Q s h hR) (kit_SameWindows.L7 hC Q s h hR)
theorem kit_SameWindows.L9 {C : CSem} (hC : CMono C) (Q : AVal → AHeap → Prop) (s : Slots) (h : AHeap) (hR : LoopR (kit_SameWindows.l4 C N Q (s 0) (s 1)) [(.int .i64 0)] h) : bwp P C kit_SameWindows.I (Code.at kit_SameWindows.B [1, 1]) (retB P kit_SameWindows.I kit_SameWindows.R Q) s h :=
  seqB hC (by kernel_rfl : (Code.at kit_SameWindows.B [1, 1]) = .seq (Code.at kit_SameWindows.B [1, 1, 0]) (Code.at kit_SameWindows.B [1, 1, 1])) (fun s h hR => kit_SameWindows.L1 hC Q s h hR) (kit_SameWindows.L8 hC Q s h hR)
noncomputable def kit_SameWindows.q5 (C : CSem) (Q : AVal → AHeap → Prop) : Ex → Slots → AHeap → Prop := Ex.then (fun s h => LoopR (kit_SameWindows.l4 C N Q (s 0) (s 1)) [(.int .i64 0)] h) (retB P kit_SameWindows.I kit_SameWindows.R Q)
theorem kit_SameWindows.L11 {C : CSem} (hC : CMono C) (Q : AVal → AHeap → Prop) (s : Slots) (h : AHeap) (hR : kit_SameWindows.k10 C N Q (s 0) (s 1) h) : bwp P C kit_SameWindows.I (Code.at kit_SameWindows.B [1, 0]) (kit_SameWindows.q5 C Q) s h :=
  (by kernel_rfl : bwp P C kit_SameWindows.I (Code.at kit_SameWindows.B [1, 0]) (kit_SameWindows.q5 C Q) s h = (kit_SameWindows.k10 C N Q (s 0) (s 1) h)).mpr hR
theorem kit_SameWindows.L12 {C : CSem} (hC : CMono C) (Q : AVal → AHeap → Prop) (s : Slots) (h : AHeap) (hR : kit_SameWindows.k10 C N Q (s 0) (s 1) h) : bwp P C kit_SameWindows.I (Code.at kit_SameWindows.B [1]) (retB P kit_SameWindows.I kit_SameWindows.R Q) s h :=
  seqB hC (by kernel_rfl : (Code.at kit_SameWindows.B [1]) = .seq (Code.at kit_SameWindows.B [1, 0]) (Code.at kit_SameWindows.B [1, 1])) (fun s h hR => kit_SameWindows.L9 hC Q s h hR) (kit_SameWindows.L11 hC Q s h hR)
noncomputable def kit_SameWindows.q6 (C : CSem) (Q : AVal → AHeap → Prop) : Ex → Slots → AHeap → Prop := Ex.then (fun s h => kit_SameWindows.k10 C N Q (s 0) (s 1) h) (retB P kit_SameWindows.I kit_SameWindows.R Q)
theorem kit_SameWindows.L13 {C : CSem} (hC : CMono C) (Q : AVal → AHeap → Prop) (s : Slots) (h : AHeap) (hR : kit_SameWindows.k10 C N Q (s 0) (s 1) h) : bwp P C kit_SameWindows.I (Code.at kit_SameWindows.B [0]) (kit_SameWindows.q6 C Q) s h :=
  (by kernel_rfl : bwp P C kit_SameWindows.I (Code.at kit_SameWindows.B [0]) (kit_SameWindows.q6 C Q) s h = (kit_SameWindows.k10 C N Q (s 0) (s 1) h)).mpr hR
theorem kit_SameWindows.L14 {C : CSem} (hC : CMono C) (Q : AVal → AHeap → Prop) (s : Slots) (h : AHeap) (hR : kit_SameWindows.k10 C N Q (s 0) (s 1) h) : bwp P C kit_SameWindows.I (Code.at kit_SameWindows.B []) (retB P kit_SameWindows.I kit_SameWindows.R Q) s h :=
  seqB hC (by kernel_rfl : (Code.at kit_SameWindows.B []) = .seq (Code.at kit_SameWindows.B [0]) (Code.at kit_SameWindows.B [1])) (fun s h hR => kit_SameWindows.L12 hC Q s h hR) (kit_SameWindows.L13 hC Q s h hR)
theorem kit_SameWindows.ok {v0 v1 : AVal} {h : AHeap} {Q : AVal → AHeap → Prop} (hR : kit_SameWindows.cps (AC P) N v0 v1 h Q) : AC P (N 12) [v0, v1] h Q :=
  AC_introB mixed (fn := Try.f17) (c := kit_SameWindows.B) (by kernel_rfl) (by kernel_rfl) (callFunc_enter (fn := Try.f17) (by kernel_rfl) (by kernel_rfl) (by kernel_rfl)) (by kernel_rfl) (Nat.le_of_ble_eq_true (by kernel_rfl)) (Nat.le_of_ble_eq_true (by kernel_rfl)) (by kernel_rfl) (kit_SameWindows.L14 (AC_cmono P) Q (startS [v0, v1]) h hR)
theorem kit_SameWindows.imp : kit_SameWindows.Imp (AC P) N := fun _ _ _ _ hR => AC_drop (kit_SameWindows.ok hR)

def window_Rows.I : Bx := ⟨[5], [19, 25], 69, []⟩
noncomputable def window_Rows.B : Code := Try.f18.body.getD .skip
noncomputable def window_Rows.R : List ResultVar := Try.f18.results.toList
theorem window_Rows.L1 {C : CSem} (hC : CMono C) (Q : AVal → AHeap → Prop) (s : Slots) (h : AHeap) (hR : Q (s 6) h) : bwp P C window_Rows.I (Code.at window_Rows.B [1, 1, 1, 1, 1, 1]) (retB P window_Rows.I window_Rows.R Q) s h :=
  (by kernel_rfl : bwp P C window_Rows.I (Code.at window_Rows.B [1, 1, 1, 1, 1, 1]) (retB P window_Rows.I window_Rows.R Q) s h = (Q (s 6) h)).mpr hR
noncomputable def window_Rows.q1 (C : CSem) (Q : AVal → AHeap → Prop) : Ex → Slots → AHeap → Prop := Ex.then (fun s h => Q (s 6) h) (retB P window_Rows.I window_Rows.R Q)
noncomputable def window_Rows.q2 (C : CSem) (Q : AVal → AHeap → Prop) : Ex → Slots → AHeap → Prop := Ex.inBlock 2 (window_Rows.q1 C Q)
noncomputable def window_Rows.q3 (C : CSem) (Q : AVal → AHeap → Prop) (Y1 : List AVal → AHeap → Prop) : Ex → Slots → AHeap → Prop := Ex.then (fun s h => Y1 [(s 6), (s 7), (s 32)] h) (window_Rows.q2 C Q)
theorem window_Rows.L3 {C : CSem} (hC : CMono C) (Q : AVal → AHeap → Prop) (Y1 : List AVal → AHeap → Prop) (s : Slots) (h : AHeap) (hR : window_Rows.k2 C N Q Y1 (s 3) (s 6) (s 7) (s 32) h) : bwp P C window_Rows.I (Code.at window_Rows.B [1, 1, 1, 1, 1, 0, 1, 0, 0]) (window_Rows.q3 C Q Y1) s h :=
  (by kernel_rfl : bwp P C window_Rows.I (Code.at window_Rows.B [1, 1, 1, 1, 1, 0, 1, 0, 0]) (window_Rows.q3 C Q Y1) s h = (window_Rows.k2 C N Q Y1 (s 3) (s 6) (s 7) (s 32) h)).mpr hR
theorem window_Rows.L5 {C : CSem} (hC : CMono C) (Q : AVal → AHeap → Prop) (s : Slots) (h : AHeap) (hR : LoopR (window_Rows.l4 C N Q (s 3)) [(s 6), (s 7), (s 32)] h) : bwp P C window_Rows.I (Code.at window_Rows.B [1, 1, 1, 1, 1, 0, 1, 0]) (window_Rows.q2 C Q) s h :=
  loopB hC [3] [6, 7, 32] (G := (fun kv lv h Y1 => match kv with | [v3] => window_Rows.l4 C N Q v3 lv h Y1 | _ => False)) (by kernel_rfl : (Code.at window_Rows.B [1, 1, 1, 1, 1, 0, 1, 0]) = .loop (Code.at window_Rows.B [1, 1, 1, 1, 1, 0, 1, 0, 0])) (by kernel_rfl) (fun Y1 s h hR => window_Rows.L3 hC Q Y1 s h hR) hR
theorem window_Rows.L6 {C : CSem} (hC : CMono C) (Q : AVal → AHeap → Prop) (s : Slots) (h : AHeap) (hR : LoopR (window_Rows.l4 C N Q (s 3)) [(s 6), (s 7), (s 32)] h) : bwp P C window_Rows.I (Code.at window_Rows.B [1, 1, 1, 1, 1, 0, 1]) (window_Rows.q1 C Q) s h :=
  blockB (by kernel_rfl : (Code.at window_Rows.B [1, 1, 1, 1, 1, 0, 1]) = .block 2 (Code.at window_Rows.B [1, 1, 1, 1, 1, 0, 1, 0])) (window_Rows.L5 hC Q s h hR)
noncomputable def window_Rows.q4 (C : CSem) (Q : AVal → AHeap → Prop) : Ex → Slots → AHeap → Prop := Ex.then (fun s h => LoopR (window_Rows.l4 C N Q (s 3)) [(s 6), (s 7), (s 32)] h) (window_Rows.q1 C Q)
theorem window_Rows.L7 {C : CSem} (hC : CMono C) (Q : AVal → AHeap → Prop) (s : Slots) (h : AHeap) (hR : LoopR (window_Rows.l4 C N Q (s 3)) [(s 6), (s 7), (.int .i64 0)] h) : bwp P C window_Rows.I (Code.at window_Rows.B [1, 1, 1, 1, 1, 0, 0]) (window_Rows.q4 C Q) s h :=
  (by kernel_rfl : bwp P C window_Rows.I (Code.at window_Rows.B [1, 1, 1, 1, 1, 0, 0]) (window_Rows.q4 C Q) s h = (LoopR (window_Rows.l4 C N Q (s 3)) [(s 6), (s 7), (.int .i64 0)] h)).mpr hR
theorem window_Rows.L8 {C : CSem} (hC : CMono C) (Q : AVal → AHeap → Prop) (s : Slots) (h : AHeap) (hR : LoopR (window_Rows.l4 C N Q (s 3)) [(s 6), (s 7), (.int .i64 0)] h) : bwp P C window_Rows.I (Code.at window_Rows.B [1, 1, 1, 1, 1, 0]) (window_Rows.q1 C Q) s h :=
  seqB hC (by kernel_rfl : (Code.at window_Rows.B [1, 1, 1, 1, 1, 0]) = .seq (Code.at window_Rows.B [1, 1, 1, 1, 1, 0, 0]) (Code.at window_Rows.B [1, 1, 1, 1, 1, 0, 1])) (fun s h hR => window_Rows.L6 hC Q s h hR) (window_Rows.L7 hC Q s h hR)
theorem window_Rows.L9 {C : CSem} (hC : CMono C) (Q : AVal → AHeap → Prop) (s : Slots) (h : AHeap) (hR : LoopR (window_Rows.l4 C N Q (s 3)) [(s 6), (s 7), (.int .i64 0)] h) : bwp P C window_Rows.I (Code.at window_Rows.B [1, 1, 1, 1, 1]) (retB P window_Rows.I window_Rows.R Q) s h :=
  seqB hC (by kernel_rfl : (Code.at window_Rows.B [1, 1, 1, 1, 1]) = .seq (Code.at window_Rows.B [1, 1, 1, 1, 1, 0]) (Code.at window_Rows.B [1, 1, 1, 1, 1, 1])) (fun s h hR => window_Rows.L1 hC Q s h hR) (window_Rows.L8 hC Q s h hR)
noncomputable def window_Rows.q5 (C : CSem) (Q : AVal → AHeap → Prop) : Ex → Slots → AHeap → Prop := Ex.then (fun s h => LoopR (window_Rows.l4 C N Q (s 3)) [(s 6), (s 7), (.int .i64 0)] h) (retB P window_Rows.I window_Rows.R Q)
theorem window_Rows.L10 {C : CSem} (hC : CMono C) (Q : AVal → AHeap → Prop) (s : Slots) (h : AHeap) (hR : LoopR (window_Rows.l4 C N Q (s 3)) [(s 6), (.int .i64 0), (.int .i64 0)] h) : bwp P C window_Rows.I (Code.at window_Rows.B [1, 1, 1, 1, 0]) (window_Rows.q5 C Q) s h :=
  (by kernel_rfl : bwp P C window_Rows.I (Code.at window_Rows.B [1, 1, 1, 1, 0]) (window_Rows.q5 C Q) s h = (LoopR (window_Rows.l4 C N Q (s 3)) [(s 6), (.int .i64 0), (.int .i64 0)] h)).mpr hR
theorem window_Rows.L11 {C : CSem} (hC : CMono C) (Q : AVal → AHeap → Prop) (s : Slots) (h : AHeap) (hR : LoopR (window_Rows.l4 C N Q (s 3)) [(s 6), (.int .i64 0), (.int .i64 0)] h) : bwp P C window_Rows.I (Code.at window_Rows.B [1, 1, 1, 1]) (retB P window_Rows.I window_Rows.R Q) s h :=
  seqB hC (by kernel_rfl : (Code.at window_Rows.B [1, 1, 1, 1]) = .seq (Code.at window_Rows.B [1, 1, 1, 1, 0]) (Code.at window_Rows.B [1, 1, 1, 1, 1])) (fun s h hR => window_Rows.L9 hC Q s h hR) (window_Rows.L10 hC Q s h hR)
noncomputable def window_Rows.q6 (C : CSem) (Q : AVal → AHeap → Prop) : Ex → Slots → AHeap → Prop := Ex.then (fun s h => LoopR (window_Rows.l4 C N Q (s 3)) [(s 6), (.int .i64 0), (.int .i64 0)] h) (retB P window_Rows.I window_Rows.R Q)
theorem window_Rows.L12 {C : CSem} (hC : CMono C) (Q : AVal → AHeap → Prop) (s : Slots) (h : AHeap) (hR : LoopR (window_Rows.l4 C N Q (s 3)) [.nils, (.int .i64 0), (.int .i64 0)] h) : bwp P C window_Rows.I (Code.at window_Rows.B [1, 1, 1, 0]) (window_Rows.q6 C Q) s h :=
  (by kernel_rfl : bwp P C window_Rows.I (Code.at window_Rows.B [1, 1, 1, 0]) (window_Rows.q6 C Q) s h = (LoopR (window_Rows.l4 C N Q (s 3)) [.nils, (.int .i64 0), (.int .i64 0)] h)).mpr hR
theorem window_Rows.L13 {C : CSem} (hC : CMono C) (Q : AVal → AHeap → Prop) (s : Slots) (h : AHeap) (hR : LoopR (window_Rows.l4 C N Q (s 3)) [.nils, (.int .i64 0), (.int .i64 0)] h) : bwp P C window_Rows.I (Code.at window_Rows.B [1, 1, 1]) (retB P window_Rows.I window_Rows.R Q) s h :=
  seqB hC (by kernel_rfl : (Code.at window_Rows.B [1, 1, 1]) = .seq (Code.at window_Rows.B [1, 1, 1, 0]) (Code.at window_Rows.B [1, 1, 1, 1])) (fun s h hR => window_Rows.L11 hC Q s h hR) (window_Rows.L12 hC Q s h hR)
noncomputable def window_Rows.q7 (C : CSem) (Q : AVal → AHeap → Prop) : Ex → Slots → AHeap → Prop := Ex.then (fun s h => LoopR (window_Rows.l4 C N Q (s 3)) [.nils, (.int .i64 0), (.int .i64 0)] h) (retB P window_Rows.I window_Rows.R Q)
noncomputable def window_Rows.q8 (C : CSem) (Q : AVal → AHeap → Prop) : Ex → Slots → AHeap → Prop := Ex.inBlock 0 (window_Rows.q7 C Q)
noncomputable def window_Rows.q9 (C : CSem) (Q : AVal → AHeap → Prop) (Y2 : List AVal → AHeap → Prop) : Ex → Slots → AHeap → Prop := Ex.then (fun s h => Y2 [(s 12)] h) (window_Rows.q8 C Q)
theorem window_Rows.L15 {C : CSem} (hC : CMono C) (Q : AVal → AHeap → Prop) (Y2 : List AVal → AHeap → Prop) (s : Slots) (h : AHeap) (hR : window_Rows.k14 C N Q Y2 (s 3) (s 10) (s 11) (s 12) h) : bwp P C window_Rows.I (Code.at window_Rows.B [1, 1, 0, 1, 0, 0]) (window_Rows.q9 C Q Y2) s h :=
  (by kernel_rfl : bwp P C window_Rows.I (Code.at window_Rows.B [1, 1, 0, 1, 0, 0]) (window_Rows.q9 C Q Y2) s h = (window_Rows.k14 C N Q Y2 (s 3) (s 10) (s 11) (s 12) h)).mpr hR
theorem window_Rows.L17 {C : CSem} (hC : CMono C) (Q : AVal → AHeap → Prop) (s : Slots) (h : AHeap) (hR : LoopR (window_Rows.l16 C N Q (s 3) (s 10) (s 11)) [(s 12)] h) : bwp P C window_Rows.I (Code.at window_Rows.B [1, 1, 0, 1, 0]) (window_Rows.q8 C Q) s h :=
  loopB hC [3, 10, 11] [12] (G := (fun kv lv h Y2 => match kv with | [v3, v10, v11] => window_Rows.l16 C N Q v3 v10 v11 lv h Y2 | _ => False)) (by kernel_rfl : (Code.at window_Rows.B [1, 1, 0, 1, 0]) = .loop (Code.at window_Rows.B [1, 1, 0, 1, 0, 0])) (by kernel_rfl) (fun Y2 s h hR => window_Rows.L15 hC Q Y2 s h hR) hR
theorem window_Rows.L18 {C : CSem} (hC : CMono C) (Q : AVal → AHeap → Prop) (s : Slots) (h : AHeap) (hR : LoopR (window_Rows.l16 C N Q (s 3) (s 10) (s 11)) [(s 12)] h) : bwp P C window_Rows.I (Code.at window_Rows.B [1, 1, 0, 1]) (window_Rows.q7 C Q) s h :=
  blockB (by kernel_rfl : (Code.at window_Rows.B [1, 1, 0, 1]) = .block 0 (Code.at window_Rows.B [1, 1, 0, 1, 0])) (window_Rows.L17 hC Q s h hR)
noncomputable def window_Rows.q10 (C : CSem) (Q : AVal → AHeap → Prop) : Ex → Slots → AHeap → Prop := Ex.then (fun s h => LoopR (window_Rows.l16 C N Q (s 3) (s 10) (s 11)) [(s 12)] h) (window_Rows.q7 C Q)
theorem window_Rows.L19 {C : CSem} (hC : CMono C) (Q : AVal → AHeap → Prop) (s : Slots) (h : AHeap) (hR : B.pv (V.lenSl (s 0)) fun v11 =>
    LoopR (window_Rows.l16 C N Q (s 3) (s 0) v11) [(.int .i64 0)] h) : bwp P C window_Rows.I (Code.at window_Rows.B [1, 1, 0, 0]) (window_Rows.q10 C Q) s h :=
  (by kernel_rfl : bwp P C window_Rows.I (Code.at window_Rows.B [1, 1, 0, 0]) (window_Rows.q10 C Q) s h = (B.pv (V.lenSl (s 0)) fun v11 =>
    LoopR (window_Rows.l16 C N Q (s 3) (s 0) v11) [(.int .i64 0)] h)).mpr hR
theorem window_Rows.L20 {C : CSem} (hC : CMono C) (Q : AVal → AHeap → Prop) (s : Slots) (h : AHeap) (hR : B.pv (V.lenSl (s 0)) fun v11 =>
    LoopR (window_Rows.l16 C N Q (s 3) (s 0) v11) [(.int .i64 0)] h) : bwp P C window_Rows.I (Code.at window_Rows.B [1, 1, 0]) (window_Rows.q7 C Q) s h :=
  seqB hC (by kernel_rfl : (Code.at window_Rows.B [1, 1, 0]) = .seq (Code.at window_Rows.B [1, 1, 0, 0]) (Code.at window_Rows.B [1, 1, 0, 1])) (fun s h hR => window_Rows.L18 hC Q s h hR) (window_Rows.L19 hC Q s h hR)
theorem window_Rows.L21 {C : CSem} (hC : CMono C) (Q : AVal → AHeap → Prop) (s : Slots) (h : AHeap) (hR : B.pv (V.lenSl (s 0)) fun v11 =>
    LoopR (window_Rows.l16 C N Q (s 3) (s 0) v11) [(.int .i64 0)] h) : bwp P C window_Rows.I (Code.at window_Rows.B [1, 1]) (retB P window_Rows.I window_Rows.R Q) s h :=
  seqB hC (by kernel_rfl : (Code.at window_Rows.B [1, 1]) = .seq (Code.at window_Rows.B [1, 1, 0]) (Code.at window_Rows.B [1, 1, 1])) (fun s h hR => window_Rows.L13 hC Q s h hR) (window_Rows.L20 hC Q s h hR)
noncomputable def window_Rows.q11 (C : CSem) (Q : AVal → AHeap → Prop) : Ex → Slots → AHeap → Prop := Ex.then (fun s h => B.pv (V.lenSl (s 0)) fun v11 =>
    LoopR (window_Rows.l16 C N Q (s 3) (s 0) v11) [(.int .i64 0)] h) (retB P window_Rows.I window_Rows.R Q)
theorem window_Rows.L22 {C : CSem} (hC : CMono C) (Q : AVal → AHeap → Prop) (s : Slots) (h : AHeap) (hR : B.newO h (some (zrep 4002 (.int .i64 0))) fun i3 h =>
    B.pv (V.lenSl (s 0)) fun v11 =>
    LoopR (window_Rows.l16 C N Q (.ptr i3 0 0) (s 0) v11) [(.int .i64 0)] h) : bwp P C window_Rows.I (Code.at window_Rows.B [1, 0]) (window_Rows.q11 C Q) s h :=
  (by kernel_rfl : bwp P C window_Rows.I (Code.at window_Rows.B [1, 0]) (window_Rows.q11 C Q) s h = (B.newO h (some (zrep 4002 (.int .i64 0))) fun i3 h =>
    B.pv (V.lenSl (s 0)) fun v11 =>
    LoopR (window_Rows.l16 C N Q (.ptr i3 0 0) (s 0) v11) [(.int .i64 0)] h)).mpr hR
theorem window_Rows.L23 {C : CSem} (hC : CMono C) (Q : AVal → AHeap → Prop) (s : Slots) (h : AHeap) (hR : B.newO h (some (zrep 4002 (.int .i64 0))) fun i3 h =>
    B.pv (V.lenSl (s 0)) fun v11 =>
    LoopR (window_Rows.l16 C N Q (.ptr i3 0 0) (s 0) v11) [(.int .i64 0)] h) : bwp P C window_Rows.I (Code.at window_Rows.B [1]) (retB P window_Rows.I window_Rows.R Q) s h :=
  seqB hC (by kernel_rfl : (Code.at window_Rows.B [1]) = .seq (Code.at window_Rows.B [1, 0]) (Code.at window_Rows.B [1, 1])) (fun s h hR => window_Rows.L21 hC Q s h hR) (window_Rows.L22 hC Q s h hR)
noncomputable def window_Rows.q12 (C : CSem) (Q : AVal → AHeap → Prop) : Ex → Slots → AHeap → Prop := Ex.then (fun s h => B.newO h (some (zrep 4002 (.int .i64 0))) fun i3 h =>
    B.pv (V.lenSl (s 0)) fun v11 =>
    LoopR (window_Rows.l16 C N Q (.ptr i3 0 0) (s 0) v11) [(.int .i64 0)] h) (retB P window_Rows.I window_Rows.R Q)
theorem window_Rows.L24 {C : CSem} (hC : CMono C) (Q : AVal → AHeap → Prop) (s : Slots) (h : AHeap) (hR : B.newO h (some (zrep 4002 (.int .i64 0))) fun i3 h =>
    B.pv (V.lenSl (s 0)) fun v11 =>
    LoopR (window_Rows.l16 C N Q (.ptr i3 0 0) (s 0) v11) [(.int .i64 0)] h) : bwp P C window_Rows.I (Code.at window_Rows.B [0]) (window_Rows.q12 C Q) s h :=
  (by kernel_rfl : bwp P C window_Rows.I (Code.at window_Rows.B [0]) (window_Rows.q12 C Q) s h = (B.newO h (some (zrep 4002 (.int .i64 0))) fun i3 h =>
    B.pv (V.lenSl (s 0)) fun v11 =>
    LoopR (window_Rows.l16 C N Q (.ptr i3 0 0) (s 0) v11) [(.int .i64 0)] h)).mpr hR
theorem window_Rows.L25 {C : CSem} (hC : CMono C) (Q : AVal → AHeap → Prop) (s : Slots) (h : AHeap) (hR : B.newO h (some (zrep 4002 (.int .i64 0))) fun i3 h =>
    B.pv (V.lenSl (s 0)) fun v11 =>
    LoopR (window_Rows.l16 C N Q (.ptr i3 0 0) (s 0) v11) [(.int .i64 0)] h) : bwp P C window_Rows.I (Code.at window_Rows.B []) (retB P window_Rows.I window_Rows.R Q) s h :=
  seqB hC (by kernel_rfl : (Code.at window_Rows.B []) = .seq (Code.at window_Rows.B [0]) (Code.at window_Rows.B [1])) (fun s h hR => window_Rows.L23 hC Q s h hR) (window_Rows.L24 hC Q s h hR)
theorem window_Rows.ok {v0 : AVal} {h : AHeap} {Q : AVal → AHeap → Prop} (hR : window_Rows.cps (AC P) N v0 h Q) : AC P (N 10) [v0] h Q :=
  AC_introB mixed (fn := Try.f18) (c := window_Rows.B) (by kernel_rfl) (by kernel_rfl) (callFunc_enter (fn := Try.f18) (by kernel_rfl) (by kernel_rfl) (by kernel_rfl)) (by kernel_rfl) (Nat.le_of_ble_eq_true (by kernel_rfl)) (Nat.le_of_ble_eq_true (by kernel_rfl)) (by kernel_rfl) (window_Rows.L25 (AC_cmono P) Q (startS [v0]) h hR)
theorem window_Rows.imp : window_Rows.Imp (AC P) N := fun _ _ _ hR => AC_drop (window_Rows.ok hR)

def ref01_Rows.I : Bx := ⟨[], [], 38, []⟩
noncomputable def ref01_Rows.B : Code := Try.f19.body.getD .skip
noncomputable def ref01_Rows.R : List ResultVar := Try.f19.results.toList
theorem ref01_Rows.L1 {C : CSem} (hC : CMono C) (Q : AVal → AHeap → Prop) (s : Slots) (h : AHeap) (hR : B.call C (N 19) [(s 3)] h fun v37 h =>
    Q v37 h) : bwp P C ref01_Rows.I (Code.at ref01_Rows.B [1, 1, 1]) (retB P ref01_Rows.I ref01_Rows.R Q) s h :=
  (by kernel_rfl : bwp P C ref01_Rows.I (Code.at ref01_Rows.B [1, 1, 1]) (retB P ref01_Rows.I ref01_Rows.R Q) s h = (B.call C (N 19) [(s 3)] h fun v37 h =>
    Q v37 h)).mpr hR
noncomputable def ref01_Rows.q1 (C : CSem) (Q : AVal → AHeap → Prop) : Ex → Slots → AHeap → Prop := Ex.then (fun s h => B.call C (N 19) [(s 3)] h fun v37 h =>
    Q v37 h) (retB P ref01_Rows.I ref01_Rows.R Q)
noncomputable def ref01_Rows.q2 (C : CSem) (Q : AVal → AHeap → Prop) : Ex → Slots → AHeap → Prop := Ex.inBlock 0 (ref01_Rows.q1 C Q)
noncomputable def ref01_Rows.q3 (C : CSem) (Q : AVal → AHeap → Prop) (Y1 : List AVal → AHeap → Prop) : Ex → Slots → AHeap → Prop := Ex.then (fun s h => Y1 [(s 4)] h) (ref01_Rows.q2 C Q)
theorem ref01_Rows.L2 {C : CSem} (hC : CMono C) (Q : AVal → AHeap → Prop) (Y1 : List AVal → AHeap → Prop) (s : Slots) (h : AHeap) (hR : B.pv (V.bin .add (s 4) (.int .i64 1)) fun v12 =>
    Y1 [v12] h) : bwp P C ref01_Rows.I (Code.at ref01_Rows.B [1, 1, 0, 1, 0, 0, 1, 1]) (ref01_Rows.q3 C Q Y1) s h :=
  (by kernel_rfl : bwp P C ref01_Rows.I (Code.at ref01_Rows.B [1, 1, 0, 1, 0, 0, 1, 1]) (ref01_Rows.q3 C Q Y1) s h = (B.pv (V.bin .add (s 4) (.int .i64 1)) fun v12 =>
    Y1 [v12] h)).mpr hR
noncomputable def ref01_Rows.q4 (C : CSem) (Q : AVal → AHeap → Prop) (Y1 : List AVal → AHeap → Prop) : Ex → Slots → AHeap → Prop := Ex.then (fun s h => B.pv (V.bin .add (s 4) (.int .i64 1)) fun v12 =>
    Y1 [v12] h) (ref01_Rows.q3 C Q Y1)
noncomputable def ref01_Rows.q5 (C : CSem) (Q : AVal → AHeap → Prop) (Y1 : List AVal → AHeap → Prop) : Ex → Slots → AHeap → Prop := Ex.inBlock 1 (ref01_Rows.q4 C Q Y1)
noncomputable def ref01_Rows.q6 (C : CSem) (Q : AVal → AHeap → Prop) (Y1 : List AVal → AHeap → Prop) : Ex → Slots → AHeap → Prop := Ex.inBlock 2 (ref01_Rows.q5 C Q Y1)
noncomputable def ref01_Rows.q7 (C : CSem) (Q : AVal → AHeap → Prop) (Y1 : List AVal → AHeap → Prop) (Y2 : List AVal → AHeap → Prop) : Ex → Slots → AHeap → Prop := Ex.then (fun s h => Y2 [(s 5)] h) (ref01_Rows.q6 C Q Y1)
theorem ref01_Rows.L4 {C : CSem} (hC : CMono C) (Q : AVal → AHeap → Prop) (Y1 : List AVal → AHeap → Prop) (Y2 : List AVal → AHeap → Prop) (s : Slots) (h : AHeap) (hR : ref01_Rows.k3 C N Q Y1 Y2 (s 0) (s 3) (s 4) (s 5) h) : bwp P C ref01_Rows.I (Code.at ref01_Rows.B [1, 1, 0, 1, 0, 0, 1, 0, 0, 1, 1, 0, 0]) (ref01_Rows.q7 C Q Y1 Y2) s h :=
  (by kernel_rfl : bwp P C ref01_Rows.I (Code.at ref01_Rows.B [1, 1, 0, 1, 0, 0, 1, 0, 0, 1, 1, 0, 0]) (ref01_Rows.q7 C Q Y1 Y2) s h = (ref01_Rows.k3 C N Q Y1 Y2 (s 0) (s 3) (s 4) (s 5) h)).mpr hR
theorem ref01_Rows.L6 {C : CSem} (hC : CMono C) (Q : AVal → AHeap → Prop) (Y1 : List AVal → AHeap → Prop) (s : Slots) (h : AHeap) (hR : LoopR (ref01_Rows.l5 C N Q Y1 (s 0) (s 3) (s 4)) [(s 5)] h) : bwp P C ref01_Rows.I (Code.at ref01_Rows.B [1, 1, 0, 1, 0, 0, 1, 0, 0, 1, 1, 0]) (ref01_Rows.q6 C Q Y1) s h :=
  loopB hC [0, 3, 4] [5] (G := (fun kv lv h Y2 => match kv with | [v0, v3, v4] => ref01_Rows.l5 C N Q Y1 v0 v3 v4 lv h Y2 | _ => False)) (by kernel_rfl : (Code.at ref01_Rows.B [1, 1, 0, 1, 0, 0, 1, 0, 0, 1, 1, 0]) = .loop (Code.at ref01_Rows.B [1, 1, 0, 1, 0, 0, 1, 0, 0, 1, 1, 0, 0])) (by kernel_rfl) (fun Y2 s h hR => ref01_Rows.L4 hC Q Y1 Y2 s h hR) hR
theorem ref01_Rows.L7 {C : CSem} (hC : CMono C) (Q : AVal → AHeap → Prop) (Y1 : List AVal → AHeap → Prop) (s : Slots) (h : AHeap) (hR : LoopR (ref01_Rows.l5 C N Q Y1 (s 0) (s 3) (s 4)) [(s 5)] h) : bwp P C ref01_Rows.I (Code.at ref01_Rows.B [1, 1, 0, 1, 0, 0, 1, 0, 0, 1, 1]) (ref01_Rows.q5 C Q Y1) s h :=
  blockB (by kernel_rfl : (Code.at ref01_Rows.B [1, 1, 0, 1, 0, 0, 1, 0, 0, 1, 1]) = .block 2 (Code.at ref01_Rows.B [1, 1, 0, 1, 0, 0, 1, 0, 0, 1, 1, 0])) (ref01_Rows.L6 hC Q Y1 s h hR)
noncomputable def ref01_Rows.q8 (C : CSem) (Q : AVal → AHeap → Prop) (Y1 : List AVal → AHeap → Prop) : Ex → Slots → AHeap → Prop := Ex.then (fun s h => LoopR (ref01_Rows.l5 C N Q Y1 (s 0) (s 3) (s 4)) [(s 5)] h) (ref01_Rows.q5 C Q Y1)
theorem ref01_Rows.L8 {C : CSem} (hC : CMono C) (Q : AVal → AHeap → Prop) (Y1 : List AVal → AHeap → Prop) (s : Slots) (h : AHeap) (hR : B.pv (V.idxS 2 (s 0) (s 4)) fun v21 =>
    B.pv (V.fieldAddr 0 v21) fun v22 =>
    B.ld h v22 fun v23 =>
    LoopR (ref01_Rows.l5 C N Q Y1 (s 0) (s 3) (s 4)) [v23] h) : bwp P C ref01_Rows.I (Code.at ref01_Rows.B [1, 1, 0, 1, 0, 0, 1, 0, 0, 1, 0]) (ref01_Rows.q8 C Q Y1) s h :=
  (by kernel_rfl : bwp P C ref01_Rows.I (Code.at ref01_Rows.B [1, 1, 0, 1, 0, 0, 1, 0, 0, 1, 0]) (ref01_Rows.q8 C Q Y1) s h = (B.pv (V.idxS 2 (s 0) (s 4)) fun v21 =>
    B.pv (V.fieldAddr 0 v21) fun v22 =>
    B.ld h v22 fun v23 =>
    LoopR (ref01_Rows.l5 C N Q Y1 (s 0) (s 3) (s 4)) [v23] h)).mpr hR
theorem ref01_Rows.L9 {C : CSem} (hC : CMono C) (Q : AVal → AHeap → Prop) (Y1 : List AVal → AHeap → Prop) (s : Slots) (h : AHeap) (hR : B.pv (V.idxS 2 (s 0) (s 4)) fun v21 =>
    B.pv (V.fieldAddr 0 v21) fun v22 =>
    B.ld h v22 fun v23 =>
    LoopR (ref01_Rows.l5 C N Q Y1 (s 0) (s 3) (s 4)) [v23] h) : bwp P C ref01_Rows.I (Code.at ref01_Rows.B [1, 1, 0, 1, 0, 0, 1, 0, 0, 1]) (ref01_Rows.q5 C Q Y1) s h :=
  seqB hC (by kernel_rfl : (Code.at ref01_Rows.B [1, 1, 0, 1, 0, 0, 1, 0, 0, 1]) = .seq (Code.at ref01_Rows.B [1, 1, 0, 1, 0, 0, 1, 0, 0, 1, 0]) (Code.at ref01_Rows.B [1, 1, 0, 1, 0, 0, 1, 0, 0, 1, 1])) (fun s h hR => ref01_Rows.L7 hC Q Y1 s h hR) (ref01_Rows.L8 hC Q Y1 s h hR)
noncomputable def ref01_Rows.q9 (C : CSem) (Q : AVal → AHeap → Prop) (Y1 : List AVal → AHeap → Prop) : Ex → Slots → AHeap → Prop := Ex.then (fun s h => B.pv (V.idxS 2 (s 0) (s 4)) fun v21 =>
    B.pv (V.fieldAddr 0 v21) fun v22 =>
    B.ld h v22 fun v23 =>
    LoopR (ref01_Rows.l5 C N Q Y1 (s 0) (s 3) (s 4)) [v23] h) (ref01_Rows.q5 C Q Y1)
theorem ref01_Rows.L11 {C : CSem} (hC : CMono C) (Q : AVal → AHeap → Prop) (Y1 : List AVal → AHeap → Prop) (s : Slots) (h : AHeap) (hR : ref01_Rows.k10 C N Q Y1 (s 0) (s 3) (s 4) h) : bwp P C ref01_Rows.I (Code.at ref01_Rows.B [1, 1, 0, 1, 0, 0, 1, 0, 0, 0]) (ref01_Rows.q9 C Q Y1) s h :=
  (by kernel_rfl : bwp P C ref01_Rows.I (Code.at ref01_Rows.B [1, 1, 0, 1, 0, 0, 1, 0, 0, 0]) (ref01_Rows.q9 C Q Y1) s h = (ref01_Rows.k10 C N Q Y1 (s 0) (s 3) (s 4) h)).mpr hR
theorem ref01_Rows.L12 {C : CSem} (hC : CMono C) (Q : AVal → AHeap → Prop) (Y1 : List AVal → AHeap → Prop) (s : Slots) (h : AHeap) (hR : ref01_Rows.k10 C N Q Y1 (s 0) (s 3) (s 4) h) : bwp P C ref01_Rows.I (Code.at ref01_Rows.B [1, 1, 0, 1, 0, 0, 1, 0, 0]) (ref01_Rows.q5 C Q Y1) s h :=
  seqB hC (by kernel_rfl : (Code.at ref01_Rows.B [1, 1, 0, 1, 0, 0, 1, 0, 0]) = .seq (Code.at ref01_Rows.B [1, 1, 0, 1, 0, 0, 1, 0, 0, 0]) (Code.at ref01_Rows.B [1, 1, 0, 1, 0, 0, 1, 0, 0, 1])) (fun s h hR => ref01_Rows.L9 hC Q Y1 s h hR) (ref01_Rows.L11 hC Q Y1 s h hR)
theorem ref01_Rows.L13 {C : CSem} (hC : CMono C) (Q : AVal → AHeap → Prop) (Y1 : List AVal → AHeap → Prop) (s : Slots) (h : AHeap) (hR : ref01_Rows.k10 C N Q Y1 (s 0) (s 3) (s 4) h) : bwp P C ref01_Rows.I (Code.at ref01_Rows.B [1, 1, 0, 1, 0, 0, 1, 0]) (ref01_Rows.q4 C Q Y1) s h :=
  blockB (by kernel_rfl : (Code.at ref01_Rows.B [1, 1, 0, 1, 0, 0, 1, 0]) = .block 1 (Code.at ref01_Rows.B [1, 1, 0, 1, 0, 0, 1, 0, 0])) (ref01_Rows.L12 hC Q Y1 s h hR)
theorem ref01_Rows.L14 {C : CSem} (hC : CMono C) (Q : AVal → AHeap → Prop) (Y1 : List AVal → AHeap → Prop) (s : Slots) (h : AHeap) (hR : ref01_Rows.k10 C N Q Y1 (s 0) (s 3) (s 4) h) : bwp P C ref01_Rows.I (Code.at ref01_Rows.B [1, 1, 0, 1, 0, 0, 1]) (ref01_Rows.q3 C Q Y1) s h :=
  seqB hC (by kernel_rfl : (Code.at ref01_Rows.B [1, 1, 0, 1, 0, 0, 1]) = .seq (Code.at ref01_Rows.B [1, 1, 0, 1, 0, 0, 1, 0]) (Code.at ref01_Rows.B [1, 1, 0, 1, 0, 0, 1, 1])) (fun s h hR => ref01_Rows.L2 hC Q Y1 s h hR) (ref01_Rows.L13 hC Q Y1 s h hR)
noncomputable def ref01_Rows.q10 (C : CSem) (Q : AVal → AHeap → Prop) (Y1 : List AVal → AHeap → Prop) : Ex → Slots → AHeap → Prop := Ex.then (fun s h => ref01_Rows.k10 C N Q Y1 (s 0) (s 3) (s 4) h) (ref01_Rows.q3 C Q Y1)
theorem ref01_Rows.L16 {C : CSem} (hC : CMono C) (Q : AVal → AHeap → Prop) (Y1 : List AVal → AHeap → Prop) (s : Slots) (h : AHeap) (hR : ref01_Rows.k15 C N Q Y1 (s 0) (s 3) (s 4) h) : bwp P C ref01_Rows.I (Code.at ref01_Rows.B [1, 1, 0, 1, 0, 0, 0]) (ref01_Rows.q10 C Q Y1) s h :=
  (by kernel_rfl : bwp P C ref01_Rows.I (Code.at ref01_Rows.B [1, 1, 0, 1, 0, 0, 0]) (ref01_Rows.q10 C Q Y1) s h = (ref01_Rows.k15 C N Q Y1 (s 0) (s 3) (s 4) h)).mpr hR
theorem ref01_Rows.L17 {C : CSem} (hC : CMono C) (Q : AVal → AHeap → Prop) (Y1 : List AVal → AHeap → Prop) (s : Slots) (h : AHeap) (hR : ref01_Rows.k15 C N Q Y1 (s 0) (s 3) (s 4) h) : bwp P C ref01_Rows.I (Code.at ref01_Rows.B [1, 1, 0, 1, 0, 0]) (ref01_Rows.q3 C Q Y1) s h :=
  seqB hC (by kernel_rfl : (Code.at ref01_Rows.B [1, 1, 0, 1, 0, 0]) = .seq (Code.at ref01_Rows.B [1, 1, 0, 1, 0, 0, 0]) (Code.at ref01_Rows.B [1, 1, 0, 1, 0, 0, 1])) (fun s h hR => ref01_Rows.L14 hC Q Y1 s h hR) (ref01_Rows.L16 hC Q Y1 s h hR)
theorem ref01_Rows.L19 {C : CSem} (hC : CMono C) (Q : AVal → AHeap → Prop) (s : Slots) (h : AHeap) (hR : LoopR (ref01_Rows.l18 C N Q (s 0) (s 3)) [(s 4)] h) : bwp P C ref01_Rows.I (Code.at ref01_Rows.B [1, 1, 0, 1, 0]) (ref01_Rows.q2 C Q) s h :=
  loopB hC [0, 3] [4] (G := (fun kv lv h Y1 => match kv with | [v0, v3] => ref01_Rows.l18 C N Q v0 v3 lv h Y1 | _ => False)) (by kernel_rfl : (Code.at ref01_Rows.B [1, 1, 0, 1, 0]) = .loop (Code.at ref01_Rows.B [1, 1, 0, 1, 0, 0])) (by kernel_rfl) (fun Y1 s h hR => ref01_Rows.L17 hC Q Y1 s h hR) hR
theorem ref01_Rows.L20 {C : CSem} (hC : CMono C) (Q : AVal → AHeap → Prop) (s : Slots) (h : AHeap) (hR : LoopR (ref01_Rows.l18 C N Q (s 0) (s 3)) [(s 4)] h) : bwp P C ref01_Rows.I (Code.at ref01_Rows.B [1, 1, 0, 1]) (ref01_Rows.q1 C Q) s h :=
  blockB (by kernel_rfl : (Code.at ref01_Rows.B [1, 1, 0, 1]) = .block 0 (Code.at ref01_Rows.B [1, 1, 0, 1, 0])) (ref01_Rows.L19 hC Q s h hR)
noncomputable def ref01_Rows.q11 (C : CSem) (Q : AVal → AHeap → Prop) : Ex → Slots → AHeap → Prop := Ex.then (fun s h => LoopR (ref01_Rows.l18 C N Q (s 0) (s 3)) [(s 4)] h) (ref01_Rows.q1 C Q)
theorem ref01_Rows.L21 {C : CSem} (hC : CMono C) (Q : AVal → AHeap → Prop) (s : Slots) (h : AHeap) (hR : LoopR (ref01_Rows.l18 C N Q (s 0) (s 3)) [(.int .i64 0)] h) : bwp P C ref01_Rows.I (Code.at ref01_Rows.B [1, 1, 0, 0]) (ref01_Rows.q11 C Q) s h :=
  (by kernel_rfl : bwp P C ref01_Rows.I (Code.at ref01_Rows.B [1, 1, 0, 0]) (ref01_Rows.q11 C Q) s h = (LoopR (ref01_Rows.l18 C N Q (s 0) (s 3)) [(.int .i64 0)] h)).mpr hR
theorem ref01_Rows.L22 {C : CSem} (hC : CMono C) (Q : AVal → AHeap → Prop) (s : Slots) (h : AHeap) (hR : LoopR (ref01_Rows.l18 C N Q (s 0) (s 3)) [(.int .i64 0)] h) : bwp P C ref01_Rows.I (Code.at ref01_Rows.B [1, 1, 0]) (ref01_Rows.q1 C Q) s h :=
  seqB hC (by kernel_rfl : (Code.at ref01_Rows.B [1, 1, 0]) = .seq (Code.at ref01_Rows.B [1, 1, 0, 0]) (Code.at ref01_Rows.B [1, 1, 0, 1])) (fun s h hR => ref01_Rows.L20 hC Q s h hR) (ref01_Rows.L21 hC Q s h hR)
theorem ref01_Rows.L23 {C : CSem} (hC : CMono C) (Q : AVal → AHeap → Prop) (s : Slots) (h : AHeap) (hR : LoopR (ref01_Rows.l18 C N Q (s 0) (s 3)) [(.int .i64 0)] h) : bwp P C ref01_Rows.I (Code.at ref01_Rows.B [1, 1]) (retB P ref01_Rows.I ref01_Rows.R Q) s h :=
  seqB hC (by kernel_rfl : (Code.at ref01_Rows.B [1, 1]) = .seq (Code.at ref01_Rows.B [1, 1, 0]) (Code.at ref01_Rows.B [1, 1, 1])) (fun s h hR => ref01_Rows.L1 hC Q s h hR) (ref01_Rows.L22 hC Q s h hR)
noncomputable def ref01_Rows.q12 (C : CSem) (Q : AVal → AHeap → Prop) : Ex → Slots → AHeap → Prop := Ex.then (fun s h => LoopR (ref01_Rows.l18 C N Q (s 0) (s 3)) [(.int .i64 0)] h) (retB P ref01_Rows.I ref01_Rows.R Q)
theorem ref01_Rows.L24 {C : CSem} (hC : CMono C) (Q : AVal → AHeap → Prop) (s : Slots) (h : AHeap) (hR : 0 < 1 ∧ B.mks h 1 (some [.bool false]) (.int .i64 4001) (.int .i64 4001) fun v6 h =>
    LoopR (ref01_Rows.l18 C N Q (s 0) v6) [(.int .i64 0)] h) : bwp P C ref01_Rows.I (Code.at ref01_Rows.B [1, 0]) (ref01_Rows.q12 C Q) s h :=
  (by kernel_rfl : bwp P C ref01_Rows.I (Code.at ref01_Rows.B [1, 0]) (ref01_Rows.q12 C Q) s h = (0 < 1 ∧ B.mks h 1 (some [.bool false]) (.int .i64 4001) (.int .i64 4001) fun v6 h =>
    LoopR (ref01_Rows.l18 C N Q (s 0) v6) [(.int .i64 0)] h)).mpr hR
theorem ref01_Rows.L25 {C : CSem} (hC : CMono C) (Q : AVal → AHeap → Prop) (s : Slots) (h : AHeap) (hR : 0 < 1 ∧ B.mks h 1 (some [.bool false]) (.int .i64 4001) (.int .i64 4001) fun v6 h =>
    LoopR (ref01_Rows.l18 C N Q (s 0) v6) [(.int .i64 0)] h) : bwp P C ref01_Rows.I (Code.at ref01_Rows.B [1]) (retB P ref01_Rows.I ref01_Rows.R Q) s h :=
  seqB hC (by kernel_rfl : (Code.at ref01_Rows.B [1]) = .seq (Code.at ref01_Rows.B [1, 0]) (Code.at ref01_Rows.B [1, 1])) (fun s h hR => ref01_Rows.L23 hC Q s h hR) (ref01_Rows.L24 hC Q s h hR)
noncomputable def ref01_Rows.q13 (C : CSem) (Q : AVal → AHeap → Prop) : Ex → Slots → AHeap → Prop := Ex.then (fun s h => 0 < 1 ∧ B.mks h 1 (some [.bool false]) (.int .i64 4001) (.int .i64 4001) fun v6 h =>
    LoopR (ref01_Rows.l18 C N Q (s 0) v6) [(.int .i64 0)] h) (retB P ref01_Rows.I ref01_Rows.R Q)
theorem ref01_Rows.L26 {C : CSem} (hC : CMono C) (Q : AVal → AHeap → Prop) (s : Slots) (h : AHeap) (hR : 0 < 1 ∧ B.mks h 1 (some [.bool false]) (.int .i64 4001) (.int .i64 4001) fun v6 h =>
    LoopR (ref01_Rows.l18 C N Q (s 0) v6) [(.int .i64 0)] h) : bwp P C ref01_Rows.I (Code.at ref01_Rows.B [0]) (ref01_Rows.q13 C Q) s h :=
  (by kernel_rfl : bwp P C ref01_Rows.I (Code.at ref01_Rows.B [0]) (ref01_Rows.q13 C Q) s h = (0 < 1 ∧ B.mks h 1 (some [.bool false]) (.int .i64 4001) (.int .i64 4001) fun v6 h =>
    LoopR (ref01_Rows.l18 C N Q (s 0) v6) [(.int .i64 0)] h)).mpr hR
theorem ref01_Rows.L27 {C : CSem} (hC : CMono C) (Q : AVal → AHeap → Prop) (s : Slots) (h : AHeap) (hR : 0 < 1 ∧ B.mks h 1 (some [.bool false]) (.int .i64 4001) (.int .i64 4001) fun v6 h =>
    LoopR (ref01_Rows.l18 C N Q (s 0) v6) [(.int .i64 0)] h) : bwp P C ref01_Rows.I (Code.at ref01_Rows.B []) (retB P ref01_Rows.I ref01_Rows.R Q) s h :=
  seqB hC (by kernel_rfl : (Code.at ref01_Rows.B []) = .seq (Code.at ref01_Rows.B [0]) (Code.at ref01_Rows.B [1])) (fun s h hR => ref01_Rows.L25 hC Q s h hR) (ref01_Rows.L26 hC Q s h hR)
theorem ref01_Rows.ok {v0 : AVal} {h : AHeap} {Q : AVal → AHeap → Prop} (hR : ref01_Rows.cps (AC P) N v0 h Q) : AC P (N 11) [v0] h Q :=
  AC_introB mixed (fn := Try.f19) (c := ref01_Rows.B) (by kernel_rfl) (by kernel_rfl) (callFunc_enter (fn := Try.f19) (by kernel_rfl) (by kernel_rfl) (by kernel_rfl)) (by kernel_rfl) (Nat.le_of_ble_eq_true (by kernel_rfl)) (Nat.le_of_ble_eq_true (by kernel_rfl)) (by kernel_rfl) (ref01_Rows.L27 (AC_cmono P) Q (startS [v0]) h hR)
theorem ref01_Rows.imp : ref01_Rows.Imp (AC P) N := fun _ _ _ hR => AC_drop (ref01_Rows.ok hR)

def window_Count.I : Bx := ⟨[5], [14, 16], 22, []⟩
noncomputable def window_Count.B : Code := Try.f20.body.getD .skip
noncomputable def window_Count.R : List ResultVar := Try.f20.results.toList
theorem window_Count.L1 {C : CSem} (hC : CMono C) (Q : AVal → AHeap → Prop) (s : Slots) (h : AHeap) (hR : Q (s 3) h) : bwp P C window_Count.I (Code.at window_Count.B [1, 1, 1]) (retB P window_Count.I window_Count.R Q) s h :=
  (by kernel_rfl : bwp P C window_Count.I (Code.at window_Count.B [1, 1, 1]) (retB P window_Count.I window_Count.R Q) s h = (Q (s 3) h)).mpr hR
noncomputable def window_Count.q1 (C : CSem) (Q : AVal → AHeap → Prop) : Ex → Slots → AHeap → Prop := Ex.then (fun s h => Q (s 3) h) (retB P window_Count.I window_Count.R Q)
noncomputable def window_Count.q2 (C : CSem) (Q : AVal → AHeap → Prop) : Ex → Slots → AHeap → Prop := Ex.inBlock 0 (window_Count.q1 C Q)
noncomputable def window_Count.q3 (C : CSem) (Q : AVal → AHeap → Prop) (Y1 : List AVal → AHeap → Prop) : Ex → Slots → AHeap → Prop := Ex.then (fun s h => Y1 [(s 3), (s 9)] h) (window_Count.q2 C Q)
theorem window_Count.L3 {C : CSem} (hC : CMono C) (Q : AVal → AHeap → Prop) (Y1 : List AVal → AHeap → Prop) (s : Slots) (h : AHeap) (hR : window_Count.k2 C N Q Y1 (s 3) (s 7) (s 8) (s 9) h) : bwp P C window_Count.I (Code.at window_Count.B [1, 1, 0, 1, 0, 0]) (window_Count.q3 C Q Y1) s h :=
  (by kernel_rfl : bwp P C window_Count.I (Code.at window_Count.B [1, 1, 0, 1, 0, 0]) (window_Count.q3 C Q Y1) s h = (window_Count.k2 C N Q Y1 (s 3) (s 7) (s 8) (s 9) h)).mpr hR
theorem window_Count.L5 {C : CSem} (hC : CMono C) (Q : AVal → AHeap → Prop) (s : Slots) (h : AHeap) (hR : LoopR (window_Count.l4 C N Q (s 7) (s 8)) [(s 3), (s 9)] h) : bwp P C window_Count.I (Code.at window_Count.B [1, 1, 0, 1, 0]) (window_Count.q2 C Q) s h :=
  loopB hC [7, 8] [3, 9] (G := (fun kv lv h Y1 => match kv with | [v7, v8] => window_Count.l4 C N Q v7 v8 lv h Y1 | _ => False)) (by kernel_rfl : (Code.at window_Count.B [1, 1, 0, 1, 0]) = .loop (Code.at window_Count.B [1, 1, 0, 1, 0, 0])) (by kernel_rfl) (fun Y1 s h hR => window_Count.L3 hC Q Y1 s h hR) hR
theorem window_Count.L6 {C : CSem} (hC : CMono C) (Q : AVal → AHeap → Prop) (s : Slots) (h : AHeap) (hR : LoopR (window_Count.l4 C N Q (s 7) (s 8)) [(s 3), (s 9)] h) : bwp P C window_Count.I (Code.at window_Count.B [1, 1, 0, 1]) (window_Count.q1 C Q) s h :=
  blockB (by kernel_rfl : (Code.at window_Count.B [1, 1, 0, 1]) = .block 0 (Code.at window_Count.B [1, 1, 0, 1, 0])) (window_Count.L5 hC Q s h hR)
noncomputable def window_Count.q4 (C : CSem) (Q : AVal → AHeap → Prop) : Ex → Slots → AHeap → Prop := Ex.then (fun s h => LoopR (window_Count.l4 C N Q (s 7) (s 8)) [(s 3), (s 9)] h) (window_Count.q1 C Q)
theorem window_Count.L7 {C : CSem} (hC : CMono C) (Q : AVal → AHeap → Prop) (s : Slots) (h : AHeap) (hR : B.call C (N 10) [(s 0)] h fun v7 h =>
    B.pv (V.lenSl v7) fun v8 =>
    LoopR (window_Count.l4 C N Q v7 v8) [(s 3), (.int .i64 0)] h) : bwp P C window_Count.I (Code.at window_Count.B [1, 1, 0, 0]) (window_Count.q4 C Q) s h :=
  (by kernel_rfl : bwp P C window_Count.I (Code.at window_Count.B [1, 1, 0, 0]) (window_Count.q4 C Q) s h = (B.call C (N 10) [(s 0)] h fun v7 h =>
    B.pv (V.lenSl v7) fun v8 =>
    LoopR (window_Count.l4 C N Q v7 v8) [(s 3), (.int .i64 0)] h)).mpr hR
theorem window_Count.L8 {C : CSem} (hC : CMono C) (Q : AVal → AHeap → Prop) (s : Slots) (h : AHeap) (hR : B.call C (N 10) [(s 0)] h fun v7 h =>
    B.pv (V.lenSl v7) fun v8 =>
    LoopR (window_Count.l4 C N Q v7 v8) [(s 3), (.int .i64 0)] h) : bwp P C window_Count.I (Code.at window_Count.B [1, 1, 0]) (window_Count.q1 C Q) s h :=
  seqB hC (by kernel_rfl : (Code.at window_Count.B [1, 1, 0]) = .seq (Code.at window_Count.B [1, 1, 0, 0]) (Code.at window_Count.B [1, 1, 0, 1])) (fun s h hR => window_Count.L6 hC Q s h hR) (window_Count.L7 hC Q s h hR)
theorem window_Count.L9 {C : CSem} (hC : CMono C) (Q : AVal → AHeap → Prop) (s : Slots) (h : AHeap) (hR : B.call C (N 10) [(s 0)] h fun v7 h =>
    B.pv (V.lenSl v7) fun v8 =>
    LoopR (window_Count.l4 C N Q v7 v8) [(s 3), (.int .i64 0)] h) : bwp P C window_Count.I (Code.at window_Count.B [1, 1]) (retB P window_Count.I window_Count.R Q) s h :=
  seqB hC (by kernel_rfl : (Code.at window_Count.B [1, 1]) = .seq (Code.at window_Count.B [1, 1, 0]) (Code.at window_Count.B [1, 1, 1])) (fun s h hR => window_Count.L1 hC Q s h hR) (window_Count.L8 hC Q s h hR)
noncomputable def window_Count.q5 (C : CSem) (Q : AVal → AHeap → Prop) : Ex → Slots → AHeap → Prop := Ex.then (fun s h => B.call C (N 10) [(s 0)] h fun v7 h =>
    B.pv (V.lenSl v7) fun v8 =>
    LoopR (window_Count.l4 C N Q v7 v8) [(s 3), (.int .i64 0)] h) (retB P window_Count.I window_Count.R Q)
theorem window_Count.L10 {C : CSem} (hC : CMono C) (Q : AVal → AHeap → Prop) (s : Slots) (h : AHeap) (hR : B.call C (N 10) [(s 0)] h fun v7 h =>
    B.pv (V.lenSl v7) fun v8 =>
    LoopR (window_Count.l4 C N Q v7 v8) [(.int .i64 0), (.int .i64 0)] h) : bwp P C window_Count.I (Code.at window_Count.B [1, 0]) (window_Count.q5 C Q) s h :=
  (by kernel_rfl : bwp P C window_Count.I (Code.at window_Count.B [1, 0]) (window_Count.q5 C Q) s h = (B.call C (N 10) [(s 0)] h fun v7 h =>
    B.pv (V.lenSl v7) fun v8 =>
    LoopR (window_Count.l4 C N Q v7 v8) [(.int .i64 0), (.int .i64 0)] h)).mpr hR
theorem window_Count.L11 {C : CSem} (hC : CMono C) (Q : AVal → AHeap → Prop) (s : Slots) (h : AHeap) (hR : B.call C (N 10) [(s 0)] h fun v7 h =>
    B.pv (V.lenSl v7) fun v8 =>
    LoopR (window_Count.l4 C N Q v7 v8) [(.int .i64 0), (.int .i64 0)] h) : bwp P C window_Count.I (Code.at window_Count.B [1]) (retB P window_Count.I window_Count.R Q) s h :=
  seqB hC (by kernel_rfl : (Code.at window_Count.B [1]) = .seq (Code.at window_Count.B [1, 0]) (Code.at window_Count.B [1, 1])) (fun s h hR => window_Count.L9 hC Q s h hR) (window_Count.L10 hC Q s h hR)
noncomputable def window_Count.q6 (C : CSem) (Q : AVal → AHeap → Prop) : Ex → Slots → AHeap → Prop := Ex.then (fun s h => B.call C (N 10) [(s 0)] h fun v7 h =>
    B.pv (V.lenSl v7) fun v8 =>
    LoopR (window_Count.l4 C N Q v7 v8) [(.int .i64 0), (.int .i64 0)] h) (retB P window_Count.I window_Count.R Q)
theorem window_Count.L12 {C : CSem} (hC : CMono C) (Q : AVal → AHeap → Prop) (s : Slots) (h : AHeap) (hR : B.call C (N 10) [(s 0)] h fun v7 h =>
    B.pv (V.lenSl v7) fun v8 =>
    LoopR (window_Count.l4 C N Q v7 v8) [(.int .i64 0), (.int .i64 0)] h) : bwp P C window_Count.I (Code.at window_Count.B [0]) (window_Count.q6 C Q) s h :=
  (by kernel_rfl : bwp P C window_Count.I (Code.at window_Count.B [0]) (window_Count.q6 C Q) s h = (B.call C (N 10) [(s 0)] h fun v7 h =>
    B.pv (V.lenSl v7) fun v8 =>
    LoopR (window_Count.l4 C N Q v7 v8) [(.int .i64 0), (.int .i64 0)] h)).mpr hR
theorem window_Count.L13 {C : CSem} (hC : CMono C) (Q : AVal → AHeap → Prop) (s : Slots) (h : AHeap) (hR : B.call C (N 10) [(s 0)] h fun v7 h =>
    B.pv (V.lenSl v7) fun v8 =>
    LoopR (window_Count.l4 C N Q v7 v8) [(.int .i64 0), (.int .i64 0)] h) : bwp P C window_Count.I (Code.at window_Count.B []) (retB P window_Count.I window_Count.R Q) s h :=
  seqB hC (by kernel_rfl : (Code.at window_Count.B []) = .seq (Code.at window_Count.B [0]) (Code.at window_Count.B [1])) (fun s h hR => window_Count.L11 hC Q s h hR) (window_Count.L12 hC Q s h hR)
theorem window_Count.ok {v0 : AVal} {h : AHeap} {Q : AVal → AHeap → Prop} (hR : window_Count.cps (AC P) N v0 h Q) : AC P (N 13) [v0] h Q :=
  AC_introB mixed (fn := Try.f20) (c := window_Count.B) (by kernel_rfl) (by kernel_rfl) (callFunc_enter (fn := Try.f20) (by kernel_rfl) (by kernel_rfl) (by kernel_rfl)) (by kernel_rfl) (Nat.le_of_ble_eq_true (by kernel_rfl)) (Nat.le_of_ble_eq_true (by kernel_rfl)) (by kernel_rfl) (window_Count.L13 (AC_cmono P) Q (startS [v0]) h hR)
theorem window_Count.imp : window_Count.Imp (AC P) N := fun _ _ _ hR => AC_drop (window_Count.ok hR)

def ref01_Count.I : Bx := ⟨[], [], 28, [(6, [(0, []), (1, []), (2, []), (3, []), (4, []), (5, []), (6, []), (7, []), (8, []), (9, []), (10, []), (11, []), (12, []), (13, [])])]⟩
noncomputable def ref01_Count.B : Code := Try.f21.body.getD .skip
noncomputable def ref01_Count.R : List ResultVar := Try.f21.results.toList
theorem ref01_Count.L1 {C : CSem} (hC : CMono C) (Q : AVal → AHeap → Prop) (s : Slots) (h : AHeap) (hR : Q (s 3) h) : bwp P C ref01_Count.I (Code.at ref01_Count.B [1, 1, 1, 1]) (retB P ref01_Count.I ref01_Count.R Q) s h :=
  (by kernel_rfl : bwp P C ref01_Count.I (Code.at ref01_Count.B [1, 1, 1, 1]) (retB P ref01_Count.I ref01_Count.R Q) s h = (Q (s 3) h)).mpr hR
noncomputable def ref01_Count.q1 (C : CSem) (Q : AVal → AHeap → Prop) : Ex → Slots → AHeap → Prop := Ex.then (fun s h => Q (s 3) h) (retB P ref01_Count.I ref01_Count.R Q)
noncomputable def ref01_Count.q2 (C : CSem) (Q : AVal → AHeap → Prop) : Ex → Slots → AHeap → Prop := Ex.inBlock 0 (ref01_Count.q1 C Q)
noncomputable def ref01_Count.q3 (C : CSem) (Q : AVal → AHeap → Prop) (Y1 : List AVal → AHeap → Prop) : Ex → Slots → AHeap → Prop := Ex.then (fun s h => Y1 [(s 3), (s 5)] h) (ref01_Count.q2 C Q)
theorem ref01_Count.L3 {C : CSem} (hC : CMono C) (Q : AVal → AHeap → Prop) (Y1 : List AVal → AHeap → Prop) (s : Slots) (h : AHeap) (hR : ref01_Count.k2 C N Q Y1 (s 3) (s 4) (s 5) h) : bwp P C ref01_Count.I (Code.at ref01_Count.B [1, 1, 1, 0, 1, 0, 0]) (ref01_Count.q3 C Q Y1) s h :=
  (by kernel_rfl : bwp P C ref01_Count.I (Code.at ref01_Count.B [1, 1, 1, 0, 1, 0, 0]) (ref01_Count.q3 C Q Y1) s h = (ref01_Count.k2 C N Q Y1 (s 3) (s 4) (s 5) h)).mpr hR
theorem ref01_Count.L5 {C : CSem} (hC : CMono C) (Q : AVal → AHeap → Prop) (s : Slots) (h : AHeap) (hR : LoopR (ref01_Count.l4 C N Q (s 4)) [(s 3), (s 5)] h) : bwp P C ref01_Count.I (Code.at ref01_Count.B [1, 1, 1, 0, 1, 0]) (ref01_Count.q2 C Q) s h :=
  loopB hC [4] [3, 5] (G := (fun kv lv h Y1 => match kv with | [v4] => ref01_Count.l4 C N Q v4 lv h Y1 | _ => False)) (by kernel_rfl : (Code.at ref01_Count.B [1, 1, 1, 0, 1, 0]) = .loop (Code.at ref01_Count.B [1, 1, 1, 0, 1, 0, 0])) (by kernel_rfl) (fun Y1 s h hR => ref01_Count.L3 hC Q Y1 s h hR) hR
theorem ref01_Count.L6 {C : CSem} (hC : CMono C) (Q : AVal → AHeap → Prop) (s : Slots) (h : AHeap) (hR : LoopR (ref01_Count.l4 C N Q (s 4)) [(s 3), (s 5)] h) : bwp P C ref01_Count.I (Code.at ref01_Count.B [1, 1, 1, 0, 1]) (ref01_Count.q1 C Q) s h :=
  blockB (by kernel_rfl : (Code.at ref01_Count.B [1, 1, 1, 0, 1]) = .block 0 (Code.at ref01_Count.B [1, 1, 1, 0, 1, 0])) (ref01_Count.L5 hC Q s h hR)
noncomputable def ref01_Count.q4 (C : CSem) (Q : AVal → AHeap → Prop) : Ex → Slots → AHeap → Prop := Ex.then (fun s h => LoopR (ref01_Count.l4 C N Q (s 4)) [(s 3), (s 5)] h) (ref01_Count.q1 C Q)
theorem ref01_Count.L7 {C : CSem} (hC : CMono C) (Q : AVal → AHeap → Prop) (s : Slots) (h : AHeap) (hR : LoopR (ref01_Count.l4 C N Q (s 4)) [(s 3), (.int .i64 0)] h) : bwp P C ref01_Count.I (Code.at ref01_Count.B [1, 1, 1, 0, 0]) (ref01_Count.q4 C Q) s h :=
  (by kernel_rfl : bwp P C ref01_Count.I (Code.at ref01_Count.B [1, 1, 1, 0, 0]) (ref01_Count.q4 C Q) s h = (LoopR (ref01_Count.l4 C N Q (s 4)) [(s 3), (.int .i64 0)] h)).mpr hR
theorem ref01_Count.L8 {C : CSem} (hC : CMono C) (Q : AVal → AHeap → Prop) (s : Slots) (h : AHeap) (hR : LoopR (ref01_Count.l4 C N Q (s 4)) [(s 3), (.int .i64 0)] h) : bwp P C ref01_Count.I (Code.at ref01_Count.B [1, 1, 1, 0]) (ref01_Count.q1 C Q) s h :=
  seqB hC (by kernel_rfl : (Code.at ref01_Count.B [1, 1, 1, 0]) = .seq (Code.at ref01_Count.B [1, 1, 1, 0, 0]) (Code.at ref01_Count.B [1, 1, 1, 0, 1])) (fun s h hR => ref01_Count.L6 hC Q s h hR) (ref01_Count.L7 hC Q s h hR)
theorem ref01_Count.L9 {C : CSem} (hC : CMono C) (Q : AVal → AHeap → Prop) (s : Slots) (h : AHeap) (hR : LoopR (ref01_Count.l4 C N Q (s 4)) [(s 3), (.int .i64 0)] h) : bwp P C ref01_Count.I (Code.at ref01_Count.B [1, 1, 1]) (retB P ref01_Count.I ref01_Count.R Q) s h :=
  seqB hC (by kernel_rfl : (Code.at ref01_Count.B [1, 1, 1]) = .seq (Code.at ref01_Count.B [1, 1, 1, 0]) (Code.at ref01_Count.B [1, 1, 1, 1])) (fun s h hR => ref01_Count.L1 hC Q s h hR) (ref01_Count.L8 hC Q s h hR)
noncomputable def ref01_Count.q5 (C : CSem) (Q : AVal → AHeap → Prop) : Ex → Slots → AHeap → Prop := Ex.then (fun s h => LoopR (ref01_Count.l4 C N Q (s 4)) [(s 3), (.int .i64 0)] h) (retB P ref01_Count.I ref01_Count.R Q)
theorem ref01_Count.L10 {C : CSem} (hC : CMono C) (Q : AVal → AHeap → Prop) (s : Slots) (h : AHeap) (hR : B.call C (N 11) [(s 0)] h fun v7 h =>
    LoopR (ref01_Count.l4 C N Q v7) [(s 3), (.int .i64 0)] h) : bwp P C ref01_Count.I (Code.at ref01_Count.B [1, 1, 0]) (ref01_Count.q5 C Q) s h :=
  (by kernel_rfl : bwp P C ref01_Count.I (Code.at ref01_Count.B [1, 1, 0]) (ref01_Count.q5 C Q) s h = (B.call C (N 11) [(s 0)] h fun v7 h =>
    LoopR (ref01_Count.l4 C N Q v7) [(s 3), (.int .i64 0)] h)).mpr hR
theorem ref01_Count.L11 {C : CSem} (hC : CMono C) (Q : AVal → AHeap → Prop) (s : Slots) (h : AHeap) (hR : B.call C (N 11) [(s 0)] h fun v7 h =>
    LoopR (ref01_Count.l4 C N Q v7) [(s 3), (.int .i64 0)] h) : bwp P C ref01_Count.I (Code.at ref01_Count.B [1, 1]) (retB P ref01_Count.I ref01_Count.R Q) s h :=
  seqB hC (by kernel_rfl : (Code.at ref01_Count.B [1, 1]) = .seq (Code.at ref01_Count.B [1, 1, 0]) (Code.at ref01_Count.B [1, 1, 1])) (fun s h hR => ref01_Count.L9 hC Q s h hR) (ref01_Count.L10 hC Q s h hR)
noncomputable def ref01_Count.q6 (C : CSem) (Q : AVal → AHeap → Prop) : Ex → Slots → AHeap → Prop := Ex.then (fun s h => B.call C (N 11) [(s 0)] h fun v7 h =>
    LoopR (ref01_Count.l4 C N Q v7) [(s 3), (.int .i64 0)] h) (retB P ref01_Count.I ref01_Count.R Q)
theorem ref01_Count.L12 {C : CSem} (hC : CMono C) (Q : AVal → AHeap → Prop) (s : Slots) (h : AHeap) (hR : B.call C (N 11) [(s 0)] h fun v7 h =>
    LoopR (ref01_Count.l4 C N Q v7) [(.int .i64 0), (.int .i64 0)] h) : bwp P C ref01_Count.I (Code.at ref01_Count.B [1, 0]) (ref01_Count.q6 C Q) s h :=
  (by kernel_rfl : bwp P C ref01_Count.I (Code.at ref01_Count.B [1, 0]) (ref01_Count.q6 C Q) s h = (B.call C (N 11) [(s 0)] h fun v7 h =>
    LoopR (ref01_Count.l4 C N Q v7) [(.int .i64 0), (.int .i64 0)] h)).mpr hR
theorem ref01_Count.L13 {C : CSem} (hC : CMono C) (Q : AVal → AHeap → Prop) (s : Slots) (h : AHeap) (hR : B.call C (N 11) [(s 0)] h fun v7 h =>
    LoopR (ref01_Count.l4 C N Q v7) [(.int .i64 0), (.int .i64 0)] h) : bwp P C ref01_Count.I (Code.at ref01_Count.B [1]) (retB P ref01_Count.I ref01_Count.R Q) s h :=
  seqB hC (by kernel_rfl : (Code.at ref01_Count.B [1]) = .seq (Code.at ref01_Count.B [1, 0]) (Code.at ref01_Count.B [1, 1])) (fun s h hR => ref01_Count.L11 hC Q s h hR) (ref01_Count.L12 hC Q s h hR)
noncomputable def ref01_Count.q7 (C : CSem) (Q : AVal → AHeap → Prop) : Ex → Slots → AHeap → Prop := Ex.then (fun s h => B.call C (N 11) [(s 0)] h fun v7 h =>
    LoopR (ref01_Count.l4 C N Q v7) [(.int .i64 0), (.int .i64 0)] h) (retB P ref01_Count.I ref01_Count.R Q)
theorem ref01_Count.L14 {C : CSem} (hC : CMono C) (Q : AVal → AHeap → Prop) (s : Slots) (h : AHeap) (hR : B.call C (N 11) [(s 0)] h fun v7 h =>
    LoopR (ref01_Count.l4 C N Q v7) [(.int .i64 0), (.int .i64 0)] h) : bwp P C ref01_Count.I (Code.at ref01_Count.B [0]) (ref01_Count.q7 C Q) s h :=
  (by kernel_rfl : bwp P C ref01_Count.I (Code.at ref01_Count.B [0]) (ref01_Count.q7 C Q) s h = (B.call C (N 11) [(s 0)] h fun v7 h =>
    LoopR (ref01_Count.l4 C N Q v7) [(.int .i64 0), (.int .i64 0)] h)).mpr hR
theorem ref01_Count.L15 {C : CSem} (hC : CMono C) (Q : AVal → AHeap → Prop) (s : Slots) (h : AHeap) (hR : B.call C (N 11) [(s 0)] h fun v7 h =>
    LoopR (ref01_Count.l4 C N Q v7) [(.int .i64 0), (.int .i64 0)] h) : bwp P C ref01_Count.I (Code.at ref01_Count.B []) (retB P ref01_Count.I ref01_Count.R Q) s h :=
  seqB hC (by kernel_rfl : (Code.at ref01_Count.B []) = .seq (Code.at ref01_Count.B [0]) (Code.at ref01_Count.B [1])) (fun s h hR => ref01_Count.L13 hC Q s h hR) (ref01_Count.L14 hC Q s h hR)
theorem ref01_Count.ok {v0 : AVal} {h : AHeap} {Q : AVal → AHeap → Prop} (hR : ref01_Count.cps (AC P) N v0 h Q) : AC P (N 14) [v0] h Q :=
  AC_introB mixed (fn := Try.f21) (c := ref01_Count.B) (by kernel_rfl) (by kernel_rfl) (callFunc_enter (fn := Try.f21) (by kernel_rfl) (by kernel_rfl) (by kernel_rfl)) (by kernel_rfl) (Nat.le_of_ble_eq_true (by kernel_rfl)) (Nat.le_of_ble_eq_true (by kernel_rfl)) (by kernel_rfl) (ref01_Count.L15 (AC_cmono P) Q (startS [v0]) h hR)
theorem ref01_Count.imp : ref01_Count.Imp (AC P) N := fun _ _ _ hR => AC_drop (ref01_Count.ok hR)

def kit_KeptWindows.I : Bx := ⟨[], [], 58, [(7, [(0, []), (1, []), (2, []), (3, []), (4, []), (5, []), (6, []), (7, []), (8, []), (9, []), (10, []), (11, []), (12, []), (13, []), (14, []), (15, []), (16, []), (17, []), (18, []), (19, []), (20, []), (21, []), (22, []), (23, []), (24, []), (25, []), (26, []), (27, []), (28, []), (29, []), (30, [25]), (31, []), (32, []), (33, []), (34, [])])]⟩
noncomputable def kit_KeptWindows.B : Code := Try.f22.body.getD .skip
noncomputable def kit_KeptWindows.R : List ResultVar := Try.f22.results.toList
theorem kit_KeptWindows.L1 {C : CSem} (hC : CMono C) (Q : AVal → AHeap → Prop) (s : Slots) (h : AHeap) (hR : Q (.bool true) h) : bwp P C kit_KeptWindows.I (Code.at kit_KeptWindows.B [1, 1, 1, 1]) (retB P kit_KeptWindows.I kit_KeptWindows.R Q) s h :=
  (by kernel_rfl : bwp P C kit_KeptWindows.I (Code.at kit_KeptWindows.B [1, 1, 1, 1]) (retB P kit_KeptWindows.I kit_KeptWindows.R Q) s h = (Q (.bool true) h)).mpr hR
noncomputable def kit_KeptWindows.q1 (C : CSem) (Q : AVal → AHeap → Prop) : Ex → Slots → AHeap → Prop := Ex.then (fun s h => Q (.bool true) h) (retB P kit_KeptWindows.I kit_KeptWindows.R Q)
noncomputable def kit_KeptWindows.q2 (C : CSem) (Q : AVal → AHeap → Prop) : Ex → Slots → AHeap → Prop := Ex.inBlock 0 (kit_KeptWindows.q1 C Q)
noncomputable def kit_KeptWindows.q3 (C : CSem) (Q : AVal → AHeap → Prop) (Y1 : List AVal → AHeap → Prop) : Ex → Slots → AHeap → Prop := Ex.then (fun s h => Y1 [(s 6)] h) (kit_KeptWindows.q2 C Q)
theorem kit_KeptWindows.L3 {C : CSem} (hC : CMono C) (Q : AVal → AHeap → Prop) (Y1 : List AVal → AHeap → Prop) (s : Slots) (h : AHeap) (hR : kit_KeptWindows.k2 C N Q Y1 (s 1) (s 5) (s 6) h) : bwp P C kit_KeptWindows.I (Code.at kit_KeptWindows.B [1, 1, 1, 0, 1, 0, 0]) (kit_KeptWindows.q3 C Q Y1) s h :=
  (by kernel_rfl : bwp P C kit_KeptWindows.I (Code.at kit_KeptWindows.B [1, 1, 1, 0, 1, 0, 0]) (kit_KeptWindows.q3 C Q Y1) s h = (kit_KeptWindows.k2 C N Q Y1 (s 1) (s 5) (s 6) h)).mpr hR
theorem kit_KeptWindows.L5 {C : CSem} (hC : CMono C) (Q : AVal → AHeap → Prop) (s : Slots) (h : AHeap) (hR : LoopR (kit_KeptWindows.l4 C N Q (s 1) (s 5)) [(s 6)] h) : bwp P C kit_KeptWindows.I (Code.at kit_KeptWindows.B [1, 1, 1, 0, 1, 0]) (kit_KeptWindows.q2 C Q) s h :=
  loopB hC [1, 5] [6] (G := (fun kv lv h Y1 => match kv with | [v1, v5] => kit_KeptWindows.l4 C N Q v1 v5 lv h Y1 | _ => False)) (by kernel_rfl : (Code.at kit_KeptWindows.B [1, 1, 1, 0, 1, 0]) = .loop (Code.at kit_KeptWindows.B [1, 1, 1, 0, 1, 0, 0])) (by kernel_rfl) (fun Y1 s h hR => kit_KeptWindows.L3 hC Q Y1 s h hR) hR
theorem kit_KeptWindows.L6 {C : CSem} (hC : CMono C) (Q : AVal → AHeap → Prop) (s : Slots) (h : AHeap) (hR : LoopR (kit_KeptWindows.l4 C N Q (s 1) (s 5)) [(s 6)] h) : bwp P C kit_KeptWindows.I (Code.at kit_KeptWindows.B [1, 1, 1, 0, 1]) (kit_KeptWindows.q1 C Q) s h :=
  blockB (by kernel_rfl : (Code.at kit_KeptWindows.B [1, 1, 1, 0, 1]) = .block 0 (Code.at kit_KeptWindows.B [1, 1, 1, 0, 1, 0])) (kit_KeptWindows.L5 hC Q s h hR)
noncomputable def kit_KeptWindows.q4 (C : CSem) (Q : AVal → AHeap → Prop) : Ex → Slots → AHeap → Prop := Ex.then (fun s h => LoopR (kit_KeptWindows.l4 C N Q (s 1) (s 5)) [(s 6)] h) (kit_KeptWindows.q1 C Q)
theorem kit_KeptWindows.L7 {C : CSem} (hC : CMono C) (Q : AVal → AHeap → Prop) (s : Slots) (h : AHeap) (hR : LoopR (kit_KeptWindows.l4 C N Q (s 1) (s 5)) [(.int .i64 0)] h) : bwp P C kit_KeptWindows.I (Code.at kit_KeptWindows.B [1, 1, 1, 0, 0]) (kit_KeptWindows.q4 C Q) s h :=
  (by kernel_rfl : bwp P C kit_KeptWindows.I (Code.at kit_KeptWindows.B [1, 1, 1, 0, 0]) (kit_KeptWindows.q4 C Q) s h = (LoopR (kit_KeptWindows.l4 C N Q (s 1) (s 5)) [(.int .i64 0)] h)).mpr hR
theorem kit_KeptWindows.L8 {C : CSem} (hC : CMono C) (Q : AVal → AHeap → Prop) (s : Slots) (h : AHeap) (hR : LoopR (kit_KeptWindows.l4 C N Q (s 1) (s 5)) [(.int .i64 0)] h) : bwp P C kit_KeptWindows.I (Code.at kit_KeptWindows.B [1, 1, 1, 0]) (kit_KeptWindows.q1 C Q) s h :=
  seqB hC (by kernel_rfl : (Code.at kit_KeptWindows.B [1, 1, 1, 0]) = .seq (Code.at kit_KeptWindows.B [1, 1, 1, 0, 0]) (Code.at kit_KeptWindows.B [1, 1, 1, 0, 1])) (fun s h hR => kit_KeptWindows.L6 hC Q s h hR) (kit_KeptWindows.L7 hC Q s h hR)
theorem kit_KeptWindows.L9 {C : CSem} (hC : CMono C) (Q : AVal → AHeap → Prop) (s : Slots) (h : AHeap) (hR : LoopR (kit_KeptWindows.l4 C N Q (s 1) (s 5)) [(.int .i64 0)] h) : bwp P C kit_KeptWindows.I (Code.at kit_KeptWindows.B [1, 1, 1]) (retB P kit_KeptWindows.I kit_KeptWindows.R Q) s h :=
  seqB hC (by kernel_rfl : (Code.at kit_KeptWindows.B [1, 1, 1]) = .seq (Code.at kit_KeptWindows.B [1, 1, 1, 0]) (Code.at kit_KeptWindows.B [1, 1, 1, 1])) (fun s h hR => kit_KeptWindows.L1 hC Q s h hR) (kit_KeptWindows.L8 hC Q s h hR)
noncomputable def kit_KeptWindows.q5 (C : CSem) (Q : AVal → AHeap → Prop) : Ex → Slots → AHeap → Prop := Ex.then (fun s h => LoopR (kit_KeptWindows.l4 C N Q (s 1) (s 5)) [(.int .i64 0)] h) (retB P kit_KeptWindows.I kit_KeptWindows.R Q)
theorem kit_KeptWindows.L11 {C : CSem} (hC : CMono C) (Q : AVal → AHeap → Prop) (s : Slots) (h : AHeap) (hR : kit_KeptWindows.k10 C N Q (s 0) (s 1) h) : bwp P C kit_KeptWindows.I (Code.at kit_KeptWindows.B [1, 1, 0]) (kit_KeptWindows.q5 C Q) s h :=
  (by kernel_rfl : bwp P C kit_KeptWindows.I (Code.at kit_KeptWindows.B [1, 1, 0]) (kit_KeptWindows.q5 C Q) s h = (kit_KeptWindows.k10 C N Q (s 0) (s 1) h)).mpr hR
theorem kit_KeptWindows.L12 {C : CSem} (hC : CMono C) (Q : AVal → AHeap → Prop) (s : Slots) (h : AHeap) (hR : kit_KeptWindows.k10 C N Q (s 0) (s 1) h) : bwp P C kit_KeptWindows.I (Code.at kit_KeptWindows.B [1, 1]) (retB P kit_KeptWindows.I kit_KeptWindows.R Q) s h :=
  seqB hC (by kernel_rfl : (Code.at kit_KeptWindows.B [1, 1]) = .seq (Code.at kit_KeptWindows.B [1, 1, 0]) (Code.at kit_KeptWindows.B [1, 1, 1])) (fun s h hR => kit_KeptWindows.L9 hC Q s h hR) (kit_KeptWindows.L11 hC Q s h hR)
noncomputable def kit_KeptWindows.q6 (C : CSem) (Q : AVal → AHeap → Prop) : Ex → Slots → AHeap → Prop := Ex.then (fun s h => kit_KeptWindows.k10 C N Q (s 0) (s 1) h) (retB P kit_KeptWindows.I kit_KeptWindows.R Q)
theorem kit_KeptWindows.L14 {C : CSem} (hC : CMono C) (Q : AVal → AHeap → Prop) (s : Slots) (h : AHeap) (hR : kit_KeptWindows.k13 C N Q (s 0) (s 1) h) : bwp P C kit_KeptWindows.I (Code.at kit_KeptWindows.B [1, 0]) (kit_KeptWindows.q6 C Q) s h :=
  (by kernel_rfl : bwp P C kit_KeptWindows.I (Code.at kit_KeptWindows.B [1, 0]) (kit_KeptWindows.q6 C Q) s h = (kit_KeptWindows.k13 C N Q (s 0) (s 1) h)).mpr hR
theorem kit_KeptWindows.L15 {C : CSem} (hC : CMono C) (Q : AVal → AHeap → Prop) (s : Slots) (h : AHeap) (hR : kit_KeptWindows.k13 C N Q (s 0) (s 1) h) : bwp P C kit_KeptWindows.I (Code.at kit_KeptWindows.B [1]) (retB P kit_KeptWindows.I kit_KeptWindows.R Q) s h :=
  seqB hC (by kernel_rfl : (Code.at kit_KeptWindows.B [1]) = .seq (Code.at kit_KeptWindows.B [1, 0]) (Code.at kit_KeptWindows.B [1, 1])) (fun s h hR => kit_KeptWindows.L12 hC Q s h hR) (kit_KeptWindows.L14 hC Q s h hR)
noncomputable def kit_KeptWindows.q7 (C : CSem) (Q : AVal → AHeap → Prop) : Ex → Slots → AHeap → Prop := Ex.then (fun s h => kit_KeptWindows.k13 C N Q (s 0) (s 1) h) (retB P kit_KeptWindows.I kit_KeptWindows.R Q)
theorem kit_KeptWindows.L16 {C : CSem} (hC : CMono C) (Q : AVal → AHeap → Prop) (s : Slots) (h : AHeap) (hR : kit_KeptWindows.k13 C N Q (s 0) (s 1) h) : bwp P C kit_KeptWindows.I (Code.at kit_KeptWindows.B [0]) (kit_KeptWindows.q7 C Q) s h :=
  (by kernel_rfl : bwp P C kit_KeptWindows.I (Code.at kit_KeptWindows.B [0]) (kit_KeptWindows.q7 C Q) s h = (kit_KeptWindows.k13 C N Q (s 0) (s 1) h)).mpr hR
theorem kit_KeptWindows.L17 {C : CSem} (hC : CMono C) (Q : AVal → AHeap → Prop) (s : Slots) (h : AHeap) (hR : kit_KeptWindows.k13 C N Q (s 0) (s 1) h) : bwp P C kit_KeptWindows.I (Code.at kit_KeptWindows.B []) (retB P kit_KeptWindows.I kit_KeptWindows.R Q) s h :=
  seqB hC (by kernel_rfl : (Code.at kit_KeptWindows.B []) = .seq (Code.at kit_KeptWindows.B [0]) (Code.at kit_KeptWindows.B [1])) (fun s h hR => kit_KeptWindows.L15 hC Q s h hR) (kit_KeptWindows.L16 hC Q s h hR)
theorem kit_KeptWindows.ok {v0 v1 : AVal} {h : AHeap} {Q : AVal → AHeap → Prop} (hR : kit_KeptWindows.cps (AC P) N v0 v1 h Q) : AC P (N 15) [v0, v1] h Q :=
  AC_introB mixed (fn := Try.f22) (c := kit_KeptWindows.B) (by kernel_rfl) (by kernel_rfl) (callFunc_enter (fn := Try.f22) (by kernel_rfl) (by kernel_rfl) (by kernel_rfl)) (by kernel_rfl) (Nat.le_of_ble_eq_true (by kernel_rfl)) (Nat.le_of_ble_eq_true (by kernel_rfl)) (by kernel_rfl) (kit_KeptWindows.L17 (AC_cmono P) Q (startS [v0, v1]) h hR)
theorem kit_KeptWindows.imp : kit_KeptWindows.Imp (AC P) N := fun _ _ _ _ hR => AC_drop (kit_KeptWindows.ok hR)

def window_within.I : Bx := ⟨[4], [], 13, []⟩
noncomputable def window_within.B : Code := Try.f23.body.getD .skip
noncomputable def window_within.R : List ResultVar := Try.f23.results.toList
theorem window_within.L2 {C : CSem} (hC : CMono C) (Q : AVal → AHeap → Prop) (s : Slots) (h : AHeap) (hR : window_within.k1 C N Q (s 0) (s 1) h) : bwp P C window_within.I (Code.at window_within.B []) (retB P window_within.I window_within.R Q) s h :=
  (by kernel_rfl : bwp P C window_within.I (Code.at window_within.B []) (retB P window_within.I window_within.R Q) s h = (window_within.k1 C N Q (s 0) (s 1) h)).mpr hR
theorem window_within.ok {v0 v1 : AVal} {h : AHeap} {Q : AVal → AHeap → Prop} (hR : window_within.cps (AC P) N v0 v1 h Q) : AC P (N 16) [v0, v1] h Q :=
  AC_introB mixed (fn := Try.f23) (c := window_within.B) (by kernel_rfl) (by kernel_rfl) (callFunc_enter (fn := Try.f23) (by kernel_rfl) (by kernel_rfl) (by kernel_rfl)) (by kernel_rfl) (Nat.le_of_ble_eq_true (by kernel_rfl)) (Nat.le_of_ble_eq_true (by kernel_rfl)) (by kernel_rfl) (window_within.L2 (AC_cmono P) Q (startS [v0, v1]) h hR)
theorem window_within.imp : window_within.Imp (AC P) N := fun _ _ _ _ hR => AC_drop (window_within.ok hR)

def ref01_one.I : Bx := ⟨[4], [], 51, []⟩
noncomputable def ref01_one.B : Code := Try.f24.body.getD .skip
noncomputable def ref01_one.R : List ResultVar := Try.f24.results.toList
theorem ref01_one.L2 {C : CSem} (hC : CMono C) (Q : AVal → AHeap → Prop) (s : Slots) (h : AHeap) (hR : ref01_one.k1 C N Q (s 6) (s 55) h) : bwp P C ref01_one.I (Code.at ref01_one.B [1, 1, 1]) (retB P ref01_one.I ref01_one.R Q) s h :=
  (by kernel_rfl : bwp P C ref01_one.I (Code.at ref01_one.B [1, 1, 1]) (retB P ref01_one.I ref01_one.R Q) s h = (ref01_one.k1 C N Q (s 6) (s 55) h)).mpr hR
noncomputable def ref01_one.q1 (C : CSem) (Q : AVal → AHeap → Prop) : Ex → Slots → AHeap → Prop := Ex.then (fun s h => ref01_one.k1 C N Q (s 6) (s 55) h) (retB P ref01_one.I ref01_one.R Q)
noncomputable def ref01_one.q2 (C : CSem) (Q : AVal → AHeap → Prop) : Ex → Slots → AHeap → Prop := Ex.inBlock 0 (ref01_one.q1 C Q)
noncomputable def ref01_one.q3 (C : CSem) (Q : AVal → AHeap → Prop) (Y1 : List AVal → AHeap → Prop) : Ex → Slots → AHeap → Prop := Ex.then (fun s h => Y1 [(s 7)] h) (ref01_one.q2 C Q)
theorem ref01_one.L3 {C : CSem} (hC : CMono C) (Q : AVal → AHeap → Prop) (Y1 : List AVal → AHeap → Prop) (s : Slots) (h : AHeap) (hR : B.pv (V.bin .add (s 7) (.int .i64 1)) fun v14 =>
    Y1 [v14] h) : bwp P C ref01_one.I (Code.at ref01_one.B [1, 1, 0, 1, 0, 0, 1, 1]) (ref01_one.q3 C Q Y1) s h :=
  (by kernel_rfl : bwp P C ref01_one.I (Code.at ref01_one.B [1, 1, 0, 1, 0, 0, 1, 1]) (ref01_one.q3 C Q Y1) s h = (B.pv (V.bin .add (s 7) (.int .i64 1)) fun v14 =>
    Y1 [v14] h)).mpr hR
noncomputable def ref01_one.q4 (C : CSem) (Q : AVal → AHeap → Prop) (Y1 : List AVal → AHeap → Prop) : Ex → Slots → AHeap → Prop := Ex.then (fun s h => B.pv (V.bin .add (s 7) (.int .i64 1)) fun v14 =>
    Y1 [v14] h) (ref01_one.q3 C Q Y1)
noncomputable def ref01_one.q5 (C : CSem) (Q : AVal → AHeap → Prop) (Y1 : List AVal → AHeap → Prop) : Ex → Slots → AHeap → Prop := Ex.inBlock 1 (ref01_one.q4 C Q Y1)
noncomputable def ref01_one.q6 (C : CSem) (Q : AVal → AHeap → Prop) (Y1 : List AVal → AHeap → Prop) : Ex → Slots → AHeap → Prop := Ex.inBlock 2 (ref01_one.q5 C Q Y1)
noncomputable def ref01_one.q7 (C : CSem) (Q : AVal → AHeap → Prop) (Y1 : List AVal → AHeap → Prop) (Y2 : List AVal → AHeap → Prop) : Ex → Slots → AHeap → Prop := Ex.then (fun s h => Y2 [(s 8)] h) (ref01_one.q6 C Q Y1)
theorem ref01_one.L5 {C : CSem} (hC : CMono C) (Q : AVal → AHeap → Prop) (Y1 : List AVal → AHeap → Prop) (Y2 : List AVal → AHeap → Prop) (s : Slots) (h : AHeap) (hR : ref01_one.k4 C N Q Y1 Y2 (s 0) (s 1) (s 6) (s 7) (s 8) (s 55) h) : bwp P C ref01_one.I (Code.at ref01_one.B [1, 1, 0, 1, 0, 0, 1, 0, 0, 1, 1, 0, 0]) (ref01_one.q7 C Q Y1 Y2) s h :=
  (by kernel_rfl : bwp P C ref01_one.I (Code.at ref01_one.B [1, 1, 0, 1, 0, 0, 1, 0, 0, 1, 1, 0, 0]) (ref01_one.q7 C Q Y1 Y2) s h = (ref01_one.k4 C N Q Y1 Y2 (s 0) (s 1) (s 6) (s 7) (s 8) (s 55) h)).mpr hR
theorem ref01_one.L7 {C : CSem} (hC : CMono C) (Q : AVal → AHeap → Prop) (Y1 : List AVal → AHeap → Prop) (s : Slots) (h : AHeap) (hR : LoopR (ref01_one.l6 C N Q Y1 (s 0) (s 1) (s 6) (s 7) (s 55)) [(s 8)] h) : bwp P C ref01_one.I (Code.at ref01_one.B [1, 1, 0, 1, 0, 0, 1, 0, 0, 1, 1, 0]) (ref01_one.q6 C Q Y1) s h :=
  loopB hC [0, 1, 6, 7, 55] [8] (G := (fun kv lv h Y2 => match kv with | [v0, v1, v6, v7, c4] => ref01_one.l6 C N Q Y1 v0 v1 v6 v7 c4 lv h Y2 | _ => False)) (by kernel_rfl : (Code.at ref01_one.B [1, 1, 0, 1, 0, 0, 1, 0, 0, 1, 1, 0]) = .loop (Code.at ref01_one.B [1, 1, 0, 1, 0, 0, 1, 0, 0, 1, 1, 0, 0])) (by kernel_rfl) (fun Y2 s h hR => ref01_one.L5 hC Q Y1 Y2 s h hR) hR
theorem ref01_one.L8 {C : CSem} (hC : CMono C) (Q : AVal → AHeap → Prop) (Y1 : List AVal → AHeap → Prop) (s : Slots) (h : AHeap) (hR : LoopR (ref01_one.l6 C N Q Y1 (s 0) (s 1) (s 6) (s 7) (s 55)) [(s 8)] h) : bwp P C ref01_one.I (Code.at ref01_one.B [1, 1, 0, 1, 0, 0, 1, 0, 0, 1, 1]) (ref01_one.q5 C Q Y1) s h :=
  blockB (by kernel_rfl : (Code.at ref01_one.B [1, 1, 0, 1, 0, 0, 1, 0, 0, 1, 1]) = .block 2 (Code.at ref01_one.B [1, 1, 0, 1, 0, 0, 1, 0, 0, 1, 1, 0])) (ref01_one.L7 hC Q Y1 s h hR)
noncomputable def ref01_one.q8 (C : CSem) (Q : AVal → AHeap → Prop) (Y1 : List AVal → AHeap → Prop) : Ex → Slots → AHeap → Prop := Ex.then (fun s h => LoopR (ref01_one.l6 C N Q Y1 (s 0) (s 1) (s 6) (s 7) (s 55)) [(s 8)] h) (ref01_one.q5 C Q Y1)
theorem ref01_one.L9 {C : CSem} (hC : CMono C) (Q : AVal → AHeap → Prop) (Y1 : List AVal → AHeap → Prop) (s : Slots) (h : AHeap) (hR : LoopR (ref01_one.l6 C N Q Y1 (s 0) (s 1) (s 6) (s 7) (s 55)) [(.int .i64 0)] h) : bwp P C ref01_one.I (Code.at ref01_one.B [1, 1, 0, 1, 0, 0, 1, 0, 0, 1, 0]) (ref01_one.q8 C Q Y1) s h :=
  (by kernel_rfl : bwp P C ref01_one.I (Code.at ref01_one.B [1, 1, 0, 1, 0, 0, 1, 0, 0, 1, 0]) (ref01_one.q8 C Q Y1) s h = (LoopR (ref01_one.l6 C N Q Y1 (s 0) (s 1) (s 6) (s 7) (s 55)) [(.int .i64 0)] h)).mpr hR
theorem ref01_one.L10 {C : CSem} (hC : CMono C) (Q : AVal → AHeap → Prop) (Y1 : List AVal → AHeap → Prop) (s : Slots) (h : AHeap) (hR : LoopR (ref01_one.l6 C N Q Y1 (s 0) (s 1) (s 6) (s 7) (s 55)) [(.int .i64 0)] h) : bwp P C ref01_one.I (Code.at ref01_one.B [1, 1, 0, 1, 0, 0, 1, 0, 0, 1]) (ref01_one.q5 C Q Y1) s h :=
  seqB hC (by kernel_rfl : (Code.at ref01_one.B [1, 1, 0, 1, 0, 0, 1, 0, 0, 1]) = .seq (Code.at ref01_one.B [1, 1, 0, 1, 0, 0, 1, 0, 0, 1, 0]) (Code.at ref01_one.B [1, 1, 0, 1, 0, 0, 1, 0, 0, 1, 1])) (fun s h hR => ref01_one.L8 hC Q Y1 s h hR) (ref01_one.L9 hC Q Y1 s h hR)
noncomputable def ref01_one.q9 (C : CSem) (Q : AVal → AHeap → Prop) (Y1 : List AVal → AHeap → Prop) : Ex → Slots → AHeap → Prop := Ex.then (fun s h => LoopR (ref01_one.l6 C N Q Y1 (s 0) (s 1) (s 6) (s 7) (s 55)) [(.int .i64 0)] h) (ref01_one.q5 C Q Y1)
theorem ref01_one.L12 {C : CSem} (hC : CMono C) (Q : AVal → AHeap → Prop) (Y1 : List AVal → AHeap → Prop) (s : Slots) (h : AHeap) (hR : ref01_one.k11 C N Q Y1 (s 0) (s 1) (s 6) (s 7) (s 55) h) : bwp P C ref01_one.I (Code.at ref01_one.B [1, 1, 0, 1, 0, 0, 1, 0, 0, 0]) (ref01_one.q9 C Q Y1) s h :=
  (by kernel_rfl : bwp P C ref01_one.I (Code.at ref01_one.B [1, 1, 0, 1, 0, 0, 1, 0, 0, 0]) (ref01_one.q9 C Q Y1) s h = (ref01_one.k11 C N Q Y1 (s 0) (s 1) (s 6) (s 7) (s 55) h)).mpr hR
theorem ref01_one.L13 {C : CSem} (hC : CMono C) (Q : AVal → AHeap → Prop) (Y1 : List AVal → AHeap → Prop) (s : Slots) (h : AHeap) (hR : ref01_one.k11 C N Q Y1 (s 0) (s 1) (s 6) (s 7) (s 55) h) : bwp P C ref01_one.I (Code.at ref01_one.B [1, 1, 0, 1, 0, 0, 1, 0, 0]) (ref01_one.q5 C Q Y1) s h :=
  seqB hC (by kernel_rfl : (Code.at ref01_one.B [1, 1, 0, 1, 0, 0, 1, 0, 0]) = .seq (Code.at ref01_one.B [1, 1, 0, 1, 0, 0, 1, 0, 0, 0]) (Code.at ref01_one.B [1, 1, 0, 1, 0, 0, 1, 0, 0, 1])) (fun s h hR => ref01_one.L10 hC Q Y1 s h hR) (ref01_one.L12 hC Q Y1 s h hR)
theorem ref01_one.L14 {C : CSem} (hC : CMono C) (Q : AVal → AHeap → Prop) (Y1 : List AVal → AHeap → Prop) (s : Slots) (h : AHeap) (hR : ref01_one.k11 C N Q Y1 (s 0) (s 1) (s 6) (s 7) (s 55) h) : bwp P C ref01_one.I (Code.at ref01_one.B [1, 1, 0, 1, 0, 0, 1, 0]) (ref01_one.q4 C Q Y1) s h :=
  blockB (by kernel_rfl : (Code.at ref01_one.B [1, 1, 0, 1, 0, 0, 1, 0]) = .block 1 (Code.at ref01_one.B [1, 1, 0, 1, 0, 0, 1, 0, 0])) (ref01_one.L13 hC Q Y1 s h hR)
theorem ref01_one.L15 {C : CSem} (hC : CMono C) (Q : AVal → AHeap → Prop) (Y1 : List AVal → AHeap → Prop) (s : Slots) (h : AHeap) (hR : ref01_one.k11 C N Q Y1 (s 0) (s 1) (s 6) (s 7) (s 55) h) : bwp P C ref01_one.I (Code.at ref01_one.B [1, 1, 0, 1, 0, 0, 1]) (ref01_one.q3 C Q Y1) s h :=
  seqB hC (by kernel_rfl : (Code.at ref01_one.B [1, 1, 0, 1, 0, 0, 1]) = .seq (Code.at ref01_one.B [1, 1, 0, 1, 0, 0, 1, 0]) (Code.at ref01_one.B [1, 1, 0, 1, 0, 0, 1, 1])) (fun s h hR => ref01_one.L3 hC Q Y1 s h hR) (ref01_one.L14 hC Q Y1 s h hR)
noncomputable def ref01_one.q10 (C : CSem) (Q : AVal → AHeap → Prop) (Y1 : List AVal → AHeap → Prop) : Ex → Slots → AHeap → Prop := Ex.then (fun s h => ref01_one.k11 C N Q Y1 (s 0) (s 1) (s 6) (s 7) (s 55) h) (ref01_one.q3 C Q Y1)
theorem ref01_one.L16 {C : CSem} (hC : CMono C) (Q : AVal → AHeap → Prop) (Y1 : List AVal → AHeap → Prop) (s : Slots) (h : AHeap) (hR : B.pv (V.bin .leq (s 7) (.int .i64 4000)) fun v12 =>
    B.cond v12
    (ref01_one.k11 C N Q Y1 (s 0) (s 1) (s 6) (s 7) (s 55) h)
    (ref01_one.k1 C N Q (s 6) (s 55) h)) : bwp P C ref01_one.I (Code.at ref01_one.B [1, 1, 0, 1, 0, 0, 0]) (ref01_one.q10 C Q Y1) s h :=
  (by kernel_rfl : bwp P C ref01_one.I (Code.at ref01_one.B [1, 1, 0, 1, 0, 0, 0]) (ref01_one.q10 C Q Y1) s h = (B.pv (V.bin .leq (s 7) (.int .i64 4000)) fun v12 =>
    B.cond v12
    (ref01_one.k11 C N Q Y1 (s 0) (s 1) (s 6) (s 7) (s 55) h)
    (ref01_one.k1 C N Q (s 6) (s 55) h))).mpr hR
theorem ref01_one.L17 {C : CSem} (hC : CMono C) (Q : AVal → AHeap → Prop) (Y1 : List AVal → AHeap → Prop) (s : Slots) (h : AHeap) (hR : B.pv (V.bin .leq (s 7) (.int .i64 4000)) fun v12 =>
    B.cond v12
    (ref01_one.k11 C N Q Y1 (s 0) (s 1) (s 6) (s 7) (s 55) h)
    (ref01_one.k1 C N Q (s 6) (s 55) h)) : bwp P C ref01_one.I (Code.at ref01_one.B [1, 1, 0, 1, 0, 0]) (ref01_one.q3 C Q Y1) s h :=
  seqB hC (by kernel_rfl : (Code.at ref01_one.B [1, 1, 0, 1, 0, 0]) = .seq (Code.at ref01_one.B [1, 1, 0, 1, 0, 0, 0]) (Code.at ref01_one.B [1, 1, 0, 1, 0, 0, 1])) (fun s h hR => ref01_one.L15 hC Q Y1 s h hR) (ref01_one.L16 hC Q Y1 s h hR)
theorem ref01_one.L19 {C : CSem} (hC : CMono C) (Q : AVal → AHeap → Prop) (s : Slots) (h : AHeap) (hR : LoopR (ref01_one.l18 C N Q (s 0) (s 1) (s 6) (s 55)) [(s 7)] h) : bwp P C ref01_one.I (Code.at ref01_one.B [1, 1, 0, 1, 0]) (ref01_one.q2 C Q) s h :=
  loopB hC [0, 1, 6, 55] [7] (G := (fun kv lv h Y1 => match kv with | [v0, v1, v6, c4] => ref01_one.l18 C N Q v0 v1 v6 c4 lv h Y1 | _ => False)) (by kernel_rfl : (Code.at ref01_one.B [1, 1, 0, 1, 0]) = .loop (Code.at ref01_one.B [1, 1, 0, 1, 0, 0])) (by kernel_rfl) (fun Y1 s h hR => ref01_one.L17 hC Q Y1 s h hR) hR
theorem ref01_one.L20 {C : CSem} (hC : CMono C) (Q : AVal → AHeap → Prop) (s : Slots) (h : AHeap) (hR : LoopR (ref01_one.l18 C N Q (s 0) (s 1) (s 6) (s 55)) [(s 7)] h) : bwp P C ref01_one.I (Code.at ref01_one.B [1, 1, 0, 1]) (ref01_one.q1 C Q) s h :=
  blockB (by kernel_rfl : (Code.at ref01_one.B [1, 1, 0, 1]) = .block 0 (Code.at ref01_one.B [1, 1, 0, 1, 0])) (ref01_one.L19 hC Q s h hR)
noncomputable def ref01_one.q11 (C : CSem) (Q : AVal → AHeap → Prop) : Ex → Slots → AHeap → Prop := Ex.then (fun s h => LoopR (ref01_one.l18 C N Q (s 0) (s 1) (s 6) (s 55)) [(s 7)] h) (ref01_one.q1 C Q)
theorem ref01_one.L21 {C : CSem} (hC : CMono C) (Q : AVal → AHeap → Prop) (s : Slots) (h : AHeap) (hR : LoopR (ref01_one.l18 C N Q (s 0) (s 1) (s 6) (s 55)) [(.int .i64 0)] h) : bwp P C ref01_one.I (Code.at ref01_one.B [1, 1, 0, 0]) (ref01_one.q11 C Q) s h :=
  (by kernel_rfl : bwp P C ref01_one.I (Code.at ref01_one.B [1, 1, 0, 0]) (ref01_one.q11 C Q) s h = (LoopR (ref01_one.l18 C N Q (s 0) (s 1) (s 6) (s 55)) [(.int .i64 0)] h)).mpr hR
theorem ref01_one.L22 {C : CSem} (hC : CMono C) (Q : AVal → AHeap → Prop) (s : Slots) (h : AHeap) (hR : LoopR (ref01_one.l18 C N Q (s 0) (s 1) (s 6) (s 55)) [(.int .i64 0)] h) : bwp P C ref01_one.I (Code.at ref01_one.B [1, 1, 0]) (ref01_one.q1 C Q) s h :=
  seqB hC (by kernel_rfl : (Code.at ref01_one.B [1, 1, 0]) = .seq (Code.at ref01_one.B [1, 1, 0, 0]) (Code.at ref01_one.B [1, 1, 0, 1])) (fun s h hR => ref01_one.L20 hC Q s h hR) (ref01_one.L21 hC Q s h hR)
theorem ref01_one.L23 {C : CSem} (hC : CMono C) (Q : AVal → AHeap → Prop) (s : Slots) (h : AHeap) (hR : LoopR (ref01_one.l18 C N Q (s 0) (s 1) (s 6) (s 55)) [(.int .i64 0)] h) : bwp P C ref01_one.I (Code.at ref01_one.B [1, 1]) (retB P ref01_one.I ref01_one.R Q) s h :=
  seqB hC (by kernel_rfl : (Code.at ref01_one.B [1, 1]) = .seq (Code.at ref01_one.B [1, 1, 0]) (Code.at ref01_one.B [1, 1, 1])) (fun s h hR => ref01_one.L2 hC Q s h hR) (ref01_one.L22 hC Q s h hR)
noncomputable def ref01_one.q12 (C : CSem) (Q : AVal → AHeap → Prop) : Ex → Slots → AHeap → Prop := Ex.then (fun s h => LoopR (ref01_one.l18 C N Q (s 0) (s 1) (s 6) (s 55)) [(.int .i64 0)] h) (retB P ref01_one.I ref01_one.R Q)
theorem ref01_one.L24 {C : CSem} (hC : CMono C) (Q : AVal → AHeap → Prop) (s : Slots) (h : AHeap) (hR : 0 < 1 ∧ B.mks h 1 (some [.bool false]) (.int .i64 4001) (.int .i64 4001) fun v10 h =>
    LoopR (ref01_one.l18 C N Q (s 0) (s 1) v10 (s 55)) [(.int .i64 0)] h) : bwp P C ref01_one.I (Code.at ref01_one.B [1, 0]) (ref01_one.q12 C Q) s h :=
  (by kernel_rfl : bwp P C ref01_one.I (Code.at ref01_one.B [1, 0]) (ref01_one.q12 C Q) s h = (0 < 1 ∧ B.mks h 1 (some [.bool false]) (.int .i64 4001) (.int .i64 4001) fun v10 h =>
    LoopR (ref01_one.l18 C N Q (s 0) (s 1) v10 (s 55)) [(.int .i64 0)] h)).mpr hR
theorem ref01_one.L25 {C : CSem} (hC : CMono C) (Q : AVal → AHeap → Prop) (s : Slots) (h : AHeap) (hR : 0 < 1 ∧ B.mks h 1 (some [.bool false]) (.int .i64 4001) (.int .i64 4001) fun v10 h =>
    LoopR (ref01_one.l18 C N Q (s 0) (s 1) v10 (s 55)) [(.int .i64 0)] h) : bwp P C ref01_one.I (Code.at ref01_one.B [1]) (retB P ref01_one.I ref01_one.R Q) s h :=
  seqB hC (by kernel_rfl : (Code.at ref01_one.B [1]) = .seq (Code.at ref01_one.B [1, 0]) (Code.at ref01_one.B [1, 1])) (fun s h hR => ref01_one.L23 hC Q s h hR) (ref01_one.L24 hC Q s h hR)
noncomputable def ref01_one.q13 (C : CSem) (Q : AVal → AHeap → Prop) : Ex → Slots → AHeap → Prop := Ex.then (fun s h => 0 < 1 ∧ B.mks h 1 (some [.bool false]) (.int .i64 4001) (.int .i64 4001) fun v10 h =>
    LoopR (ref01_one.l18 C N Q (s 0) (s 1) v10 (s 55)) [(.int .i64 0)] h) (retB P ref01_one.I ref01_one.R Q)
theorem ref01_one.L27 {C : CSem} (hC : CMono C) (Q : AVal → AHeap → Prop) (s : Slots) (h : AHeap) (hR : ref01_one.k26 C N Q (s 0) (s 1) h) : bwp P C ref01_one.I (Code.at ref01_one.B [0]) (ref01_one.q13 C Q) s h :=
  (by kernel_rfl : bwp P C ref01_one.I (Code.at ref01_one.B [0]) (ref01_one.q13 C Q) s h = (ref01_one.k26 C N Q (s 0) (s 1) h)).mpr hR
theorem ref01_one.L28 {C : CSem} (hC : CMono C) (Q : AVal → AHeap → Prop) (s : Slots) (h : AHeap) (hR : ref01_one.k26 C N Q (s 0) (s 1) h) : bwp P C ref01_one.I (Code.at ref01_one.B []) (retB P ref01_one.I ref01_one.R Q) s h :=
  seqB hC (by kernel_rfl : (Code.at ref01_one.B []) = .seq (Code.at ref01_one.B [0]) (Code.at ref01_one.B [1])) (fun s h hR => ref01_one.L25 hC Q s h hR) (ref01_one.L27 hC Q s h hR)
theorem ref01_one.ok {v0 v1 : AVal} {h : AHeap} {Q : AVal → AHeap → Prop} (hR : ref01_one.cps (AC P) N v0 v1 h Q) : AC P (N 17) [v0, v1] h Q :=
  AC_introB mixed (fn := Try.f24) (c := ref01_one.B) (by kernel_rfl) (by kernel_rfl) (callFunc_enter (fn := Try.f24) (by kernel_rfl) (by kernel_rfl) (by kernel_rfl)) (by kernel_rfl) (Nat.le_of_ble_eq_true (by kernel_rfl)) (Nat.le_of_ble_eq_true (by kernel_rfl)) (by kernel_rfl) (ref01_one.L28 (AC_cmono P) Q (startS [v0, v1]) h hR)
theorem ref01_one.imp : ref01_one.Imp (AC P) N := fun _ _ _ _ hR => AC_drop (ref01_one.ok hR)

def kit_markWindow.I : Bx := ⟨[4], [], 9, []⟩
noncomputable def kit_markWindow.B : Code := Try.f25.body.getD .skip
noncomputable def kit_markWindow.R : List ResultVar := Try.f25.results.toList
theorem kit_markWindow.L2 {C : CSem} (hC : CMono C) (Q : AVal → AHeap → Prop) (s : Slots) (h : AHeap) (hR : kit_markWindow.k1 C N Q (s 0) (s 1) h) : bwp P C kit_markWindow.I (Code.at kit_markWindow.B []) (retB P kit_markWindow.I kit_markWindow.R Q) s h :=
  (by kernel_rfl : bwp P C kit_markWindow.I (Code.at kit_markWindow.B []) (retB P kit_markWindow.I kit_markWindow.R Q) s h = (kit_markWindow.k1 C N Q (s 0) (s 1) h)).mpr hR
theorem kit_markWindow.ok {v0 v1 : AVal} {h : AHeap} {Q : AVal → AHeap → Prop} (hR : kit_markWindow.cps (AC P) N v0 v1 h Q) : AC P (N 18) [v0, v1] h Q :=
  AC_introB mixed (fn := Try.f25) (c := kit_markWindow.B) (by kernel_rfl) (by kernel_rfl) (callFunc_enter (fn := Try.f25) (by kernel_rfl) (by kernel_rfl) (by kernel_rfl)) (by kernel_rfl) (Nat.le_of_ble_eq_true (by kernel_rfl)) (Nat.le_of_ble_eq_true (by kernel_rfl)) (by kernel_rfl) (kit_markWindow.L2 (AC_cmono P) Q (startS [v0, v1]) h hR)
theorem kit_markWindow.imp : kit_markWindow.Imp (AC P) N := fun _ _ _ _ hR => AC_drop (kit_markWindow.ok hR)

def ref01_Of.I : Bx := ⟨[], [], 46, []⟩
noncomputable def ref01_Of.B : Code := Try.f26.body.getD .skip
noncomputable def ref01_Of.R : List ResultVar := Try.f26.results.toList
theorem ref01_Of.L1 {C : CSem} (hC : CMono C) (Q : AVal → AHeap → Prop) (s : Slots) (h : AHeap) (hR : Q (s 3) h) : bwp P C ref01_Of.I (Code.at ref01_Of.B [1, 1, 1]) (retB P ref01_Of.I ref01_Of.R Q) s h :=
  (by kernel_rfl : bwp P C ref01_Of.I (Code.at ref01_Of.B [1, 1, 1]) (retB P ref01_Of.I ref01_Of.R Q) s h = (Q (s 3) h)).mpr hR
noncomputable def ref01_Of.q1 (C : CSem) (Q : AVal → AHeap → Prop) : Ex → Slots → AHeap → Prop := Ex.then (fun s h => Q (s 3) h) (retB P ref01_Of.I ref01_Of.R Q)
noncomputable def ref01_Of.q2 (C : CSem) (Q : AVal → AHeap → Prop) : Ex → Slots → AHeap → Prop := Ex.inBlock 0 (ref01_Of.q1 C Q)
noncomputable def ref01_Of.q3 (C : CSem) (Q : AVal → AHeap → Prop) (Y1 : List AVal → AHeap → Prop) : Ex → Slots → AHeap → Prop := Ex.then (fun s h => Y1 [(s 3), (s 4)] h) (ref01_Of.q2 C Q)
theorem ref01_Of.L3 {C : CSem} (hC : CMono C) (Q : AVal → AHeap → Prop) (Y1 : List AVal → AHeap → Prop) (s : Slots) (h : AHeap) (hR : ref01_Of.k2 C N Q Y1 (s 0) (s 3) (s 4) h) : bwp P C ref01_Of.I (Code.at ref01_Of.B [1, 1, 0, 1, 0, 0]) (ref01_Of.q3 C Q Y1) s h :=
  (by kernel_rfl : bwp P C ref01_Of.I (Code.at ref01_Of.B [1, 1, 0, 1, 0, 0]) (ref01_Of.q3 C Q Y1) s h = (ref01_Of.k2 C N Q Y1 (s 0) (s 3) (s 4) h)).mpr hR
theorem ref01_Of.L5 {C : CSem} (hC : CMono C) (Q : AVal → AHeap → Prop) (s : Slots) (h : AHeap) (hR : LoopR (ref01_Of.l4 C N Q (s 0)) [(s 3), (s 4)] h) : bwp P C ref01_Of.I (Code.at ref01_Of.B [1, 1, 0, 1, 0]) (ref01_Of.q2 C Q) s h :=
  loopB hC [0] [3, 4] (G := (fun kv lv h Y1 => match kv with | [v0] => ref01_Of.l4 C N Q v0 lv h Y1 | _ => False)) (by kernel_rfl : (Code.at ref01_Of.B [1, 1, 0, 1, 0]) = .loop (Code.at ref01_Of.B [1, 1, 0, 1, 0, 0])) (by kernel_rfl) (fun Y1 s h hR => ref01_Of.L3 hC Q Y1 s h hR) hR
theorem ref01_Of.L6 {C : CSem} (hC : CMono C) (Q : AVal → AHeap → Prop) (s : Slots) (h : AHeap) (hR : LoopR (ref01_Of.l4 C N Q (s 0)) [(s 3), (s 4)] h) : bwp P C ref01_Of.I (Code.at ref01_Of.B [1, 1, 0, 1]) (ref01_Of.q1 C Q) s h :=
  blockB (by kernel_rfl : (Code.at ref01_Of.B [1, 1, 0, 1]) = .block 0 (Code.at ref01_Of.B [1, 1, 0, 1, 0])) (ref01_Of.L5 hC Q s h hR)
noncomputable def ref01_Of.q4 (C : CSem) (Q : AVal → AHeap → Prop) : Ex → Slots → AHeap → Prop := Ex.then (fun s h => LoopR (ref01_Of.l4 C N Q (s 0)) [(s 3), (s 4)] h) (ref01_Of.q1 C Q)
theorem ref01_Of.L7 {C : CSem} (hC : CMono C) (Q : AVal → AHeap → Prop) (s : Slots) (h : AHeap) (hR : LoopR (ref01_Of.l4 C N Q (s 0)) [(s 3), (.int .i64 0)] h) : bwp P C ref01_Of.I (Code.at ref01_Of.B [1, 1, 0, 0]) (ref01_Of.q4 C Q) s h :=
  (by kernel_rfl : bwp P C ref01_Of.I (Code.at ref01_Of.B [1, 1, 0, 0]) (ref01_Of.q4 C Q) s h = (LoopR (ref01_Of.l4 C N Q (s 0)) [(s 3), (.int .i64 0)] h)).mpr hR
theorem ref01_Of.L8 {C : CSem} (hC : CMono C) (Q : AVal → AHeap → Prop) (s : Slots) (h : AHeap) (hR : LoopR (ref01_Of.l4 C N Q (s 0)) [(s 3), (.int .i64 0)] h) : bwp P C ref01_Of.I (Code.at ref01_Of.B [1, 1, 0]) (ref01_Of.q1 C Q) s h :=
  seqB hC (by kernel_rfl : (Code.at ref01_Of.B [1, 1, 0]) = .seq (Code.at ref01_Of.B [1, 1, 0, 0]) (Code.at ref01_Of.B [1, 1, 0, 1])) (fun s h hR => ref01_Of.L6 hC Q s h hR) (ref01_Of.L7 hC Q s h hR)
theorem ref01_Of.L9 {C : CSem} (hC : CMono C) (Q : AVal → AHeap → Prop) (s : Slots) (h : AHeap) (hR : LoopR (ref01_Of.l4 C N Q (s 0)) [(s 3), (.int .i64 0)] h) : bwp P C ref01_Of.I (Code.at ref01_Of.B [1, 1]) (retB P ref01_Of.I ref01_Of.R Q) s h :=
  seqB hC (by kernel_rfl : (Code.at ref01_Of.B [1, 1]) = .seq (Code.at ref01_Of.B [1, 1, 0]) (Code.at ref01_Of.B [1, 1, 1])) (fun s h hR => ref01_Of.L1 hC Q s h hR) (ref01_Of.L8 hC Q s h hR)
noncomputable def ref01_Of.q5 (C : CSem) (Q : AVal → AHeap → Prop) : Ex → Slots → AHeap → Prop := Ex.then (fun s h => LoopR (ref01_Of.l4 C N Q (s 0)) [(s 3), (.int .i64 0)] h) (retB P ref01_Of.I ref01_Of.R Q)
theorem ref01_Of.L10 {C : CSem} (hC : CMono C) (Q : AVal → AHeap → Prop) (s : Slots) (h : AHeap) (hR : LoopR (ref01_Of.l4 C N Q (s 0)) [.nils, (.int .i64 0)] h) : bwp P C ref01_Of.I (Code.at ref01_Of.B [1, 0]) (ref01_Of.q5 C Q) s h :=
  (by kernel_rfl : bwp P C ref01_Of.I (Code.at ref01_Of.B [1, 0]) (ref01_Of.q5 C Q) s h = (LoopR (ref01_Of.l4 C N Q (s 0)) [.nils, (.int .i64 0)] h)).mpr hR
theorem ref01_Of.L11 {C : CSem} (hC : CMono C) (Q : AVal → AHeap → Prop) (s : Slots) (h : AHeap) (hR : LoopR (ref01_Of.l4 C N Q (s 0)) [.nils, (.int .i64 0)] h) : bwp P C ref01_Of.I (Code.at ref01_Of.B [1]) (retB P ref01_Of.I ref01_Of.R Q) s h :=
  seqB hC (by kernel_rfl : (Code.at ref01_Of.B [1]) = .seq (Code.at ref01_Of.B [1, 0]) (Code.at ref01_Of.B [1, 1])) (fun s h hR => ref01_Of.L9 hC Q s h hR) (ref01_Of.L10 hC Q s h hR)
noncomputable def ref01_Of.q6 (C : CSem) (Q : AVal → AHeap → Prop) : Ex → Slots → AHeap → Prop := Ex.then (fun s h => LoopR (ref01_Of.l4 C N Q (s 0)) [.nils, (.int .i64 0)] h) (retB P ref01_Of.I ref01_Of.R Q)
theorem ref01_Of.L12 {C : CSem} (hC : CMono C) (Q : AVal → AHeap → Prop) (s : Slots) (h : AHeap) (hR : LoopR (ref01_Of.l4 C N Q (s 0)) [.nils, (.int .i64 0)] h) : bwp P C ref01_Of.I (Code.at ref01_Of.B [0]) (ref01_Of.q6 C Q) s h :=
  (by kernel_rfl : bwp P C ref01_Of.I (Code.at ref01_Of.B [0]) (ref01_Of.q6 C Q) s h = (LoopR (ref01_Of.l4 C N Q (s 0)) [.nils, (.int .i64 0)] h)).mpr hR
theorem ref01_Of.L13 {C : CSem} (hC : CMono C) (Q : AVal → AHeap → Prop) (s : Slots) (h : AHeap) (hR : LoopR (ref01_Of.l4 C N Q (s 0)) [.nils, (.int .i64 0)] h) : bwp P C ref01_Of.I (Code.at ref01_Of.B []) (retB P ref01_Of.I ref01_Of.R Q) s h :=
  seqB hC (by kernel_rfl : (Code.at ref01_Of.B []) = .seq (Code.at ref01_Of.B [0]) (Code.at ref01_Of.B [1])) (fun s h hR => ref01_Of.L11 hC Q s h hR) (ref01_Of.L12 hC Q s h hR)
theorem ref01_Of.ok {v0 : AVal} {h : AHeap} {Q : AVal → AHeap → Prop} (hR : ref01_Of.cps (AC P) N v0 h Q) : AC P (N 19) [v0] h Q :=
  AC_introB mixed (fn := Try.f26) (c := ref01_Of.B) (by kernel_rfl) (by kernel_rfl) (callFunc_enter (fn := Try.f26) (by kernel_rfl) (by kernel_rfl) (by kernel_rfl)) (by kernel_rfl) (Nat.le_of_ble_eq_true (by kernel_rfl)) (Nat.le_of_ble_eq_true (by kernel_rfl)) (by kernel_rfl) (ref01_Of.L13 (AC_cmono P) Q (startS [v0]) h hR)
theorem ref01_Of.imp : ref01_Of.Imp (AC P) N := fun _ _ _ hR => AC_drop (ref01_Of.ok hR)

def kit_mark.I : Bx := ⟨[], [], 10, []⟩
noncomputable def kit_mark.B : Code := Try.f27.body.getD .skip
noncomputable def kit_mark.R : List ResultVar := Try.f27.results.toList
theorem kit_mark.L1 {C : CSem} (hC : CMono C) (Q : AVal → AHeap → Prop) (s : Slots) (h : AHeap) (hR : B.pv (V.bin .add (s 0) (.int .i64 7)) fun v6 =>
    B.pv (V.bin .mul (.int .i64 1000003) v6) fun v7 =>
    B.pv (V.bin .add v7 (s 1)) fun v9 =>
    Q v9 h) : bwp P C kit_mark.I (Code.at kit_mark.B []) (retB P kit_mark.I kit_mark.R Q) s h :=
  (by kernel_rfl : bwp P C kit_mark.I (Code.at kit_mark.B []) (retB P kit_mark.I kit_mark.R Q) s h = (B.pv (V.bin .add (s 0) (.int .i64 7)) fun v6 =>
    B.pv (V.bin .mul (.int .i64 1000003) v6) fun v7 =>
    B.pv (V.bin .add v7 (s 1)) fun v9 =>
    Q v9 h)).mpr hR
theorem kit_mark.ok {v0 v1 : AVal} {h : AHeap} {Q : AVal → AHeap → Prop} (hR : kit_mark.cps (AC P) N v0 v1 h Q) : AC P (N 20) [v0, v1] h Q :=
  AC_introB mixed (fn := Try.f27) (c := kit_mark.B) (by kernel_rfl) (by kernel_rfl) (callFunc_enter (fn := Try.f27) (by kernel_rfl) (by kernel_rfl) (by kernel_rfl)) (by kernel_rfl) (Nat.le_of_ble_eq_true (by kernel_rfl)) (Nat.le_of_ble_eq_true (by kernel_rfl)) (by kernel_rfl) (kit_mark.L1 (AC_cmono P) Q (startS [v0, v1]) h hR)
theorem kit_mark.imp : kit_mark.Imp (AC P) N := fun _ _ _ _ hR => AC_drop (kit_mark.ok hR)

end Go.Ab.S01
