/- What is proved: a part of the way to the statement; each part is headed by what it proves. No conditions. -/
import Derived.Test.YtdbdgaopmbljcaaRows
import Derived.Test.YtdbdgaopmbljcaaQ6
import Derived.Lib.Bytealg
import Derived.Test.YtdbdgaopmbljcaaQ3

/- What is proved: each function of this program does what its residual tells. -/
set_option linter.unusedVariables false
set_option maxRecDepth 100000
namespace Go.Ab.S17
open Go.Ab Go.Proofs

noncomputable abbrev P : Program := Try.prog
def N (k : Nat) : Nat := [0, 0, 0, 0, 0, 0, 0, 0, 0, 0, 0, 0, 0, 0, 0, 0, 0, 0, 0, 0, 48, 0, 0, 0, 0, 0, 0, 0, 0, 0, 0, 0, 0, 0, 42, 0, 0, 40, 0, 45, 0, 0, 0, 0, 0, 0, 0, 0, 0, 0, 0, 0, 0, 0, 0, 0, 0, 0, 0, 0, 0, 0, 0, 0, 41, 0, 0, 0, 0, 0, 0, 0, 0, 0, 0, 0, 0, 0, 0, 0, 0, 0, 0, 0, 0, 0, 0, 0, 0, 0, 0, 0, 0, 0, 0, 0, 0, 0, 0, 0, 0, 0, 0, 0, 0, 0, 0, 0, 0, 0, 0, 0, 0, 0, 0, 0, 0, 22, 33, 35, 23, 0, 0, 0, 0, 0, 0, 0, 0, 0, 0, 0, 0, 0, 0, 0, 0, 0, 0, 0, 0, 0, 0, 0, 0, 0, 0, 0, 0, 0, 0, 0, 0, 0, 0, 0, 0, 0, 0, 0, 0, 0, 0, 0, 0, 0, 0, 0, 0, 0, 0, 0, 0, 0, 0, 0, 0, 0, 0, 0, 0, 0, 0, 0, 0, 0, 0, 0, 0, 0, 0, 0, 0, 0, 0, 0, 0, 0, 0, 0, 0, 0, 0, 0, 0, 0, 0, 0, 0, 0, 0, 0, 0, 0, 0, 0, 0, 0, 0, 0, 0, 0, 0, 0, 0, 0, 0, 0, 0, 0, 0, 0, 0, 0, 0, 0, 0, 0, 0, 0, 0, 0, 0, 0, 0, 0, 0, 0, 0, 0, 0, 0, 0, 6, 7, 9, 10, 8, 11, 3, 12, 13, 14, 15, 16, 17, 18, 4, 19, 5, 20, 21, 26, 27, 25, 24, 30, 31, 29, 28, 32, 34, 38, 37, 36, 39, 44, 47, 46, 55, 56, 54, 53, 52, 51, 50, 49, 59, 61, 60, 63, 62, 64, 43, 57, 58].getD k 0
theorem mixed : P.follows .mixedOrders = true := by kernel_rfl

def law17_DeltaTells.I : Bx := ⟨[], [], 36, []⟩
theorem law17_DeltaTells.L {C : CSem} (hC : CMono C) (Q : AVal → AHeap → Prop) (s : Slots) (h : AHeap) (hR : law17_DeltaTells.cps C N (s 0) (s 1) h Q) : bwp P C law17_DeltaTells.I (Try.f3.body.getD .skip) (retB P law17_DeltaTells.I Try.f3.results.toList Q) s h :=
  e1 hR
theorem law17_DeltaTells.imp : law17_DeltaTells.Imp (AC P) N := fun v0 v1 h Q hR => eF mixed (fn := Try.f3) (fun hC => law17_DeltaTells.L hC (dn Q) (startS [v0, v1]) h hR)

def law17_DeltaApplies.I : Bx := ⟨[], [], 62, []⟩
theorem law17_DeltaApplies.L {C : CSem} (hC : CMono C) (Q : AVal → AHeap → Prop) (s : Slots) (h : AHeap) (hR : law17_DeltaApplies.cps C N (s 0) (s 1) h Q) : bwp P C law17_DeltaApplies.I (Try.f4.body.getD .skip) (retB P law17_DeltaApplies.I Try.f4.results.toList Q) s h :=
  e1 hR
theorem law17_DeltaApplies.imp : law17_DeltaApplies.Imp (AC P) N := fun v0 v1 h Q hR => eF mixed (fn := Try.f4) (fun hC => law17_DeltaApplies.L hC (dn Q) (startS [v0, v1]) h hR)

def law17_DeltaBack.I : Bx := ⟨[], [], 109, []⟩
theorem law17_DeltaBack.L {C : CSem} (hC : CMono C) (Q : AVal → AHeap → Prop) (s : Slots) (h : AHeap) (hR : law17_DeltaBack.cps C N (s 0) (s 1) (s 2) h Q) : bwp P C law17_DeltaBack.I (Try.f5.body.getD .skip) (retB P law17_DeltaBack.I Try.f5.results.toList Q) s h :=
  e1 hR
theorem law17_DeltaBack.imp : law17_DeltaBack.Imp (AC P) N := fun v0 v1 v2 h Q hR => eF mixed (fn := Try.f5) (fun hC => law17_DeltaBack.L hC (dn Q) (startS [v0, v1, v2]) h hR)

def law17_awake.I : Bx := ⟨[], [], 49, []⟩
theorem law17_awake.L {C : CSem} (hC : CMono C) (Q : AVal → AHeap → Prop) (s : Slots) (h : AHeap) (hR : law17_awake.cps C N h Q) : bwp P C law17_awake.I (Try.f6.body.getD .skip) (retB P law17_awake.I Try.f6.results.toList Q) s h :=
  e1 hR
theorem law17_awake.imp : law17_awake.Imp (AC P) N := fun h Q hR => eF mixed (fn := Try.f6) (fun hC => law17_awake.L hC (dn Q) (startS []) h hR)

def kit_LentRows.I : Bx := ⟨[5], [], 39, []⟩
theorem kit_LentRows.L {C : CSem} (hC : CMono C) (Q : AVal → AHeap → Prop) (s : Slots) (h : AHeap) (hR : kit_LentRows.cps C N (s 0) h Q) : bwp P C kit_LentRows.I (Try.f7.body.getD .skip) (retB P kit_LentRows.I Try.f7.results.toList Q) s h :=
  eS hC (fun s h => kit_LentRows.k5 C N Q (s 0) h) (e1 hR) (fun s h hR => eS hC (fun s h => LoopR (kit_LentRows.l4 C N Q (s 0)) [(s 3), (.int .i64 0)] h) (e1 hR) (fun s h hR => eS hC (fun s h => LoopR (kit_LentRows.l2 C N Q (s 0)) [(s 3), (.int .i64 0)] h) (eS hC (fun s h => LoopR (kit_LentRows.l4 C N Q (s 0)) [(s 3), (s 4)] h) (e1 hR) (fun s h hR => eK (eL hC [0] [3, 4] (fun kv lv h Y2 => match kv with | [v0] => kit_LentRows.l4 C N Q v0 lv h Y2 | _ => False) hR (fun Y2 s h hR => e1 hR)))) (fun s h hR => eS hC (fun s h => B.pv (V.lenSl (s 0)) fun v37 =>
    B.pv (V.cutSl 2 (s 3) none (some v37)) fun v38 =>
    Q v38 h) (eS hC (fun s h => LoopR (kit_LentRows.l2 C N Q (s 0)) [(s 3), (s 6)] h) (e1 hR) (fun s h hR => eK (eL hC [0] [3, 6] (fun kv lv h Y1 => match kv with | [v0] => kit_LentRows.l2 C N Q v0 lv h Y1 | _ => False) hR (fun Y1 s h hR => e1 hR)))) (fun s h hR => e1 hR))))
theorem kit_LentRows.imp : kit_LentRows.Imp (AC P) N := fun v0 h Q hR => eF mixed (fn := Try.f7) (fun hC => kit_LentRows.L hC (dn Q) (startS [v0]) h hR)

def kit_SameTurns.I : Bx := ⟨[], [], 27, [(6, [(0, []), (1, []), (2, []), (3, []), (4, []), (5, []), (6, []), (7, []), (8, []), (9, [])])]⟩
theorem kit_SameTurns.L {C : CSem} (hC : CMono C) (Q : AVal → AHeap → Prop) (s : Slots) (h : AHeap) (hR : kit_SameTurns.cps C N (s 0) (s 1) h Q) : bwp P C kit_SameTurns.I (Try.f8.body.getD .skip) (retB P kit_SameTurns.I Try.f8.results.toList Q) s h :=
  eS hC (fun s h => kit_SameTurns.k3 C N Q (s 0) (s 1) h) (e1 hR) (fun s h hR => eS hC (fun s h => LoopR (kit_SameTurns.l2 C N Q (s 0) (s 1)) [(.int .i64 0)] h) (e1 hR) (fun s h hR => eS hC (fun s h => Q (.bool true) h) (eS hC (fun s h => LoopR (kit_SameTurns.l2 C N Q (s 0) (s 1)) [(s 5)] h) (e1 hR) (fun s h hR => eK (eL hC [0, 1] [5] (fun kv lv h Y1 => match kv with | [v0, v1] => kit_SameTurns.l2 C N Q v0 v1 lv h Y1 | _ => False) hR (fun Y1 s h hR => e1 hR)))) (fun s h hR => e1 hR)))
theorem kit_SameTurns.imp : kit_SameTurns.Imp (AC P) N := fun v0 v1 h Q hR => eF mixed (fn := Try.f8) (fun hC => kit_SameTurns.L hC (dn Q) (startS [v0, v1]) h hR)

def delta_Turns.I : Bx := ⟨[], [], 106, [(6, [(0, []), (1, []), (2, []), (3, []), (4, []), (5, []), (6, []), (7, []), (8, []), (9, [])]), (12, [(0, []), (1, []), (2, []), (3, []), (4, []), (5, []), (6, []), (7, []), (8, []), (9, []), (10, []), (11, []), (12, [])]), (15, [(0, []), (1, []), (2, []), (3, []), (4, []), (5, []), (6, []), (7, []), (8, []), (9, []), (10, []), (11, []), (12, [])]), (16, [(0, []), (1, []), (2, []), (3, []), (4, []), (5, []), (6, []), (7, []), (8, []), (9, []), (10, [])]), (17, [(0, []), (1, []), (2, []), (3, []), (4, []), (5, []), (6, []), (7, []), (8, []), (9, []), (10, []), (11, []), (12, []), (13, []), (14, []), (15, []), (16, [])])]⟩
theorem delta_Turns.L {C : CSem} (hC : CMono C) (Q : AVal → AHeap → Prop) (s : Slots) (h : AHeap) (hR : delta_Turns.cps C N (s 0) (s 1) h Q) : bwp P C delta_Turns.I (Try.f9.body.getD .skip) (retB P delta_Turns.I Try.f9.results.toList Q) s h :=
  eS hC (fun s h => delta_Turns.k6 C N Q (s 0) (s 1) h) (e1 hR) (fun s h hR => eO (eS hC (fun s h => LoopR (delta_Turns.l5 C N Q) [(s 0), (s 1), .nils] h) (e1 hR) (fun s h hR => eS hC (fun s h => LoopR (delta_Turns.l5 C N Q) [(s 0), (s 1), (s 5)] h) (e1 hR) (fun s h hR => eS hC (fun s h => LoopR (delta_Turns.l5 C N Q) [(s 0), (s 1), (s 5)] h) (e1 hR) (fun s h hR => eS hC (fun s h => Q (s 5) h) (eK (eL hC [] [0, 1, 5] (fun kv lv h Y1 => match kv with | [] => delta_Turns.l5 C N Q lv h Y1 | _ => False) hR (fun Y1 s h hR => eS hC (fun s h => delta_Turns.k3 C N Q Y1 (s 0) (s 1) (s 5) h) (e1 hR) (fun s h hR => eK (eS hC (fun s h => delta_Turns.k3 C N Q Y1 (s 0) (s 1) (s 5) h) (e1 hR) (fun s h hR => eS hC (fun s h => delta_Turns.k2 C N Q Y1 (s 0) (s 1) (s 5) (s 6) h) (e1 hR) (fun s h hR => eS hC (fun s h => delta_Turns.k1 C N Q Y1 (s 0) (s 1) (s 5) (s 6) h) (e1 hR) (fun s h hR => e1 hR)))))))) (fun s h hR => e1 hR))))))
theorem delta_Turns.imp : delta_Turns.Imp (AC P) N := fun v0 v1 h Q hR => eF mixed (fn := Try.f9) (fun hC => delta_Turns.L hC (dn Q) (startS [v0, v1]) h hR)

def ref17_Turns.I : Bx := ⟨[], [], 84, [(16, [(0, []), (1, []), (2, []), (3, []), (4, []), (5, []), (7, []), (8, []), (9, []), (10, []), (11, []), (12, []), (6, [12]), (13, []), (14, []), (15, [])])]⟩
theorem ref17_Turns.L {C : CSem} (hC : CMono C) (Q : AVal → AHeap → Prop) (s : Slots) (h : AHeap) (hR : ref17_Turns.cps C N (s 0) (s 1) h Q) : bwp P C ref17_Turns.I (Try.f10.body.getD .skip) (retB P ref17_Turns.I Try.f10.results.toList Q) s h :=
  eS hC (fun s h => ref17_Turns.k7 C N Q (s 0) (s 1) h) (e1 hR) (fun s h hR => eS hC (fun s h => LoopR (ref17_Turns.l6 C N Q (s 0) (s 1)) [.nils, (.int .i64 0)] h) (e1 hR) (fun s h hR => eS hC (fun s h => LoopR (ref17_Turns.l6 C N Q (s 0) (s 1)) [(s 5), (.int .i64 0)] h) (e1 hR) (fun s h hR => eS hC (fun s h => LoopR (ref17_Turns.l4 C N Q (s 0) (s 1)) [(s 5), (.int .i64 0)] h) (eS hC (fun s h => LoopR (ref17_Turns.l6 C N Q (s 0) (s 1)) [(s 5), (s 6)] h) (e1 hR) (fun s h hR => eK (eL hC [0, 1] [5, 6] (fun kv lv h Y3 => match kv with | [v0, v1] => ref17_Turns.l6 C N Q v0 v1 lv h Y3 | _ => False) hR (fun Y3 s h hR => e1 hR)))) (fun s h hR => eS hC (fun s h => LoopR (ref17_Turns.l2 C N Q (s 0) (s 1) (s 5)) [.nils, (.int .i64 0)] h) (eS hC (fun s h => LoopR (ref17_Turns.l4 C N Q (s 0) (s 1)) [(s 5), (s 7)] h) (e1 hR) (fun s h hR => eK (eL hC [0, 1] [5, 7] (fun kv lv h Y2 => match kv with | [v0, v1] => ref17_Turns.l4 C N Q v0 v1 lv h Y2 | _ => False) hR (fun Y2 s h hR => e1 hR)))) (fun s h hR => eS hC (fun s h => LoopR (ref17_Turns.l2 C N Q (s 0) (s 1) (s 5)) [(s 8), (.int .i64 0)] h) (e1 hR) (fun s h hR => eS hC (fun s h => Q (s 8) h) (eS hC (fun s h => LoopR (ref17_Turns.l2 C N Q (s 0) (s 1) (s 5)) [(s 8), (s 9)] h) (e1 hR) (fun s h hR => eK (eL hC [0, 1, 5] [8, 9] (fun kv lv h Y1 => match kv with | [v0, v1, v5] => ref17_Turns.l2 C N Q v0 v1 v5 lv h Y1 | _ => False) hR (fun Y1 s h hR => e1 hR)))) (fun s h hR => e1 hR)))))))
theorem ref17_Turns.imp : ref17_Turns.Imp (AC P) N := fun v0 v1 h Q hR => eF mixed (fn := Try.f10) (fun hC => ref17_Turns.L hC (dn Q) (startS [v0, v1]) h hR)

def kit_KeptRows.I : Bx := ⟨[], [], 58, [(7, [(0, []), (1, []), (2, []), (3, []), (4, []), (5, []), (6, []), (7, []), (8, []), (9, []), (10, []), (11, []), (12, []), (13, []), (14, []), (15, []), (16, []), (17, []), (18, []), (19, []), (20, []), (21, []), (22, []), (23, []), (24, []), (25, []), (26, []), (27, []), (28, []), (29, []), (30, [25]), (31, []), (32, []), (33, []), (34, [])])]⟩
theorem kit_KeptRows.L {C : CSem} (hC : CMono C) (Q : AVal → AHeap → Prop) (s : Slots) (h : AHeap) (hR : kit_KeptRows.cps C N (s 0) (s 1) h Q) : bwp P C kit_KeptRows.I (Try.f11.body.getD .skip) (retB P kit_KeptRows.I Try.f11.results.toList Q) s h :=
  eS hC (fun s h => kit_KeptRows.k4 C N Q (s 0) (s 1) h) (e1 hR) (fun s h hR => eS hC (fun s h => kit_KeptRows.k3 C N Q (s 0) (s 1) h) (e1 hR) (fun s h hR => eS hC (fun s h => LoopR (kit_KeptRows.l2 C N Q (s 1) (s 5)) [(.int .i64 0)] h) (e1 hR) (fun s h hR => eS hC (fun s h => Q (.bool true) h) (eS hC (fun s h => LoopR (kit_KeptRows.l2 C N Q (s 1) (s 5)) [(s 6)] h) (e1 hR) (fun s h hR => eK (eL hC [1, 5] [6] (fun kv lv h Y1 => match kv with | [v1, v5] => kit_KeptRows.l2 C N Q v1 v5 lv h Y1 | _ => False) hR (fun Y1 s h hR => e1 hR)))) (fun s h hR => e1 hR))))
theorem kit_KeptRows.imp : kit_KeptRows.Imp (AC P) N := fun v0 v1 h Q hR => eF mixed (fn := Try.f11) (fun hC => kit_KeptRows.L hC (dn Q) (startS [v0, v1]) h hR)

def kit_LentTurns.I : Bx := ⟨[5], [], 39, []⟩
theorem kit_LentTurns.L {C : CSem} (hC : CMono C) (Q : AVal → AHeap → Prop) (s : Slots) (h : AHeap) (hR : kit_LentTurns.cps C N (s 0) h Q) : bwp P C kit_LentTurns.I (Try.f12.body.getD .skip) (retB P kit_LentTurns.I Try.f12.results.toList Q) s h :=
  eS hC (fun s h => kit_LentTurns.k5 C N Q (s 0) h) (e1 hR) (fun s h hR => eS hC (fun s h => LoopR (kit_LentTurns.l4 C N Q (s 0)) [(s 3), (.int .i64 0)] h) (e1 hR) (fun s h hR => eS hC (fun s h => LoopR (kit_LentTurns.l2 C N Q (s 0)) [(s 3), (.int .i64 0)] h) (eS hC (fun s h => LoopR (kit_LentTurns.l4 C N Q (s 0)) [(s 3), (s 4)] h) (e1 hR) (fun s h hR => eK (eL hC [0] [3, 4] (fun kv lv h Y2 => match kv with | [v0] => kit_LentTurns.l4 C N Q v0 lv h Y2 | _ => False) hR (fun Y2 s h hR => e1 hR)))) (fun s h hR => eS hC (fun s h => B.pv (V.lenSl (s 0)) fun v37 =>
    B.pv (V.cutSl 3 (s 3) none (some v37)) fun v38 =>
    Q v38 h) (eS hC (fun s h => LoopR (kit_LentTurns.l2 C N Q (s 0)) [(s 3), (s 6)] h) (e1 hR) (fun s h hR => eK (eL hC [0] [3, 6] (fun kv lv h Y1 => match kv with | [v0] => kit_LentTurns.l2 C N Q v0 lv h Y1 | _ => False) hR (fun Y1 s h hR => e1 hR)))) (fun s h hR => e1 hR))))
theorem kit_LentTurns.imp : kit_LentTurns.Imp (AC P) N := fun v0 h Q hR => eF mixed (fn := Try.f12) (fun hC => kit_LentTurns.L hC (dn Q) (startS [v0]) h hR)

def delta_Apply.I : Bx := ⟨[8, 10], [26, 29, 38, 47, 54, 56], 81, []⟩
theorem delta_Apply.L {C : CSem} (hC : CMono C) (Q : AVal → AHeap → Prop) (s : Slots) (h : AHeap) (hR : delta_Apply.cps C N (s 0) (s 1) h Q) : bwp P C delta_Apply.I (Try.f13.body.getD .skip) (retB P delta_Apply.I Try.f13.results.toList Q) s h :=
  eS hC (fun s h => delta_Apply.k7 C N Q (s 0) (s 1) h) (e1 hR) (fun s h hR => eS hC (fun s h => B.newMap h fun v18 h =>
    B.pv (V.lenSl (s 0)) fun v20 =>
    LoopR (delta_Apply.l6 C N Q (s 1) v18 (s 0) v20) [(.int .i64 0)] h) (e1 hR) (fun s h hR => eS hC (fun s h => B.pv (V.lenSl (s 0)) fun v20 =>
    LoopR (delta_Apply.l6 C N Q (s 1) (s 6) (s 0) v20) [(.int .i64 0)] h) (e1 hR) (fun s h hR => eS hC (fun s h => B.pv (V.lenSl (s 1)) fun v33 =>
    LoopR (delta_Apply.l4 C N Q (s 6) (s 1) v33) [(.int .i64 0)] h) (eS hC (fun s h => LoopR (delta_Apply.l6 C N Q (s 1) (s 6) (s 19) (s 20)) [(s 21)] h) (e1 hR) (fun s h hR => eK (eL hC [1, 6, 19, 20] [21] (fun kv lv h Y3 => match kv with | [v1, v6, v19, v20] => delta_Apply.l6 C N Q v1 v6 v19 v20 lv h Y3 | _ => False) hR (fun Y3 s h hR => e1 hR)))) (fun s h hR => eS hC (fun s h => B.rangeMap h (s 6) fun v64 h =>
    LoopR (delta_Apply.l2 C N Q v64) [.nils] h) (eS hC (fun s h => LoopR (delta_Apply.l4 C N Q (s 6) (s 32) (s 33)) [(s 34)] h) (e1 hR) (fun s h hR => eK (eL hC [6, 32, 33] [34] (fun kv lv h Y2 => match kv with | [v6, v32, v33] => delta_Apply.l4 C N Q v6 v32 v33 lv h Y2 | _ => False) hR (fun Y2 s h hR => e1 hR)))) (fun s h hR => eS hC (fun s h => B.rangeMap h (s 6) fun v64 h =>
    LoopR (delta_Apply.l2 C N Q v64) [(s 12)] h) (e1 hR) (fun s h hR => eS hC (fun s h => B.call C (N 283) [(s 12), (.fn (N 282) [] [])] h fun v79 h =>
    Q (.tup [(s 12), (.bool true)]) h) (eS hC (fun s h => LoopR (delta_Apply.l2 C N Q (s 64)) [(s 12)] h) (e1 hR) (fun s h hR => eK (eL hC [64] [12] (fun kv lv h Y1 => match kv with | [v64] => delta_Apply.l2 C N Q v64 lv h Y1 | _ => False) hR (fun Y1 s h hR => e1 hR)))) (fun s h hR => e1 hR)))))))
theorem delta_Apply.imp : delta_Apply.Imp (AC P) N := fun v0 v1 h Q hR => eF mixed (fn := Try.f13) (fun hC => delta_Apply.L hC (dn Q) (startS [v0, v1]) h hR)

def ref17_Apply.I : Bx := ⟨[], [], 56, [(7, [(0, []), (1, []), (2, []), (3, []), (4, []), (5, []), (6, []), (7, []), (8, []), (9, []), (10, []), (11, []), (12, []), (13, []), (15, []), (16, []), (17, []), (18, []), (19, []), (14, [19]), (20, []), (21, []), (22, [])]), (9, [(0, []), (1, []), (2, []), (3, []), (4, []), (5, []), (6, []), (7, []), (8, []), (9, []), (10, []), (11, []), (12, [])])]⟩
theorem ref17_Apply.L {C : CSem} (hC : CMono C) (Q : AVal → AHeap → Prop) (s : Slots) (h : AHeap) (hR : ref17_Apply.cps C N (s 0) (s 1) h Q) : bwp P C ref17_Apply.I (Try.f14.body.getD .skip) (retB P ref17_Apply.I Try.f14.results.toList Q) s h :=
  eS hC (fun s h => ref17_Apply.k3 C N Q (s 0) (s 1) h) (e1 hR) (fun s h hR => eS hC (fun s h => B.appW h 2 48 .sz (s 0) fun v13 h =>
    LoopR (ref17_Apply.l2 C N Q (s 1)) [v13, (.int .i64 0)] h) (e1 hR) (fun s h hR => eS hC (fun s h => LoopR (ref17_Apply.l2 C N Q (s 1)) [(s 6), (.int .i64 0)] h) (e1 hR) (fun s h hR => eS hC (fun s h => Q (.tup [(s 6), (.bool true)]) h) (eS hC (fun s h => LoopR (ref17_Apply.l2 C N Q (s 1)) [(s 6), (s 7)] h) (e1 hR) (fun s h hR => eK (eL hC [1] [6, 7] (fun kv lv h Y1 => match kv with | [v1] => ref17_Apply.l2 C N Q v1 lv h Y1 | _ => False) hR (fun Y1 s h hR => e1 hR)))) (fun s h hR => e1 hR))))
theorem ref17_Apply.imp : ref17_Apply.Imp (AC P) N := fun v0 v1 h Q hR => eF mixed (fn := Try.f14) (fun hC => ref17_Apply.L hC (dn Q) (startS [v0, v1]) h hR)

def kit_SameRows.I : Bx := ⟨[], [], 27, [(6, [(0, []), (1, []), (2, []), (3, []), (4, []), (5, []), (6, []), (7, []), (8, []), (9, [])])]⟩
theorem kit_SameRows.L {C : CSem} (hC : CMono C) (Q : AVal → AHeap → Prop) (s : Slots) (h : AHeap) (hR : kit_SameRows.cps C N (s 0) (s 1) h Q) : bwp P C kit_SameRows.I (Try.f15.body.getD .skip) (retB P kit_SameRows.I Try.f15.results.toList Q) s h :=
  eS hC (fun s h => kit_SameRows.k3 C N Q (s 0) (s 1) h) (e1 hR) (fun s h hR => eS hC (fun s h => LoopR (kit_SameRows.l2 C N Q (s 0) (s 1)) [(.int .i64 0)] h) (e1 hR) (fun s h hR => eS hC (fun s h => Q (.bool true) h) (eS hC (fun s h => LoopR (kit_SameRows.l2 C N Q (s 0) (s 1)) [(s 5)] h) (e1 hR) (fun s h hR => eK (eL hC [0, 1] [5] (fun kv lv h Y1 => match kv with | [v0, v1] => kit_SameRows.l2 C N Q v0 v1 lv h Y1 | _ => False) hR (fun Y1 s h hR => e1 hR)))) (fun s h hR => e1 hR)))
theorem kit_SameRows.imp : kit_SameRows.Imp (AC P) N := fun v0 v1 h Q hR => eF mixed (fn := Try.f15) (fun hC => kit_SameRows.L hC (dn Q) (startS [v0, v1]) h hR)

def delta_Back.I : Bx := ⟨[], [], 32, [(5, [(0, []), (1, []), (2, []), (3, []), (4, []), (5, []), (6, []), (7, []), (8, []), (9, []), (10, []), (11, []), (12, []), (13, []), (14, []), (15, []), (16, []), (17, []), (18, []), (19, [])])]⟩
theorem delta_Back.L {C : CSem} (hC : CMono C) (Q : AVal → AHeap → Prop) (s : Slots) (h : AHeap) (hR : delta_Back.cps C N (s 0) h Q) : bwp P C delta_Back.I (Try.f16.body.getD .skip) (retB P delta_Back.I Try.f16.results.toList Q) s h :=
  eS hC (fun s h => B.pv (V.lenSl (s 0)) fun v6 =>
    B.pv (V.bin .sub v6 (.int .i64 1)) fun v7 =>
    LoopR (delta_Back.l2 C N Q (s 0)) [.nils, v7] h) (e1 hR) (fun s h hR => eS hC (fun s h => B.pv (V.lenSl (s 0)) fun v6 =>
    B.pv (V.bin .sub v6 (.int .i64 1)) fun v7 =>
    LoopR (delta_Back.l2 C N Q (s 0)) [(s 3), v7] h) (e1 hR) (fun s h hR => eS hC (fun s h => Q (s 3) h) (eS hC (fun s h => LoopR (delta_Back.l2 C N Q (s 0)) [(s 3), (s 4)] h) (e1 hR) (fun s h hR => eK (eL hC [0] [3, 4] (fun kv lv h Y1 => match kv with | [v0] => delta_Back.l2 C N Q v0 lv h Y1 | _ => False) hR (fun Y1 s h hR => e1 hR)))) (fun s h hR => e1 hR)))
theorem delta_Back.imp : delta_Back.Imp (AC P) N := fun v0 h Q hR => eF mixed (fn := Try.f16) (fun hC => delta_Back.L hC (dn Q) (startS [v0]) h hR)

def ref17_Back.I : Bx := ⟨[], [], 32, [(5, [(0, []), (1, []), (2, []), (3, []), (4, []), (5, []), (6, []), (7, []), (8, []), (9, []), (10, []), (11, []), (12, []), (13, []), (14, []), (15, []), (16, []), (17, []), (18, []), (19, [])])]⟩
theorem ref17_Back.L {C : CSem} (hC : CMono C) (Q : AVal → AHeap → Prop) (s : Slots) (h : AHeap) (hR : ref17_Back.cps C N (s 0) h Q) : bwp P C ref17_Back.I (Try.f17.body.getD .skip) (retB P ref17_Back.I Try.f17.results.toList Q) s h :=
  eS hC (fun s h => B.pv (V.lenSl (s 0)) fun v6 =>
    B.pv (V.bin .sub v6 (.int .i64 1)) fun v7 =>
    LoopR (ref17_Back.l2 C N Q (s 0)) [.nils, v7] h) (e1 hR) (fun s h hR => eS hC (fun s h => B.pv (V.lenSl (s 0)) fun v6 =>
    B.pv (V.bin .sub v6 (.int .i64 1)) fun v7 =>
    LoopR (ref17_Back.l2 C N Q (s 0)) [(s 3), v7] h) (e1 hR) (fun s h hR => eS hC (fun s h => Q (s 3) h) (eS hC (fun s h => LoopR (ref17_Back.l2 C N Q (s 0)) [(s 3), (s 4)] h) (e1 hR) (fun s h hR => eK (eL hC [0] [3, 4] (fun kv lv h Y1 => match kv with | [v0] => ref17_Back.l2 C N Q v0 lv h Y1 | _ => False) hR (fun Y1 s h hR => e1 hR)))) (fun s h hR => e1 hR)))
theorem ref17_Back.imp : ref17_Back.Imp (AC P) N := fun v0 h Q hR => eF mixed (fn := Try.f17) (fun hC => ref17_Back.L hC (dn Q) (startS [v0]) h hR)

def kit_KeptTurns.I : Bx := ⟨[], [], 58, [(7, [(0, []), (1, []), (2, []), (3, []), (4, []), (5, []), (6, []), (7, []), (8, []), (9, []), (10, []), (11, []), (12, []), (13, []), (14, []), (15, []), (16, []), (17, []), (18, []), (19, []), (20, []), (21, []), (22, []), (23, []), (24, []), (25, []), (26, []), (27, []), (28, []), (29, []), (30, [25]), (31, []), (32, []), (33, []), (34, [])])]⟩
theorem kit_KeptTurns.L {C : CSem} (hC : CMono C) (Q : AVal → AHeap → Prop) (s : Slots) (h : AHeap) (hR : kit_KeptTurns.cps C N (s 0) (s 1) h Q) : bwp P C kit_KeptTurns.I (Try.f18.body.getD .skip) (retB P kit_KeptTurns.I Try.f18.results.toList Q) s h :=
  eS hC (fun s h => kit_KeptTurns.k4 C N Q (s 0) (s 1) h) (e1 hR) (fun s h hR => eS hC (fun s h => kit_KeptTurns.k3 C N Q (s 0) (s 1) h) (e1 hR) (fun s h hR => eS hC (fun s h => LoopR (kit_KeptTurns.l2 C N Q (s 1) (s 5)) [(.int .i64 0)] h) (e1 hR) (fun s h hR => eS hC (fun s h => Q (.bool true) h) (eS hC (fun s h => LoopR (kit_KeptTurns.l2 C N Q (s 1) (s 5)) [(s 6)] h) (e1 hR) (fun s h hR => eK (eL hC [1, 5] [6] (fun kv lv h Y1 => match kv with | [v1, v5] => kit_KeptTurns.l2 C N Q v1 v5 lv h Y1 | _ => False) hR (fun Y1 s h hR => e1 hR)))) (fun s h hR => e1 hR))))
theorem kit_KeptTurns.imp : kit_KeptTurns.Imp (AC P) N := fun v0 v1 h Q hR => eF mixed (fn := Try.f18) (fun hC => kit_KeptTurns.L hC (dn Q) (startS [v0, v1]) h hR)

def law17_right.I : Bx := ⟨[], [], 9, []⟩
theorem law17_right.L {C : CSem} (hC : CMono C) (Q : AVal → AHeap → Prop) (s : Slots) (h : AHeap) (hR : law17_right.cps C N (s 0) h Q) : bwp P C law17_right.I (Try.f19.body.getD .skip) (retB P law17_right.I Try.f19.results.toList Q) s h :=
  e1 hR
theorem law17_right.imp : law17_right.Imp (AC P) N := fun v0 h Q hR => eF mixed (fn := Try.f19) (fun hC => law17_right.L hC (dn Q) (startS [v0]) h hR)

def law17_row.I : Bx := ⟨[4], [], 10, []⟩
theorem law17_row.L {C : CSem} (hC : CMono C) (Q : AVal → AHeap → Prop) (s : Slots) (h : AHeap) (hR : law17_row.cps C N (s 0) (s 1) h Q) : bwp P C law17_row.I (Try.f20.body.getD .skip) (retB P law17_row.I Try.f20.results.toList Q) s h :=
  e1 hR
theorem law17_row.imp : law17_row.Imp (AC P) N := fun v0 v1 h Q hR => eF mixed (fn := Try.f20) (fun hC => law17_row.L hC (dn Q) (startS [v0, v1]) h hR)

def kit_LentRow.I : Bx := ⟨[1, 2], [3, 6, 7, 10], 12, []⟩
theorem kit_LentRow.L {C : CSem} (hC : CMono C) (Q : AVal → AHeap → Prop) (s : Slots) (h : AHeap) (hR : kit_LentRow.cps C N (s 0) h Q) : bwp P C kit_LentRow.I (Try.f21.body.getD .skip) (retB P kit_LentRow.I Try.f21.results.toList Q) s h :=
  e1 hR
theorem kit_LentRow.imp : kit_LentRow.Imp (AC P) N := fun v0 h Q hR => eF mixed (fn := Try.f21) (fun hC => kit_LentRow.L hC (dn Q) (startS [v0]) h hR)

def kit_markRow.I : Bx := ⟨[4], [], 10, []⟩
theorem kit_markRow.L {C : CSem} (hC : CMono C) (Q : AVal → AHeap → Prop) (s : Slots) (h : AHeap) (hR : kit_markRow.cps C N (s 0) (s 1) h Q) : bwp P C kit_markRow.I (Try.f22.body.getD .skip) (retB P kit_markRow.I Try.f22.results.toList Q) s h :=
  e1 hR
theorem kit_markRow.imp : kit_markRow.Imp (AC P) N := fun v0 v1 h Q hR => eF mixed (fn := Try.f22) (fun hC => kit_markRow.L hC (dn Q) (startS [v0, v1]) h hR)

def kit_SameTurn.I : Bx := ⟨[2, 3], [5, 7, 11, 13, 18, 20], 24, []⟩
theorem kit_SameTurn.L {C : CSem} (hC : CMono C) (Q : AVal → AHeap → Prop) (s : Slots) (h : AHeap) (hR : kit_SameTurn.cps C N (s 0) (s 1) h Q) : bwp P C kit_SameTurn.I (Try.f23.body.getD .skip) (retB P kit_SameTurn.I Try.f23.results.toList Q) s h :=
  e1 hR
theorem kit_SameTurn.imp : kit_SameTurn.Imp (AC P) N := fun v0 v1 h Q hR => eF mixed (fn := Try.f23) (fun hC => kit_SameTurn.L hC (dn Q) (startS [v0, v1]) h hR)

def delta_right.I : Bx := ⟨[4], [12, 17, 32], 39, [(4, [(0, []), (1, []), (2, []), (3, []), (4, []), (5, []), (6, []), (7, []), (8, []), (9, []), (10, []), (11, []), (12, []), (13, []), (14, []), (15, []), (16, []), (17, []), (18, []), (19, []), (20, []), (21, []), (22, []), (23, []), (24, []), (25, [])])]⟩
theorem delta_right.L {C : CSem} (hC : CMono C) (Q : AVal → AHeap → Prop) (s : Slots) (h : AHeap) (hR : delta_right.cps C N (s 0) h Q) : bwp P C delta_right.I (Try.f24.body.getD .skip) (retB P delta_right.I Try.f24.results.toList Q) s h :=
  eS hC (fun s h => B.pv (V.lenSl (s 0)) fun v6 =>
    LoopR (delta_right.l2 C N Q (s 0) (s 0) v6) [(.int .i64 0)] h) (e1 hR) (fun s h hR => eS hC (fun s h => Q (.bool true) h) (eS hC (fun s h => LoopR (delta_right.l2 C N Q (s 0) (s 5) (s 6)) [(s 7)] h) (e1 hR) (fun s h hR => eK (eL hC [0, 5, 6] [7] (fun kv lv h Y1 => match kv with | [v0, v5, v6] => delta_right.l2 C N Q v0 v5 v6 lv h Y1 | _ => False) hR (fun Y1 s h hR => e1 hR)))) (fun s h hR => e1 hR))
theorem delta_right.imp : delta_right.Imp (AC P) N := fun v0 h Q hR => eF mixed (fn := Try.f24) (fun hC => delta_right.L hC (dn Q) (startS [v0]) h hR)

def bytes_Compare.I : Bx := ⟨[], [], 8, []⟩
theorem bytes_Compare.L {C : CSem} (hC : CMono C) (Q : AVal → AHeap → Prop) (s : Slots) (h : AHeap) (hR : bytes_Compare.cps C N (s 0) (s 1) h Q) : bwp P C bytes_Compare.I (Try.f25.body.getD .skip) (retB P bytes_Compare.I Try.f25.results.toList Q) s h :=
  e1 hR
theorem bytes_Compare.imp : bytes_Compare.Imp (AC P) N := fun v0 v1 h Q hR => eF mixed (fn := Try.f25) (fun hC => bytes_Compare.L hC (dn Q) (startS [v0, v1]) h hR)

def delta_turn.I : Bx := ⟨[6], [], 14, []⟩
theorem delta_turn.L {C : CSem} (hC : CMono C) (Q : AVal → AHeap → Prop) (s : Slots) (h : AHeap) (hR : delta_turn.cps C N (s 0) (s 1) (s 2) h Q) : bwp P C delta_turn.I (Try.f26.body.getD .skip) (retB P delta_turn.I Try.f26.results.toList Q) s h :=
  e1 hR
theorem delta_turn.imp : delta_turn.Imp (AC P) N := fun v0 v1 v2 h Q hR => eF mixed (fn := Try.f26) (fun hC => delta_turn.L hC (dn Q) (startS [v0, v1, v2]) h hR)

def bytes_Equal.I : Bx := ⟨[], [], 10, []⟩
theorem bytes_Equal.L {C : CSem} (hC : CMono C) (Q : AVal → AHeap → Prop) (s : Slots) (h : AHeap) (hR : bytes_Equal.cps C N (s 0) (s 1) h Q) : bwp P C bytes_Equal.I (Try.f27.body.getD .skip) (retB P bytes_Equal.I Try.f27.results.toList Q) s h :=
  e1 hR
theorem bytes_Equal.imp : bytes_Equal.Imp (AC P) N := fun v0 v1 h Q hR => eF mixed (fn := Try.f27) (fun hC => bytes_Equal.L hC (dn Q) (startS [v0, v1]) h hR)

def ref17_Right.I : Bx := ⟨[], [], 45, [(4, [(0, []), (1, []), (2, []), (3, []), (4, []), (5, []), (6, []), (7, []), (8, []), (9, []), (10, []), (11, []), (12, []), (13, []), (14, []), (15, []), (16, []), (17, []), (18, []), (19, []), (20, []), (21, []), (22, []), (23, []), (24, []), (25, []), (26, []), (27, []), (28, []), (29, []), (30, []), (31, []), (32, []), (33, []), (34, [])])]⟩
theorem ref17_Right.L {C : CSem} (hC : CMono C) (Q : AVal → AHeap → Prop) (s : Slots) (h : AHeap) (hR : ref17_Right.cps C N (s 0) h Q) : bwp P C ref17_Right.I (Try.f28.body.getD .skip) (retB P ref17_Right.I Try.f28.results.toList Q) s h :=
  eS hC (fun s h => LoopR (ref17_Right.l2 C N Q (s 0)) [(.int .i64 0)] h) (e1 hR) (fun s h hR => eS hC (fun s h => Q (.bool true) h) (eS hC (fun s h => LoopR (ref17_Right.l2 C N Q (s 0)) [(s 3)] h) (e1 hR) (fun s h hR => eK (eL hC [0] [3] (fun kv lv h Y1 => match kv with | [v0] => ref17_Right.l2 C N Q v0 lv h Y1 | _ => False) hR (fun Y1 s h hR => e1 hR)))) (fun s h hR => e1 hR))
theorem ref17_Right.imp : ref17_Right.Imp (AC P) N := fun v0 h Q hR => eF mixed (fn := Try.f28) (fun hC => ref17_Right.L hC (dn Q) (startS [v0]) h hR)

def ref17_put.I : Bx := ⟨[], [], 61, []⟩
theorem ref17_put.L {C : CSem} (hC : CMono C) (Q : AVal → AHeap → Prop) (s : Slots) (h : AHeap) (hR : ref17_put.cps C N (s 0) (s 1) (s 2) h Q) : bwp P C ref17_put.I (Try.f29.body.getD .skip) (retB P ref17_put.I Try.f29.results.toList Q) s h :=
  eS hC (fun s h => B.pv (V.lenSl (s 2)) fun v11 =>
    B.pv (V.bin .eql v11 (.int .i64 0)) fun v12 =>
    LoopR (ref17_put.l5 C N Q (s 0) (s 1) (s 2)) [.nils, v12, (.int .i64 0)] h) (e1 hR) (fun s h hR => eS hC (fun s h => B.pv (V.lenSl (s 2)) fun v11 =>
    B.pv (V.bin .eql v11 (.int .i64 0)) fun v12 =>
    LoopR (ref17_put.l5 C N Q (s 0) (s 1) (s 2)) [(s 7), v12, (.int .i64 0)] h) (e1 hR) (fun s h hR => eS hC (fun s h => LoopR (ref17_put.l5 C N Q (s 0) (s 1) (s 2)) [(s 7), (s 8), (.int .i64 0)] h) (e1 hR) (fun s h hR => eS hC (fun s h => ref17_put.k1 C N Q (s 1) (s 2) (s 7) (s 8) h) (eS hC (fun s h => LoopR (ref17_put.l5 C N Q (s 0) (s 1) (s 2)) [(s 7), (s 8), (s 9)] h) (e1 hR) (fun s h hR => eK (eL hC [0, 1, 2] [7, 8, 9] (fun kv lv h Y1 => match kv with | [v0, v1, v2] => ref17_put.l5 C N Q v0 v1 v2 lv h Y1 | _ => False) hR (fun Y1 s h hR => eS hC (fun s h => ref17_put.k3 C N Q Y1 (s 0) (s 1) (s 2) (s 7) (s 8) (s 9) h) (e1 hR) (fun s h hR => eS hC (fun s h => B.pv (V.bin .add (s 9) (.int .i64 1)) fun v18 =>
    Y1 [(s 7), (s 8), v18] h) (eK (eS hC (fun s h => ref17_put.k2 C N Q Y1 (s 0) (s 1) (s 2) (s 7) (s 8) (s 9) h) (e1 hR) (fun s h hR => e1 hR))) (fun s h hR => e1 hR)))))) (fun s h hR => e1 hR))))
theorem ref17_put.imp : ref17_put.Imp (AC P) N := fun v0 v1 v2 h Q hR => eF mixed (fn := Try.f29) (fun hC => ref17_put.L hC (dn Q) (startS [v0, v1, v2]) h hR)

def ref17_get.I : Bx := ⟨[], [], 24, []⟩
theorem ref17_get.L {C : CSem} (hC : CMono C) (Q : AVal → AHeap → Prop) (s : Slots) (h : AHeap) (hR : ref17_get.cps C N (s 0) (s 1) h Q) : bwp P C ref17_get.I (Try.f30.body.getD .skip) (retB P ref17_get.I Try.f30.results.toList Q) s h :=
  eS hC (fun s h => LoopR (ref17_get.l2 C N Q (s 0) (s 1)) [(.int .i64 0)] h) (e1 hR) (fun s h hR => eS hC (fun s h => Q .nils h) (eS hC (fun s h => LoopR (ref17_get.l2 C N Q (s 0) (s 1)) [(s 5)] h) (e1 hR) (fun s h hR => eK (eL hC [0, 1] [5] (fun kv lv h Y1 => match kv with | [v0, v1] => ref17_get.l2 C N Q v0 v1 lv h Y1 | _ => False) hR (fun Y1 s h hR => e1 hR)))) (fun s h hR => e1 hR))
theorem ref17_get.imp : ref17_get.Imp (AC P) N := fun v0 v1 h Q hR => eF mixed (fn := Try.f30) (fun hC => ref17_get.L hC (dn Q) (startS [v0, v1]) h hR)

def ref17_same.I : Bx := ⟨[], [], 15, []⟩
theorem ref17_same.L {C : CSem} (hC : CMono C) (Q : AVal → AHeap → Prop) (s : Slots) (h : AHeap) (hR : ref17_same.cps C N (s 0) (s 1) h Q) : bwp P C ref17_same.I (Try.f31.body.getD .skip) (retB P ref17_same.I Try.f31.results.toList Q) s h :=
  e1 hR
theorem ref17_same.imp : ref17_same.Imp (AC P) N := fun v0 v1 h Q hR => eF mixed (fn := Try.f31) (fun hC => ref17_same.L hC (dn Q) (startS [v0, v1]) h hR)

def kit_KeptRow.I : Bx := ⟨[2, 3], [9, 11, 16, 18], 22, []⟩
theorem kit_KeptRow.L {C : CSem} (hC : CMono C) (Q : AVal → AHeap → Prop) (s : Slots) (h : AHeap) (hR : kit_KeptRow.cps C N (s 0) (s 1) h Q) : bwp P C kit_KeptRow.I (Try.f32.body.getD .skip) (retB P kit_KeptRow.I Try.f32.results.toList Q) s h :=
  e1 hR
theorem kit_KeptRow.imp : kit_KeptRow.Imp (AC P) N := fun v0 v1 h Q hR => eF mixed (fn := Try.f32) (fun hC => kit_KeptRow.L hC (dn Q) (startS [v0, v1]) h hR)

def kit_SameRow.I : Bx := ⟨[2, 3], [5, 7, 11, 13], 17, []⟩
theorem kit_SameRow.L {C : CSem} (hC : CMono C) (Q : AVal → AHeap → Prop) (s : Slots) (h : AHeap) (hR : kit_SameRow.cps C N (s 0) (s 1) h Q) : bwp P C kit_SameRow.I (Try.f33.body.getD .skip) (retB P kit_SameRow.I Try.f33.results.toList Q) s h :=
  e1 hR
theorem kit_SameRow.imp : kit_SameRow.Imp (AC P) N := fun v0 v1 h Q hR => eF mixed (fn := Try.f33) (fun hC => kit_SameRow.L hC (dn Q) (startS [v0, v1]) h hR)

def kit_LentTurn.I : Bx := ⟨[1, 2], [3, 6, 7, 10, 11, 14], 16, []⟩
theorem kit_LentTurn.L {C : CSem} (hC : CMono C) (Q : AVal → AHeap → Prop) (s : Slots) (h : AHeap) (hR : kit_LentTurn.cps C N (s 0) h Q) : bwp P C kit_LentTurn.I (Try.f34.body.getD .skip) (retB P kit_LentTurn.I Try.f34.results.toList Q) s h :=
  e1 hR
theorem kit_LentTurn.imp : kit_LentTurn.Imp (AC P) N := fun v0 h Q hR => eF mixed (fn := Try.f34) (fun hC => kit_LentTurn.L hC (dn Q) (startS [v0]) h hR)

def kit_markTurn.I : Bx := ⟨[4], [], 10, []⟩
theorem kit_markTurn.L {C : CSem} (hC : CMono C) (Q : AVal → AHeap → Prop) (s : Slots) (h : AHeap) (hR : kit_markTurn.cps C N (s 0) (s 1) h Q) : bwp P C kit_markTurn.I (Try.f35.body.getD .skip) (retB P kit_markTurn.I Try.f35.results.toList Q) s h :=
  e1 hR
theorem kit_markTurn.imp : kit_markTurn.Imp (AC P) N := fun v0 v1 h Q hR => eF mixed (fn := Try.f35) (fun hC => kit_markTurn.L hC (dn Q) (startS [v0, v1]) h hR)

def slices_Clone_byte_byte.I : Bx := ⟨[], [], 8, []⟩
theorem slices_Clone_byte_byte.L {C : CSem} (hC : CMono C) (Q : AVal → AHeap → Prop) (s : Slots) (h : AHeap) (hR : slices_Clone_byte_byte.cps C N (s 0) h Q) : bwp P C slices_Clone_byte_byte.I (Try.f36.body.getD .skip) (retB P slices_Clone_byte_byte.I Try.f36.results.toList Q) s h :=
  e1 hR
theorem slices_Clone_byte_byte.imp : slices_Clone_byte_byte.Imp (AC P) N := fun v0 h Q hR => eF mixed (fn := Try.f36) (fun hC => slices_Clone_byte_byte.L hC (dn Q) (startS [v0]) h hR)

def slices_SortFunc_api_Row_api_Row.I : Bx := ⟨[], [], 14, []⟩
theorem slices_SortFunc_api_Row_api_Row.L {C : CSem} (hC : CMono C) (Q : AVal → AHeap → Prop) (s : Slots) (h : AHeap) (hR : slices_SortFunc_api_Row_api_Row.cps C N (s 0) (s 1) h Q) : bwp P C slices_SortFunc_api_Row_api_Row.I (Try.f37.body.getD .skip) (retB P slices_SortFunc_api_Row_api_Row.I Try.f37.results.toList Q) s h :=
  e1 hR
theorem slices_SortFunc_api_Row_api_Row.imp : slices_SortFunc_api_Row_api_Row.Imp (AC P) N := fun v0 v1 h Q hR => eF mixed (fn := Try.f37) (fun hC => slices_SortFunc_api_Row_api_Row.L hC (dn Q) (startS [v0, v1]) h hR)

def delta_Apply_1.I : Bx := ⟨[2, 3], [5, 7], 10, []⟩
theorem delta_Apply_1.L {C : CSem} (hC : CMono C) (Q : AVal → AHeap → Prop) (s : Slots) (h : AHeap) (hR : delta_Apply_1.cps C N (s 0) (s 1) h Q) : bwp P C delta_Apply_1.I (Try.f38.body.getD .skip) (retB P delta_Apply_1.I Try.f38.results.toList Q) s h :=
  e1 hR
theorem delta_Apply_1.imp : delta_Apply_1.Imp (AC P) N := fun v0 v1 h Q hR => eF mixed (fn := Try.f38) (fun hC => delta_Apply_1.L hC (dn Q) (startS [v0, v1]) h hR)

def kit_KeptTurn.I : Bx := ⟨[2, 3], [9, 11, 16, 18, 23, 25], 29, []⟩
theorem kit_KeptTurn.L {C : CSem} (hC : CMono C) (Q : AVal → AHeap → Prop) (s : Slots) (h : AHeap) (hR : kit_KeptTurn.cps C N (s 0) (s 1) h Q) : bwp P C kit_KeptTurn.I (Try.f39.body.getD .skip) (retB P kit_KeptTurn.I Try.f39.results.toList Q) s h :=
  e1 hR
theorem kit_KeptTurn.imp : kit_KeptTurn.Imp (AC P) N := fun v0 v1 h Q hR => eF mixed (fn := Try.f39) (fun hC => kit_KeptTurn.L hC (dn Q) (startS [v0, v1]) h hR)

def kit_LentBytes.I : Bx := ⟨[], [], 25, []⟩
theorem kit_LentBytes.L {C : CSem} (hC : CMono C) (Q : AVal → AHeap → Prop) (s : Slots) (h : AHeap) (hR : kit_LentBytes.cps C N (s 0) h Q) : bwp P C kit_LentBytes.I (Try.f40.body.getD .skip) (retB P kit_LentBytes.I Try.f40.results.toList Q) s h :=
  eS hC (fun s h => kit_LentBytes.k3 C N Q (s 0) h) (e1 hR) (fun s h hR => eS hC (fun s h => B.appW h 1 1 (s 3) (s 0) fun v11 h =>
    LoopR (lentS.l4 C 1 (N 64) (.int .u8 0) 1 Q (s 0)) [v11, (.int .i64 0)] h) (e1 hR) (fun s h hR => eS hC (fun s h => LoopR (lentS.l4 C 1 (N 64) (.int .u8 0) 1 Q (s 0)) [(s 3), (.int .i64 0)] h) (e1 hR) (fun s h hR => eS hC (fun s h => B.pv (V.lenSl (s 0)) fun v23 =>
    B.pv (V.cutSl 1 (s 3) none (some v23)) fun v24 =>
    Q v24 h) (eS hC (fun s h => LoopR (lentS.l4 C 1 (N 64) (.int .u8 0) 1 Q (s 0)) [(s 3), (s 4)] h) (e1 hR) (fun s h hR => eK (eL hC [0] [3, 4] (fun kv lv h Y1 => match kv with | [v0] => lentS.l4 C 1 (N 64) (.int .u8 0) 1 Q v0 lv h Y1 | _ => False) hR (fun Y1 s h hR => e1 hR)))) (fun s h hR => e1 hR))))
theorem kit_LentBytes.imp : kit_LentBytes.Imp (AC P) N := fun v0 h Q hR => eF mixed (fn := Try.f40) (fun hC => kit_LentBytes.L hC (dn Q) (startS [v0]) h hR)

def kit_markByte.I : Bx := ⟨[], [], 12, []⟩
theorem kit_markByte.L {C : CSem} (hC : CMono C) (Q : AVal → AHeap → Prop) (s : Slots) (h : AHeap) (hR : kit_markByte.cps C N (s 0) (s 1) h Q) : bwp P C kit_markByte.I (Try.f41.body.getD .skip) (retB P kit_markByte.I Try.f41.results.toList Q) s h :=
  e1 hR
theorem kit_markByte.imp : kit_markByte.Imp (AC P) N := fun v0 v1 h Q hR => eF mixed (fn := Try.f41) (fun hC => kit_markByte.L hC (dn Q) (startS [v0, v1]) h hR)

def kit_SameBytes.I : Bx := ⟨[], [], 26, [(6, [(0, []), (1, []), (2, []), (3, []), (4, []), (5, []), (6, []), (7, []), (8, [])])]⟩
theorem kit_SameBytes.L {C : CSem} (hC : CMono C) (Q : AVal → AHeap → Prop) (s : Slots) (h : AHeap) (hR : kit_SameBytes.cps C N (s 0) (s 1) h Q) : bwp P C kit_SameBytes.I (Try.f42.body.getD .skip) (retB P kit_SameBytes.I Try.f42.results.toList Q) s h :=
  eS hC (fun s h => kit_SameBytes.k3 C N Q (s 0) (s 1) h) (e1 hR) (fun s h hR => eS hC (fun s h => LoopR (sameS.l4  Q (s 0) (s 1)) [(.int .i64 0)] h) (e1 hR) (fun s h hR => eS hC (fun s h => Q (.bool true) h) (eS hC (fun s h => LoopR (sameS.l4  Q (s 0) (s 1)) [(s 5)] h) (e1 hR) (fun s h hR => eK (eL hC [0, 1] [5] (fun kv lv h Y1 => match kv with | [v0, v1] => sameS.l4  Q v0 v1 lv h Y1 | _ => False) hR (fun Y1 s h hR => e1 hR)))) (fun s h hR => e1 hR)))
theorem kit_SameBytes.imp : kit_SameBytes.Imp (AC P) N := fun v0 v1 h Q hR => eF mixed (fn := Try.f42) (fun hC => kit_SameBytes.L hC (dn Q) (startS [v0, v1]) h hR)

theorem bytealg_Compare.imp : bytealg_Compare.Imp (AC P) N := fun x y a b S T h Q hx hy hq => AC_bytealgCompare (fn := Try.f43) (by kernel_rfl) (by kernel_rfl) (by kernel_rfl) (by kernel_rfl) (by kernel_rfl) hx hy hq

def ref17_less.I : Bx := ⟨[], [], 41, [(4, [(0, []), (1, []), (2, []), (3, []), (4, []), (5, []), (6, []), (7, []), (8, [])]), (5, [(0, []), (1, []), (2, []), (3, []), (4, []), (5, []), (6, []), (7, []), (8, []), (9, [])])]⟩
theorem ref17_less.L {C : CSem} (hC : CMono C) (Q : AVal → AHeap → Prop) (s : Slots) (h : AHeap) (hR : ref17_less.cps C N (s 0) (s 1) h Q) : bwp P C ref17_less.I (Try.f44.body.getD .skip) (retB P ref17_less.I Try.f44.results.toList Q) s h :=
  eS hC (fun s h => LoopR (ref17_less.l2 C N Q (s 0) (s 1)) [(.int .i64 0)] h) (e1 hR) (fun s h hR => eS hC (fun s h => B.pv (V.lenSl (s 0)) fun v37 =>
    B.pv (V.lenSl (s 1)) fun v39 =>
    B.pv (V.bin .lss v37 v39) fun v40 =>
    Q v40 h) (eS hC (fun s h => LoopR (ref17_less.l2 C N Q (s 0) (s 1)) [(s 5)] h) (e1 hR) (fun s h hR => eK (eL hC [0, 1] [5] (fun kv lv h Y1 => match kv with | [v0, v1] => ref17_less.l2 C N Q v0 v1 lv h Y1 | _ => False) hR (fun Y1 s h hR => e1 hR)))) (fun s h hR => e1 hR))
theorem ref17_less.imp : ref17_less.Imp (AC P) N := fun v0 v1 h Q hR => eF mixed (fn := Try.f44) (fun hC => ref17_less.L hC (dn Q) (startS [v0, v1]) h hR)

def kit_KeptBytes.I : Bx := ⟨[], [], 58, [(7, [(0, []), (1, []), (2, []), (3, []), (4, []), (5, []), (6, []), (7, []), (8, []), (9, []), (10, []), (11, []), (12, []), (13, []), (14, []), (15, []), (16, []), (17, []), (18, []), (19, []), (20, []), (21, []), (22, []), (23, []), (24, []), (25, []), (26, []), (27, []), (28, []), (29, []), (30, [25]), (31, []), (32, []), (33, []), (34, [])])]⟩
theorem kit_KeptBytes.L {C : CSem} (hC : CMono C) (Q : AVal → AHeap → Prop) (s : Slots) (h : AHeap) (hR : kit_KeptBytes.cps C N (s 0) (s 1) h Q) : bwp P C kit_KeptBytes.I (Try.f45.body.getD .skip) (retB P kit_KeptBytes.I Try.f45.results.toList Q) s h :=
  eS hC (fun s h => kit_KeptBytes.k4 C N Q (s 0) (s 1) h) (e1 hR) (fun s h hR => eS hC (fun s h => kit_KeptBytes.k3 C N Q (s 0) (s 1) h) (e1 hR) (fun s h hR => eS hC (fun s h => LoopR (keptS.l4 C (N 64) 1 Q (s 1) (s 5)) [(.int .i64 0)] h) (e1 hR) (fun s h hR => eS hC (fun s h => Q (.bool true) h) (eS hC (fun s h => LoopR (keptS.l4 C (N 64) 1 Q (s 1) (s 5)) [(s 6)] h) (e1 hR) (fun s h hR => eK (eL hC [1, 5] [6] (fun kv lv h Y1 => match kv with | [v1, v5] => keptS.l4 C (N 64) 1 Q v1 v5 lv h Y1 | _ => False) hR (fun Y1 s h hR => e1 hR)))) (fun s h hR => e1 hR))))
theorem kit_KeptBytes.imp : kit_KeptBytes.Imp (AC P) N := fun v0 v1 h Q hR => eF mixed (fn := Try.f45) (fun hC => kit_KeptBytes.L hC (dn Q) (startS [v0, v1]) h hR)

def slices_pdqsortCmpFunc_api_Row.I : Bx := ⟨[], [], 148, [(17, [(0, []), (1, []), (2, []), (3, []), (4, []), (5, []), (6, []), (7, []), (8, []), (9, []), (10, []), (11, []), (12, []), (13, []), (14, []), (15, []), (16, [])])]⟩
theorem slices_pdqsortCmpFunc_api_Row.L {C : CSem} (hC : CMono C) (Q : AVal → AHeap → Prop) (s : Slots) (h : AHeap) (hR : slices_pdqsortCmpFunc_api_Row.cps C N (s 0) (s 1) (s 2) (s 3) (s 4) h Q) : bwp P C slices_pdqsortCmpFunc_api_Row.I (Try.f46.body.getD .skip) (retB P slices_pdqsortCmpFunc_api_Row.I Try.f46.results.toList Q) s h :=
  eS hC (fun s h => LoopR (slices_pdqsortCmpFuncG.l8 C (opsF 2 48 [.nils, .nils] 0 []) (N 289) (N 290) (N 288) (N 291) (N 292) (N 293) (N 294) (N 295) (N 296) Q (s 0) (s 4)) [(s 1), (s 2), (s 3), (s 10), (.bool true)] h) (e1 hR) (fun s h hR => eS hC (fun s h => LoopR (slices_pdqsortCmpFuncG.l8 C (opsF 2 48 [.nils, .nils] 0 []) (N 289) (N 290) (N 288) (N 291) (N 292) (N 293) (N 294) (N 295) (N 296) Q (s 0) (s 4)) [(s 1), (s 2), (s 3), (s 10), (s 11)] h) (e1 hR) (fun s h hR => eK (eL hC [0, 4] [1, 2, 3, 10, 11] (fun kv lv h Y1 => match kv with | [v0, v4] => slices_pdqsortCmpFuncG.l8 C (opsF 2 48 [.nils, .nils] 0 []) (N 289) (N 290) (N 288) (N 291) (N 292) (N 293) (N 294) (N 295) (N 296) Q v0 v4 lv h Y1 | _ => False) hR (fun Y1 s h hR => eK (eS hC (fun s h => slices_pdqsortCmpFuncG.k7 C (opsF 2 48 [.nils, .nils] 0 []) (N 289) (N 290) (N 288) (N 291) (N 292) (N 293) (N 294) (N 295) (N 296) Q Y1 (s 0) (s 1) (s 2) (s 3) (s 4) (s 10) (s 11) (s 12) h) (e1 hR) (fun s h hR => eS hC (fun s h => slices_pdqsortCmpFuncG.k6 C (opsF 2 48 [.nils, .nils] 0 []) (N 289) (N 290) (N 288) (N 291) (N 292) (N 293) (N 294) (N 295) (N 296) Q Y1 (s 0) (s 1) (s 2) (s 3) (s 4) (s 10) (s 11) (s 12) h) (e1 hR) (fun s h hR => eS hC (fun s h => slices_pdqsortCmpFuncG.k5 C (opsF 2 48 [.nils, .nils] 0 []) (N 289) (N 290) (N 288) (N 291) (N 292) (N 293) (N 294) (N 295) (N 296) Q Y1 (s 0) (s 1) (s 2) (s 3) (s 4) (s 10) (s 11) (s 12) h) (e1 hR) (fun s h hR => eS hC (fun s h => slices_pdqsortCmpFuncG.k4 C (opsF 2 48 [.nils, .nils] 0 []) (N 289) (N 290) (N 288) (N 291) (N 292) (N 293) (N 294) (N 295) (N 296) Q Y1 (s 0) (s 1) (s 2) (s 3) (s 4) (s 10) (s 11) (s 12) h) (e1 hR) (fun s h hR => eS hC (fun s h => slices_pdqsortCmpFuncG.k3 C (opsF 2 48 [.nils, .nils] 0 []) (N 289) (N 290) (N 288) (N 291) (N 292) (N 293) (N 294) (N 295) (N 296) Q Y1 (s 0) (s 1) (s 2) (s 3) (s 4) (s 10) (s 11) (s 12) (s 13) (s 14) h) (e1 hR) (fun s h hR => eS hC (fun s h => slices_pdqsortCmpFuncG.k2 C (opsF 2 48 [.nils, .nils] 0 []) (N 289) (N 290) (N 288) (N 291) (N 292) (N 293) (N 294) (N 295) (N 296) Q Y1 (s 0) (s 1) (s 2) (s 3) (s 4) (s 10) (s 11) (s 12) (s 13) (s 14) h) (e1 hR) (fun s h hR => eS hC (fun s h => slices_pdqsortCmpFuncG.k1 C (opsF 2 48 [.nils, .nils] 0 []) (N 289) (N 290) (N 288) (N 291) (N 292) (N 293) (N 294) (N 295) (N 296) Q Y1 (s 0) (s 1) (s 2) (s 3) (s 4) (s 10) (s 11) (s 12) (s 13) h) (e1 hR) (fun s h hR => e1 hR))))))))))))
theorem slices_pdqsortCmpFunc_api_Row.imp : slices_pdqsortCmpFunc_api_Row.Imp (AC P) N := fun v0 v1 v2 v3 v4 h Q hR => eF mixed (fn := Try.f46) (fun hC => slices_pdqsortCmpFunc_api_Row.L hC (dn Q) (startS [v0, v1, v2, v3, v4]) h hR)

def math_bits_Len.I : Bx := ⟨[], [], 8, []⟩
theorem math_bits_Len.L {C : CSem} (hC : CMono C) (Q : AVal → AHeap → Prop) (s : Slots) (h : AHeap) (hR : math_bits_Len.cps C N (s 0) h Q) : bwp P C math_bits_Len.I (Try.f47.body.getD .skip) (retB P math_bits_Len.I Try.f47.results.toList Q) s h :=
  e1 hR
theorem math_bits_Len.imp : math_bits_Len.Imp (AC P) N := fun v0 h Q hR => eF mixed (fn := Try.f47) (fun hC => math_bits_Len.L hC (dn Q) (startS [v0]) h hR)

def kit_mark.I : Bx := ⟨[], [], 10, []⟩
theorem kit_mark.L {C : CSem} (hC : CMono C) (Q : AVal → AHeap → Prop) (s : Slots) (h : AHeap) (hR : kit_mark.cps C N (s 0) (s 1) h Q) : bwp P C kit_mark.I (Try.f48.body.getD .skip) (retB P kit_mark.I Try.f48.results.toList Q) s h :=
  e1 hR
theorem kit_mark.imp : kit_mark.Imp (AC P) N := fun v0 v1 h Q hR => eF mixed (fn := Try.f48) (fun hC => kit_mark.L hC (dn Q) (startS [v0, v1]) h hR)

def slices_insertionSortCmpFunc_api_Row.I : Bx := ⟨[], [], 53, [(4, [(0, []), (1, []), (2, []), (3, []), (4, []), (5, []), (6, []), (7, []), (8, []), (9, []), (10, []), (11, []), (12, []), (13, []), (14, []), (15, []), (16, [])]), (6, [(0, []), (1, []), (2, []), (3, []), (4, []), (5, []), (6, []), (7, []), (8, []), (9, []), (10, []), (11, []), (12, []), (13, []), (14, []), (15, []), (16, []), (17, [])])]⟩
theorem slices_insertionSortCmpFunc_api_Row.L {C : CSem} (hC : CMono C) (Q : AVal → AHeap → Prop) (s : Slots) (h : AHeap) (hR : slices_insertionSortCmpFunc_api_Row.cps C N (s 0) (s 1) (s 2) (s 3) h Q) : bwp P C slices_insertionSortCmpFunc_api_Row.I (Try.f49.body.getD .skip) (retB P slices_insertionSortCmpFunc_api_Row.I Try.f49.results.toList Q) s h :=
  eS hC (fun s h => LoopR (slices_insertionSortCmpFuncG.l3 C (opsF 2 48 [.nils, .nils] 0 []) Q (s 0) (s 1) (s 2) (s 3)) [(s 8)] h) (e1 hR) (fun s h hR => eK (eL hC [0, 1, 2, 3] [8] (fun kv lv h Y1 => match kv with | [v0, v1, v2, v3] => slices_insertionSortCmpFuncG.l3 C (opsF 2 48 [.nils, .nils] 0 []) Q v0 v1 v2 v3 lv h Y1 | _ => False) hR (fun Y1 s h hR => eS hC (fun s h => LoopR (slices_insertionSortCmpFuncG.l2 C (opsF 2 48 [.nils, .nils] 0 []) Q Y1 (s 0) (s 1) (s 2) (s 3) (s 8)) [(s 8)] h) (e1 hR) (fun s h hR => eS hC (fun s h => B.pv (V.bin .add (s 8) (.int .i64 1)) fun v16 =>
    Y1 [v16] h) (eK (eS hC (fun s h => LoopR (slices_insertionSortCmpFuncG.l2 C (opsF 2 48 [.nils, .nils] 0 []) Q Y1 (s 0) (s 1) (s 2) (s 3) (s 8)) [(s 9)] h) (e1 hR) (fun s h hR => eK (eL hC [0, 1, 2, 3, 8] [9] (fun kv lv h Y2 => match kv with | [v0, v1, v2, v3, v8] => slices_insertionSortCmpFuncG.l2 C (opsF 2 48 [.nils, .nils] 0 []) Q Y1 v0 v1 v2 v3 v8 lv h Y2 | _ => False) hR (fun Y2 s h hR => e1 hR))))) (fun s h hR => e1 hR)))))
theorem slices_insertionSortCmpFunc_api_Row.imp : slices_insertionSortCmpFunc_api_Row.Imp (AC P) N := fun v0 v1 v2 v3 h Q hR => eF mixed (fn := Try.f49) (fun hC => slices_insertionSortCmpFunc_api_Row.L hC (dn Q) (startS [v0, v1, v2, v3]) h hR)

def slices_heapSortCmpFunc_api_Row.I : Bx := ⟨[], [], 60, [(10, [(0, []), (1, []), (2, []), (3, []), (4, []), (5, []), (6, []), (7, []), (8, []), (9, []), (10, []), (11, []), (12, []), (13, []), (14, []), (15, []), (16, []), (17, []), (18, []), (19, [])])]⟩
theorem slices_heapSortCmpFunc_api_Row.L {C : CSem} (hC : CMono C) (Q : AVal → AHeap → Prop) (s : Slots) (h : AHeap) (hR : slices_heapSortCmpFunc_api_Row.cps C N (s 0) (s 1) (s 2) (s 3) h Q) : bwp P C slices_heapSortCmpFunc_api_Row.I (Try.f50.body.getD .skip) (retB P slices_heapSortCmpFunc_api_Row.I Try.f50.results.toList Q) s h :=
  eS hC (fun s h => B.pv (V.bin .sub (s 2) (s 1)) fun v16 =>
    slices_heapSortCmpFuncG.k5 C (opsF 2 48 [.nils, .nils] 0 []) (N 297) Q (s 0) (s 3) (s 8) (.int .i64 0) v16 h) (e1 hR) (fun s h hR => eS hC (fun s h => B.pv (V.bin .sub (s 2) (s 1)) fun v16 =>
    slices_heapSortCmpFuncG.k5 C (opsF 2 48 [.nils, .nils] 0 []) (N 297) Q (s 0) (s 3) (s 8) (s 9) v16 h) (e1 hR) (fun s h hR => eS hC (fun s h => slices_heapSortCmpFuncG.k5 C (opsF 2 48 [.nils, .nils] 0 []) (N 297) Q (s 0) (s 3) (s 8) (s 9) (s 10) h) (e1 hR) (fun s h hR => eS hC (fun s h => B.pv (V.bin .sub (s 10) (.int .i64 1)) fun v31 =>
    LoopR (slices_heapSortCmpFuncG.l2 C (opsF 2 48 [.nils, .nils] 0 []) (N 297) Q (s 0) (s 3) (s 8) (s 9)) [v31] h) (eS hC (fun s h => LoopR (slices_heapSortCmpFuncG.l4 C (opsF 2 48 [.nils, .nils] 0 []) (N 297) Q (s 0) (s 3) (s 8) (s 9) (s 10)) [(s 11)] h) (e1 hR) (fun s h hR => eK (eL hC [0, 3, 8, 9, 10] [11] (fun kv lv h Y2 => match kv with | [v0, v3, v8, v9, v10] => slices_heapSortCmpFuncG.l4 C (opsF 2 48 [.nils, .nils] 0 []) (N 297) Q v0 v3 v8 v9 v10 lv h Y2 | _ => False) hR (fun Y2 s h hR => e1 hR)))) (fun s h hR => eS hC (fun s h => LoopR (slices_heapSortCmpFuncG.l2 C (opsF 2 48 [.nils, .nils] 0 []) (N 297) Q (s 0) (s 3) (s 8) (s 9)) [(s 12)] h) (e1 hR) (fun s h hR => eK (eL hC [0, 3, 8, 9] [12] (fun kv lv h Y1 => match kv with | [v0, v3, v8, v9] => slices_heapSortCmpFuncG.l2 C (opsF 2 48 [.nils, .nils] 0 []) (N 297) Q v0 v3 v8 v9 lv h Y1 | _ => False) hR (fun Y1 s h hR => e1 hR)))))))
theorem slices_heapSortCmpFunc_api_Row.imp : slices_heapSortCmpFunc_api_Row.Imp (AC P) N := fun v0 v1 v2 v3 h Q hR => eF mixed (fn := Try.f50) (fun hC => slices_heapSortCmpFunc_api_Row.L hC (dn Q) (startS [v0, v1, v2, v3]) h hR)

def slices_breakPatternsCmpFunc_api_Row.I : Bx := ⟨[], [], 67, [(10, [(0, []), (1, []), (2, []), (3, []), (4, []), (5, []), (6, []), (7, []), (8, []), (9, []), (10, []), (11, []), (12, []), (13, []), (14, []), (15, []), (16, []), (17, []), (18, []), (19, [])])]⟩
theorem slices_breakPatternsCmpFunc_api_Row.L {C : CSem} (hC : CMono C) (Q : AVal → AHeap → Prop) (s : Slots) (h : AHeap) (hR : slices_breakPatternsCmpFunc_api_Row.cps C N (s 0) (s 1) (s 2) (s 3) h Q) : bwp P C slices_breakPatternsCmpFunc_api_Row.I (Try.f51.body.getD .skip) (retB P slices_breakPatternsCmpFunc_api_Row.I Try.f51.results.toList Q) s h :=
  eS hC (fun s h => B.pv (V.bin .geq (s 8) (.int .i64 8)) fun v17 =>
    B.cond v17 (slices_breakPatternsCmpFuncG.k7 C (opsF 2 48 [.nils, .nils] 0 []) (N 298) (N 299) Q (s 0) (s 1) (s 8) h) (Q (.tup []) h)) (e1 hR) (fun s h hR => eS hC (fun s h => B.cond (s 17) (slices_breakPatternsCmpFuncG.k7 C (opsF 2 48 [.nils, .nils] 0 []) (N 298) (N 299) Q (s 0) (s 1) (s 8) h) (Q (.tup []) h)) (e1 hR) (fun s h hR => eC 17 hR (fun hR => eS hC (fun s h => B.call C (N 299) [(s 8)] h fun v21 h =>
    slices_breakPatternsCmpFuncG.k6 C (opsF 2 48 [.nils, .nils] 0 []) (N 298) (N 299) Q (s 0) (s 1) (s 8) (s 9) v21 h) (e1 hR) (fun s h hR => eS hC (fun s h => slices_breakPatternsCmpFuncG.k6 C (opsF 2 48 [.nils, .nils] 0 []) (N 298) (N 299) Q (s 0) (s 1) (s 8) (s 9) (s 10) h) (e1 hR) (fun s h hR => eS hC (fun s h => LoopR (slices_breakPatternsCmpFuncG.l5 C (opsF 2 48 [.nils, .nils] 0 []) (N 298) (N 299) Q (s 0) (s 1) (s 8) (s 9) (s 10)) [(s 11)] h) (e1 hR) (fun s h hR => eK (eL hC [0, 1, 8, 9, 10] [11] (fun kv lv h Y1 => match kv with | [v0, v1, v8, v9, v10] => slices_breakPatternsCmpFuncG.l5 C (opsF 2 48 [.nils, .nils] 0 []) (N 298) (N 299) Q v0 v1 v8 v9 v10 lv h Y1 | _ => False) hR (fun Y1 s h hR => eS hC (fun s h => slices_breakPatternsCmpFuncG.k3 C (opsF 2 48 [.nils, .nils] 0 []) (N 298) (N 299) Q Y1 (s 0) (s 1) (s 8) (s 9) (s 10) (s 11) h) (e1 hR) (fun s h hR => eS hC (fun s h => B.pv (V.bin .add (s 11) (.int .i64 1)) fun v37 =>
    Y1 [v37] h) (eK (eS hC (fun s h => slices_breakPatternsCmpFuncG.k2 C (opsF 2 48 [.nils, .nils] 0 []) (N 298) (N 299) Q Y1 (s 0) (s 1) (s 8) (s 9) (s 10) (s 11) (s 12) h) (e1 hR) (fun s h hR => eS hC (fun s h => slices_breakPatternsCmpFuncG.k1 C (opsF 2 48 [.nils, .nils] 0 []) (N 298) (N 299) Q Y1 (s 0) (s 1) (s 8) (s 9) (s 10) (s 11) (s 12) h) (e1 hR) (fun s h hR => e1 hR)))) (fun s h hR => e1 hR)))))))) (fun hR => e1 hR)))
theorem slices_breakPatternsCmpFunc_api_Row.imp : slices_breakPatternsCmpFunc_api_Row.Imp (AC P) N := fun v0 v1 v2 v3 h Q hR => eF mixed (fn := Try.f51) (fun hC => slices_breakPatternsCmpFunc_api_Row.L hC (dn Q) (startS [v0, v1, v2, v3]) h hR)

def slices_choosePivotCmpFunc_api_Row.I : Bx := ⟨[], [], 63, []⟩
theorem slices_choosePivotCmpFunc_api_Row.L {C : CSem} (hC : CMono C) (Q : AVal → AHeap → Prop) (s : Slots) (h : AHeap) (hR : slices_choosePivotCmpFunc_api_Row.cps C N (s 0) (s 1) (s 2) (s 3) h Q) : bwp P C slices_choosePivotCmpFunc_api_Row.I (Try.f52.body.getD .skip) (retB P slices_choosePivotCmpFunc_api_Row.I Try.f52.results.toList Q) s h :=
  eS hC (fun s h => B.pv (V.bin .sub (s 2) (s 1)) fun v17 =>
    B.newO h (some [.int .i64 0]) fun i11 h =>
    slices_choosePivotCmpFuncG.k6 C (opsF 2 48 [.nils, .nils] 0 []) (N 300) (N 301) Q (s 0) (s 1) (s 3) v17 (.ptr i11 0 0) h) (e1 hR) (fun s h hR => eS hC (fun s h => B.newO h (some [.int .i64 0]) fun i11 h =>
    slices_choosePivotCmpFuncG.k6 C (opsF 2 48 [.nils, .nils] 0 []) (N 300) (N 301) Q (s 0) (s 1) (s 3) (s 10) (.ptr i11 0 0) h) (e1 hR) (fun s h hR => eS hC (fun s h => slices_choosePivotCmpFuncG.k6 C (opsF 2 48 [.nils, .nils] 0 []) (N 300) (N 301) Q (s 0) (s 1) (s 3) (s 10) (s 11) h) (e1 hR) (fun s h hR => eS hC (fun s h => slices_choosePivotCmpFuncG.k5 C (opsF 2 48 [.nils, .nils] 0 []) (N 300) (N 301) Q (s 0) (s 1) (s 3) (s 10) (s 11) (s 12) h) (e1 hR) (fun s h hR => eS hC (fun s h => slices_choosePivotCmpFuncG.k4 C (opsF 2 48 [.nils, .nils] 0 []) (N 300) (N 301) Q (s 0) (s 1) (s 3) (s 10) (s 11) (s 12) (s 13) h) (e1 hR) (fun s h hR => eS hC (fun s h => slices_choosePivotCmpFuncG.k3 C (opsF 2 48 [.nils, .nils] 0 []) (N 300) (N 301) Q (s 0) (s 3) (s 10) (s 11) (s 12) (s 13) (s 14) h) (e1 hR) (fun s h hR => eS hC (fun s h => slices_choosePivotCmpFuncG.k1 C (opsF 2 48 [.nils, .nils] 0 []) (N 300) (N 301) Q (s 11) (s 13) h) (eS hC (fun s h => B.cond (s 34) (slices_choosePivotCmpFuncG.k2 C (opsF 2 48 [.nils, .nils] 0 []) (N 300) (N 301) Q (s 0) (s 3) (s 10) (s 11) (s 12) (s 13) (s 14) h) (slices_choosePivotCmpFuncG.k1 C (opsF 2 48 [.nils, .nils] 0 []) (N 300) (N 301) Q (s 11) (s 13) h)) (e1 hR) (fun s h hR => eC 34 hR (fun hR => eS hC (fun s h => B.call C (N 300) [(s 0), (s 12), (s 13), (s 14), (s 11), (s 3)] h fun v54 h =>
    slices_choosePivotCmpFuncG.k1 C (opsF 2 48 [.nils, .nils] 0 []) (N 300) (N 301) Q (s 11) v54 h) (e1 hR) (fun s h hR => e1 hR)) (fun hR => e1 hR))) (fun s h hR => e1 hR)))))))
theorem slices_choosePivotCmpFunc_api_Row.imp : slices_choosePivotCmpFunc_api_Row.Imp (AC P) N := fun v0 v1 v2 v3 h Q hR => eF mixed (fn := Try.f52) (fun hC => slices_choosePivotCmpFunc_api_Row.L hC (dn Q) (startS [v0, v1, v2, v3]) h hR)

def slices_reverseRangeCmpFunc_api_Row.I : Bx := ⟨[], [], 34, [(3, [(0, []), (1, []), (2, []), (3, []), (4, []), (5, []), (6, []), (7, []), (8, []), (9, []), (10, []), (11, []), (12, []), (13, []), (14, []), (15, [])])]⟩
theorem slices_reverseRangeCmpFunc_api_Row.L {C : CSem} (hC : CMono C) (Q : AVal → AHeap → Prop) (s : Slots) (h : AHeap) (hR : slices_reverseRangeCmpFunc_api_Row.cps C N (s 0) (s 1) (s 2) (s 3) h Q) : bwp P C slices_reverseRangeCmpFunc_api_Row.I (Try.f53.body.getD .skip) (retB P slices_reverseRangeCmpFunc_api_Row.I Try.f53.results.toList Q) s h :=
  eS hC (fun s h => B.pv (V.bin .sub (s 2) (.int .i64 1)) fun v12 =>
    LoopR (slices_reverseRangeCmpFuncG.l2 C (opsF 2 48 [.nils, .nils] 0 []) Q (s 0)) [(s 8), v12] h) (e1 hR) (fun s h hR => eS hC (fun s h => LoopR (slices_reverseRangeCmpFuncG.l2 C (opsF 2 48 [.nils, .nils] 0 []) Q (s 0)) [(s 8), (s 9)] h) (e1 hR) (fun s h hR => eK (eL hC [0] [8, 9] (fun kv lv h Y1 => match kv with | [v0] => slices_reverseRangeCmpFuncG.l2 C (opsF 2 48 [.nils, .nils] 0 []) Q v0 lv h Y1 | _ => False) hR (fun Y1 s h hR => e1 hR))))
theorem slices_reverseRangeCmpFunc_api_Row.imp : slices_reverseRangeCmpFunc_api_Row.Imp (AC P) N := fun v0 v1 v2 v3 h Q hR => eF mixed (fn := Try.f53) (fun hC => slices_reverseRangeCmpFunc_api_Row.L hC (dn Q) (startS [v0, v1, v2, v3]) h hR)

def slices_partialInsertionSortCmpFunc_api_Row.I : Bx := ⟨[], [], 141, [(5, [(0, []), (1, []), (2, []), (3, []), (4, []), (5, []), (6, []), (7, []), (8, []), (9, []), (10, []), (11, []), (12, []), (13, []), (14, []), (15, []), (16, []), (17, [])]), (11, [(0, []), (1, []), (2, []), (3, []), (4, []), (5, []), (6, []), (7, []), (8, []), (9, []), (10, []), (11, []), (12, []), (13, []), (14, []), (15, []), (16, []), (17, [])]), (16, [(0, []), (1, []), (2, []), (3, []), (4, []), (5, []), (6, []), (7, []), (8, []), (9, []), (10, []), (11, []), (12, [])]), (17, [(0, []), (1, []), (2, []), (3, []), (4, []), (5, []), (6, []), (7, []), (8, []), (9, []), (10, []), (11, []), (12, []), (13, []), (14, []), (15, []), (16, []), (17, [])]), (22, [(0, []), (1, []), (2, []), (3, []), (4, []), (5, []), (6, []), (7, []), (8, []), (9, []), (10, []), (11, []), (12, [])]), (23, [(0, []), (1, []), (2, []), (3, []), (4, []), (5, []), (6, []), (7, []), (8, []), (9, []), (10, []), (11, []), (12, []), (13, []), (14, []), (15, []), (16, []), (17, [])])]⟩
theorem slices_partialInsertionSortCmpFunc_api_Row.L {C : CSem} (hC : CMono C) (Q : AVal → AHeap → Prop) (s : Slots) (h : AHeap) (hR : slices_partialInsertionSortCmpFunc_api_Row.cps C N (s 0) (s 1) (s 2) (s 3) h Q) : bwp P C slices_partialInsertionSortCmpFunc_api_Row.I (Try.f54.body.getD .skip) (retB P slices_partialInsertionSortCmpFunc_api_Row.I Try.f54.results.toList Q) s h :=
  eS hC (fun s h => B.pv (V.bin .add (s 1) (.int .i64 1)) fun v14 =>
    LoopR (slices_partialInsertionSortCmpFuncG.l12 C (opsF 2 48 [.nils, .nils] 0 []) Q (s 0) (s 1) (s 2) (s 3)) [v14, (.int .i64 0)] h) (e1 hR) (fun s h hR => eS hC (fun s h => LoopR (slices_partialInsertionSortCmpFuncG.l12 C (opsF 2 48 [.nils, .nils] 0 []) Q (s 0) (s 1) (s 2) (s 3)) [(s 9), (.int .i64 0)] h) (e1 hR) (fun s h hR => eS hC (fun s h => Q (.bool false) h) (eS hC (fun s h => LoopR (slices_partialInsertionSortCmpFuncG.l12 C (opsF 2 48 [.nils, .nils] 0 []) Q (s 0) (s 1) (s 2) (s 3)) [(s 9), (s 10)] h) (e1 hR) (fun s h hR => eK (eL hC [0, 1, 2, 3] [9, 10] (fun kv lv h Y1 => match kv with | [v0, v1, v2, v3] => slices_partialInsertionSortCmpFuncG.l12 C (opsF 2 48 [.nils, .nils] 0 []) Q v0 v1 v2 v3 lv h Y1 | _ => False) hR (fun Y1 s h hR => eS hC (fun s h => LoopR (slices_partialInsertionSortCmpFuncG.l10 C (opsF 2 48 [.nils, .nils] 0 []) Q Y1 (s 0) (s 1) (s 2) (s 3) (s 10)) [(s 9)] h) (e1 hR) (fun s h hR => eS hC (fun s h => B.pv (V.bin .add (s 10) (.int .i64 1)) fun v18 =>
    Y1 [(s 9), v18] h) (eK (eS hC (fun s h => B.pv (V.bin .eql (s 9) (s 2)) fun v41 =>
    B.cond v41
    (Q (.bool true) h)
    (slices_partialInsertionSortCmpFuncG.k8 C (opsF 2 48 [.nils, .nils] 0 []) Q Y1 (s 0) (s 1) (s 2) (s 3) (s 9) (s 10) h)) (eK (eL hC [0, 1, 2, 3, 10] [9] (fun kv lv h Y4 => match kv with | [v0, v1, v2, v3, v10] => slices_partialInsertionSortCmpFuncG.l10 C (opsF 2 48 [.nils, .nils] 0 []) Q Y1 v0 v1 v2 v3 v10 lv h Y4 | _ => False) hR (fun Y4 s h hR => e1 hR))) (fun s h hR => eS hC (fun s h => slices_partialInsertionSortCmpFuncG.k8 C (opsF 2 48 [.nils, .nils] 0 []) Q Y1 (s 0) (s 1) (s 2) (s 3) (s 9) (s 10) h) (e1 hR) (fun s h hR => eS hC (fun s h => slices_partialInsertionSortCmpFuncG.k7 C (opsF 2 48 [.nils, .nils] 0 []) Q Y1 (s 0) (s 1) (s 2) (s 3) (s 9) (s 10) h) (e1 hR) (fun s h hR => eS hC (fun s h => slices_partialInsertionSortCmpFuncG.k6 C (opsF 2 48 [.nils, .nils] 0 []) Q Y1 (s 0) (s 1) (s 2) (s 3) (s 9) (s 10) h) (e1 hR) (fun s h hR => eS hC (fun s h => slices_partialInsertionSortCmpFuncG.k3 C (opsF 2 48 [.nils, .nils] 0 []) Q Y1 (s 0) (s 1) (s 2) (s 3) (s 9) (s 10) h) (eS hC (fun s h => B.cond (s 65) (B.pv (V.bin .sub (s 9) (.int .i64 1)) fun v67 =>
    LoopR (slices_partialInsertionSortCmpFuncG.l5 C (opsF 2 48 [.nils, .nils] 0 []) Q Y1 (s 0) (s 1) (s 2) (s 3) (s 9) (s 10)) [v67] h) (slices_partialInsertionSortCmpFuncG.k3 C (opsF 2 48 [.nils, .nils] 0 []) Q Y1 (s 0) (s 1) (s 2) (s 3) (s 9) (s 10) h)) (e1 hR) (fun s h hR => eC 65 hR (fun hR => eS hC (fun s h => LoopR (slices_partialInsertionSortCmpFuncG.l5 C (opsF 2 48 [.nils, .nils] 0 []) Q Y1 (s 0) (s 1) (s 2) (s 3) (s 9) (s 10)) [(s 11)] h) (e1 hR) (fun s h hR => eK (eL hC [0, 1, 2, 3, 9, 10] [11] (fun kv lv h Y3 => match kv with | [v0, v1, v2, v3, v9, v10] => slices_partialInsertionSortCmpFuncG.l5 C (opsF 2 48 [.nils, .nils] 0 []) Q Y1 v0 v1 v2 v3 v9 v10 lv h Y3 | _ => False) hR (fun Y3 s h hR => e1 hR)))) (fun hR => e1 hR))) (fun s h hR => eS hC (fun s h => B.cond (s 104) (B.pv (V.bin .add (s 9) (.int .i64 1)) fun v106 =>
    LoopR (slices_partialInsertionSortCmpFuncG.l2 C (opsF 2 48 [.nils, .nils] 0 []) Q Y1 (s 0) (s 1) (s 2) (s 3) (s 9) (s 10)) [v106] h) (B.pv (V.bin .add (s 10) (.int .i64 1)) fun v18 =>
    Y1 [(s 9), v18] h)) (e1 hR) (fun s h hR => eC 104 hR (fun hR => eS hC (fun s h => LoopR (slices_partialInsertionSortCmpFuncG.l2 C (opsF 2 48 [.nils, .nils] 0 []) Q Y1 (s 0) (s 1) (s 2) (s 3) (s 9) (s 10)) [(s 12)] h) (e1 hR) (fun s h hR => eK (eL hC [0, 1, 2, 3, 9, 10] [12] (fun kv lv h Y2 => match kv with | [v0, v1, v2, v3, v9, v10] => slices_partialInsertionSortCmpFuncG.l2 C (opsF 2 48 [.nils, .nils] 0 []) Q Y1 v0 v1 v2 v3 v9 v10 lv h Y2 | _ => False) hR (fun Y2 s h hR => e1 hR)))) (fun hR => e1 hR))))))))) (fun s h hR => e1 hR)))))) (fun s h hR => e1 hR)))
theorem slices_partialInsertionSortCmpFunc_api_Row.imp : slices_partialInsertionSortCmpFunc_api_Row.Imp (AC P) N := fun v0 v1 v2 v3 h Q hR => eF mixed (fn := Try.f54) (fun hC => slices_partialInsertionSortCmpFunc_api_Row.L hC (dn Q) (startS [v0, v1, v2, v3]) h hR)

def slices_partitionEqualCmpFunc_api_Row.I : Bx := ⟨[], [], 90, [(1, [(0, []), (1, []), (2, []), (3, []), (4, []), (5, []), (6, []), (7, []), (8, []), (9, []), (10, []), (11, []), (12, []), (13, []), (14, []), (15, [])]), (3, [(0, []), (1, []), (2, []), (3, []), (4, []), (5, []), (6, []), (7, []), (8, []), (9, []), (10, []), (11, []), (12, []), (13, []), (14, []), (15, []), (16, [])]), (5, [(0, []), (1, []), (2, []), (3, []), (4, []), (5, []), (6, []), (7, []), (8, []), (9, []), (10, []), (11, []), (12, []), (13, []), (14, []), (15, [])]), (8, [(0, []), (1, []), (2, []), (3, []), (4, []), (5, []), (6, []), (7, []), (8, []), (9, []), (10, []), (11, []), (12, []), (13, []), (14, []), (15, [])])]⟩
theorem slices_partitionEqualCmpFunc_api_Row.L {C : CSem} (hC : CMono C) (Q : AVal → AHeap → Prop) (s : Slots) (h : AHeap) (hR : slices_partitionEqualCmpFunc_api_Row.cps C N (s 0) (s 1) (s 2) (s 3) (s 4) h Q) : bwp P C slices_partitionEqualCmpFunc_api_Row.I (Try.f55.body.getD .skip) (retB P slices_partitionEqualCmpFunc_api_Row.I Try.f55.results.toList Q) s h :=
  eS hC (fun s h => slices_partitionEqualCmpFuncG.k8 C (opsF 2 48 [.nils, .nils] 0 []) Q (s 0) (s 1) (s 2) (s 3) (s 4) h) (e1 hR) (fun s h hR => eS hC (fun s h => slices_partitionEqualCmpFuncG.k7 C (opsF 2 48 [.nils, .nils] 0 []) Q (s 0) (s 1) (s 2) (s 4) h) (e1 hR) (fun s h hR => eS hC (fun s h => LoopR (slices_partitionEqualCmpFuncG.l6 C (opsF 2 48 [.nils, .nils] 0 []) Q (s 0) (s 1) (s 4)) [(s 11), (s 12)] h) (e1 hR) (fun s h hR => eS hC (fun s h => Q (s 11) h) (eK (eL hC [0, 1, 4] [11, 12] (fun kv lv h Y1 => match kv with | [v0, v1, v4] => slices_partitionEqualCmpFuncG.l6 C (opsF 2 48 [.nils, .nils] 0 []) Q v0 v1 v4 lv h Y1 | _ => False) hR (fun Y1 s h hR => eK (eS hC (fun s h => LoopR (slices_partitionEqualCmpFuncG.l3 C (opsF 2 48 [.nils, .nils] 0 []) Q Y1 (s 0) (s 1) (s 4) (s 11)) [(s 12)] h) (eK (eL hC [0, 1, 4, 12] [11] (fun kv lv h Y3 => match kv with | [v0, v1, v4, v12] => slices_partitionEqualCmpFuncG.l5 C (opsF 2 48 [.nils, .nils] 0 []) Q Y1 v0 v1 v4 v12 lv h Y3 | _ => False) hR (fun Y3 s h hR => e1 hR))) (fun s h hR => eS hC (fun s h => slices_partitionEqualCmpFuncG.k1 C (opsF 2 48 [.nils, .nils] 0 []) Q Y1 (s 0) (s 1) (s 4) (s 11) (s 12) h) (eK (eL hC [0, 1, 4, 11] [12] (fun kv lv h Y2 => match kv with | [v0, v1, v4, v11] => slices_partitionEqualCmpFuncG.l3 C (opsF 2 48 [.nils, .nils] 0 []) Q Y1 v0 v1 v4 v11 lv h Y2 | _ => False) hR (fun Y2 s h hR => e1 hR))) (fun s h hR => e1 hR)))))) (fun s h hR => e1 hR))))
theorem slices_partitionEqualCmpFunc_api_Row.imp : slices_partitionEqualCmpFunc_api_Row.Imp (AC P) N := fun v0 v1 v2 v3 v4 h Q hR => eF mixed (fn := Try.f55) (fun hC => slices_partitionEqualCmpFunc_api_Row.L hC (dn Q) (startS [v0, v1, v2, v3, v4]) h hR)

def slices_partitionCmpFunc_api_Row.I : Bx := ⟨[], [], 178, [(1, [(0, []), (1, []), (2, []), (3, []), (4, []), (5, []), (6, []), (7, []), (8, []), (9, []), (10, []), (11, []), (12, []), (13, []), (14, []), (15, [])]), (3, [(0, []), (1, []), (2, []), (3, []), (4, []), (5, []), (6, []), (7, []), (8, []), (9, []), (10, []), (11, []), (12, []), (13, []), (14, []), (15, [])]), (5, [(0, []), (1, []), (2, []), (3, []), (4, []), (5, []), (6, []), (7, []), (8, []), (9, []), (10, []), (11, []), (12, []), (13, []), (14, []), (15, []), (16, [])]), (8, [(0, []), (1, []), (2, []), (3, []), (4, []), (5, []), (6, []), (7, []), (8, []), (9, []), (10, []), (11, []), (12, []), (13, []), (14, []), (15, [])]), (10, [(0, []), (1, []), (2, []), (3, []), (4, []), (5, []), (6, []), (7, []), (8, []), (9, []), (10, []), (11, []), (12, []), (13, []), (14, []), (15, [])]), (13, [(0, []), (1, []), (2, []), (3, []), (4, []), (5, []), (6, []), (7, []), (8, []), (9, []), (10, []), (11, []), (12, []), (13, []), (14, []), (15, [])]), (15, [(0, []), (1, []), (2, []), (3, []), (4, []), (5, []), (6, []), (7, []), (8, []), (9, []), (10, []), (11, []), (12, []), (13, []), (14, []), (15, []), (16, [])]), (18, [(0, []), (1, []), (2, []), (3, []), (4, []), (5, []), (6, []), (7, []), (8, []), (9, []), (10, []), (11, []), (12, []), (13, []), (14, []), (15, [])]), (21, [(0, []), (1, []), (2, []), (3, []), (4, []), (5, []), (6, []), (7, []), (8, []), (9, []), (10, []), (11, []), (12, []), (13, []), (14, []), (15, [])])]⟩
theorem slices_partitionCmpFunc_api_Row.L {C : CSem} (hC : CMono C) (Q : AVal → AHeap → Prop) (s : Slots) (h : AHeap) (hR : slices_partitionCmpFunc_api_Row.cps C N (s 0) (s 1) (s 2) (s 3) (s 4) h Q) : bwp P C slices_partitionCmpFunc_api_Row.I (Try.f56.body.getD .skip) (retB P slices_partitionCmpFunc_api_Row.I Try.f56.results.toList Q) s h :=
  eS hC (fun s h => slices_partitionCmpFuncG.k16 C (opsF 2 48 [.nils, .nils] 0 []) Q (s 0) (s 1) (s 2) (s 3) (s 4) h) (e1 hR) (fun s h hR => eS hC (fun s h => slices_partitionCmpFuncG.k15 C (opsF 2 48 [.nils, .nils] 0 []) Q (s 0) (s 1) (s 2) (s 4) h) (e1 hR) (fun s h hR => eS hC (fun s h => LoopR (slices_partitionCmpFuncG.l14 C (opsF 2 48 [.nils, .nils] 0 []) Q (s 0) (s 1) (s 4) (s 13)) [(s 12)] h) (e1 hR) (fun s h hR => eS hC (fun s h => LoopR (slices_partitionCmpFuncG.l12 C (opsF 2 48 [.nils, .nils] 0 []) Q (s 0) (s 1) (s 4) (s 12)) [(s 13)] h) (eK (eL hC [0, 1, 4, 13] [12] (fun kv lv h Y5 => match kv with | [v0, v1, v4, v13] => slices_partitionCmpFuncG.l14 C (opsF 2 48 [.nils, .nils] 0 []) Q v0 v1 v4 v13 lv h Y5 | _ => False) hR (fun Y5 s h hR => e1 hR))) (fun s h hR => eS hC (fun s h => slices_partitionCmpFuncG.k10 C (opsF 2 48 [.nils, .nils] 0 []) Q (s 0) (s 1) (s 4) (s 12) (s 13) h) (eK (eL hC [0, 1, 4, 12] [13] (fun kv lv h Y4 => match kv with | [v0, v1, v4, v12] => slices_partitionCmpFuncG.l12 C (opsF 2 48 [.nils, .nils] 0 []) Q v0 v1 v4 v12 lv h Y4 | _ => False) hR (fun Y4 s h hR => e1 hR))) (fun s h hR => eS hC (fun s h => slices_partitionCmpFuncG.k9 C (opsF 2 48 [.nils, .nils] 0 []) Q (s 0) (s 1) (s 4) (s 12) (s 13) h) (e1 hR) (fun s h hR => eS hC (fun s h => slices_partitionCmpFuncG.k8 C (opsF 2 48 [.nils, .nils] 0 []) Q (s 0) (s 1) (s 4) (s 12) (s 13) h) (e1 hR) (fun s h hR => eS hC (fun s h => B.pv (V.bin .sub (s 13) (.int .i64 1)) fun v104 =>
    LoopR (slices_partitionCmpFuncG.l7 C (opsF 2 48 [.nils, .nils] 0 []) Q (s 0) (s 1) (s 4)) [(s 12), v104] h) (e1 hR) (fun s h hR => eS hC (fun s h => LoopR (slices_partitionCmpFuncG.l7 C (opsF 2 48 [.nils, .nils] 0 []) Q (s 0) (s 1) (s 4)) [(s 12), (s 13)] h) (e1 hR) (fun s h hR => eS hC (fun s h => slices_partitionCmpFuncG.k1 C (opsF 2 48 [.nils, .nils] 0 []) Q (s 0) (s 1) (s 13) h) (eK (eL hC [0, 1, 4] [12, 13] (fun kv lv h Y1 => match kv with | [v0, v1, v4] => slices_partitionCmpFuncG.l7 C (opsF 2 48 [.nils, .nils] 0 []) Q v0 v1 v4 lv h Y1 | _ => False) hR (fun Y1 s h hR => eK (eS hC (fun s h => LoopR (slices_partitionCmpFuncG.l4 C (opsF 2 48 [.nils, .nils] 0 []) Q Y1 (s 0) (s 1) (s 4) (s 12)) [(s 13)] h) (eK (eL hC [0, 1, 4, 13] [12] (fun kv lv h Y3 => match kv with | [v0, v1, v4, v13] => slices_partitionCmpFuncG.l6 C (opsF 2 48 [.nils, .nils] 0 []) Q Y1 v0 v1 v4 v13 lv h Y3 | _ => False) hR (fun Y3 s h hR => e1 hR))) (fun s h hR => eS hC (fun s h => slices_partitionCmpFuncG.k2 C (opsF 2 48 [.nils, .nils] 0 []) Q Y1 (s 0) (s 1) (s 4) (s 12) (s 13) h) (eK (eL hC [0, 1, 4, 12] [13] (fun kv lv h Y2 => match kv with | [v0, v1, v4, v12] => slices_partitionCmpFuncG.l4 C (opsF 2 48 [.nils, .nils] 0 []) Q Y1 v0 v1 v4 v12 lv h Y2 | _ => False) hR (fun Y2 s h hR => e1 hR))) (fun s h hR => e1 hR)))))) (fun s h hR => e1 hR))))))))))
theorem slices_partitionCmpFunc_api_Row.imp : slices_partitionCmpFunc_api_Row.Imp (AC P) N := fun v0 v1 v2 v3 v4 h Q hR => eF mixed (fn := Try.f56) (fun hC => slices_partitionCmpFunc_api_Row.L hC (dn Q) (startS [v0, v1, v2, v3, v4]) h hR)

def math_bits_Len64.I : Bx := ⟨[], [], 25, []⟩
theorem math_bits_Len64.L {C : CSem} (hC : CMono C) (Q : AVal → AHeap → Prop) (s : Slots) (h : AHeap) (hR : math_bits_Len64.cps C N (s 0) h Q) : bwp P C math_bits_Len64.I (Try.f58.body.getD .skip) (retB P math_bits_Len64.I Try.f58.results.toList Q) s h :=
  eS hC (fun s h => math_bits_Len64.k4 C N Q (s 0) (s 2) h) (e1 hR) (fun s h hR => eS hC (fun s h => math_bits_Len64.k3 C N Q (s 0) (s 2) h) (e1 hR) (fun s h hR => eS hC (fun s h => math_bits_Len64.k2 C N Q (s 0) (s 2) h) (e1 hR) (fun s h hR => eS hC (fun s h => math_bits_Len64.k1 C N Q (s 0) (s 2) h) (e1 hR) (fun s h hR => e1 hR))))
theorem math_bits_Len64.imp : math_bits_Len64.Imp (AC P) N := fun v0 h Q hR => eF mixed (fn := Try.f58) (fun hC => math_bits_Len64.L hC (dn Q) (startS [v0]) h hR)

def slices_siftDownCmpFunc_api_Row.I : Bx := ⟨[], [], 82, [(3, [(0, []), (1, []), (2, []), (3, []), (4, []), (5, []), (6, []), (7, []), (8, []), (9, []), (10, []), (11, []), (12, []), (13, []), (14, []), (15, []), (16, []), (17, []), (18, []), (19, []), (20, []), (21, [])]), (5, [(0, []), (1, []), (2, []), (3, []), (4, []), (5, []), (6, []), (7, []), (8, []), (9, []), (10, []), (11, []), (12, []), (13, []), (14, []), (15, [])]), (6, [(0, []), (1, []), (2, []), (3, []), (4, []), (5, []), (6, []), (7, []), (8, []), (9, []), (10, []), (11, []), (12, []), (13, []), (14, []), (15, []), (16, []), (17, []), (18, []), (19, []), (20, []), (21, []), (22, []), (23, [])])]⟩
theorem slices_siftDownCmpFunc_api_Row.L {C : CSem} (hC : CMono C) (Q : AVal → AHeap → Prop) (s : Slots) (h : AHeap) (hR : slices_siftDownCmpFunc_api_Row.cps C N (s 0) (s 1) (s 2) (s 3) (s 4) h Q) : bwp P C slices_siftDownCmpFunc_api_Row.I (Try.f59.body.getD .skip) (retB P slices_siftDownCmpFunc_api_Row.I Try.f59.results.toList Q) s h :=
  eS hC (fun s h => LoopR (slices_siftDownCmpFuncG.l4 C (opsF 2 48 [.nils, .nils] 0 []) Q (s 0) (s 2) (s 3) (s 4)) [(s 10)] h) (e1 hR) (fun s h hR => eK (eL hC [0, 2, 3, 4] [10] (fun kv lv h Y1 => match kv with | [v0, v2, v3, v4] => slices_siftDownCmpFuncG.l4 C (opsF 2 48 [.nils, .nils] 0 []) Q v0 v2 v3 v4 lv h Y1 | _ => False) hR (fun Y1 s h hR => eK (eS hC (fun s h => B.pv (V.bin .geq (s 11) (s 2)) fun v18 =>
    B.cond v18
    (Q (.tup []) h)
    (slices_siftDownCmpFuncG.k2 C (opsF 2 48 [.nils, .nils] 0 []) Q Y1 (s 0) (s 2) (s 3) (s 4) (s 10) (s 11) h)) (e1 hR) (fun s h hR => eS hC (fun s h => slices_siftDownCmpFuncG.k2 C (opsF 2 48 [.nils, .nils] 0 []) Q Y1 (s 0) (s 2) (s 3) (s 4) (s 10) (s 11) h) (e1 hR) (fun s h hR => eS hC (fun s h => slices_siftDownCmpFuncG.k1 C (opsF 2 48 [.nils, .nils] 0 []) Q Y1 (s 0) (s 2) (s 3) (s 4) (s 10) (s 11) h) (e1 hR) (fun s h hR => e1 hR)))))))
theorem slices_siftDownCmpFunc_api_Row.imp : slices_siftDownCmpFunc_api_Row.Imp (AC P) N := fun v0 v1 v2 v3 v4 h Q hR => eF mixed (fn := Try.f59) (fun hC => slices_siftDownCmpFunc_api_Row.L hC (dn Q) (startS [v0, v1, v2, v3, v4]) h hR)

def slices_nextPowerOfTwo.I : Bx := ⟨[], [], 7, []⟩
theorem slices_nextPowerOfTwo.L {C : CSem} (hC : CMono C) (Q : AVal → AHeap → Prop) (s : Slots) (h : AHeap) (hR : slices_nextPowerOfTwo.cps C N (s 0) h Q) : bwp P C slices_nextPowerOfTwo.I (Try.f60.body.getD .skip) (retB P slices_nextPowerOfTwo.I Try.f60.results.toList Q) s h :=
  e1 hR
theorem slices_nextPowerOfTwo.imp : slices_nextPowerOfTwo.Imp (AC P) N := fun v0 h Q hR => eF mixed (fn := Try.f60) (fun hC => slices_nextPowerOfTwo.L hC (dn Q) (startS [v0]) h hR)

def slices_xorshift_Next.I : Bx := ⟨[], [], 33, [(1, [(0, []), (1, []), (2, []), (3, []), (4, []), (5, []), (6, []), (7, []), (8, []), (9, [])]), (2, [(0, []), (1, []), (2, []), (3, []), (4, []), (5, []), (6, []), (7, []), (8, []), (9, [])]), (3, [(0, []), (1, []), (2, []), (3, []), (4, []), (5, []), (6, []), (7, []), (8, []), (9, [])])]⟩
theorem slices_xorshift_Next.L {C : CSem} (hC : CMono C) (Q : AVal → AHeap → Prop) (s : Slots) (h : AHeap) (hR : slices_xorshift_Next.cps C N (s 0) h Q) : bwp P C slices_xorshift_Next.I (Try.f61.body.getD .skip) (retB P slices_xorshift_Next.I Try.f61.results.toList Q) s h :=
  e1 hR
theorem slices_xorshift_Next.imp : slices_xorshift_Next.Imp (AC P) N := fun v0 h Q hR => eF mixed (fn := Try.f61) (fun hC => slices_xorshift_Next.L hC (dn Q) (startS [v0]) h hR)

def slices_medianAdjacentCmpFunc_api_Row.I : Bx := ⟨[], [], 18, []⟩
theorem slices_medianAdjacentCmpFunc_api_Row.L {C : CSem} (hC : CMono C) (Q : AVal → AHeap → Prop) (s : Slots) (h : AHeap) (hR : slices_medianAdjacentCmpFunc_api_Row.cps C N (s 0) (s 1) (s 2) (s 3) h Q) : bwp P C slices_medianAdjacentCmpFunc_api_Row.I (Try.f62.body.getD .skip) (retB P slices_medianAdjacentCmpFunc_api_Row.I Try.f62.results.toList Q) s h :=
  e1 hR
theorem slices_medianAdjacentCmpFunc_api_Row.imp : slices_medianAdjacentCmpFunc_api_Row.Imp (AC P) N := fun v0 v1 v2 v3 h Q hR => eF mixed (fn := Try.f62) (fun hC => slices_medianAdjacentCmpFunc_api_Row.L hC (dn Q) (startS [v0, v1, v2, v3]) h hR)

def slices_medianCmpFunc_api_Row.I : Bx := ⟨[], [], 41, []⟩
theorem slices_medianCmpFunc_api_Row.L {C : CSem} (hC : CMono C) (Q : AVal → AHeap → Prop) (s : Slots) (h : AHeap) (hR : slices_medianCmpFunc_api_Row.cps C N (s 0) (s 1) (s 2) (s 3) (s 4) (s 5) h Q) : bwp P C slices_medianCmpFunc_api_Row.I (Try.f63.body.getD .skip) (retB P slices_medianCmpFunc_api_Row.I Try.f63.results.toList Q) s h :=
  e1 hR
theorem slices_medianCmpFunc_api_Row.imp : slices_medianCmpFunc_api_Row.Imp (AC P) N := fun v0 v1 v2 v3 v4 v5 h Q hR => eF mixed (fn := Try.f63) (fun hC => slices_medianCmpFunc_api_Row.L hC (dn Q) (startS [v0, v1, v2, v3, v4, v5]) h hR)

def slices_order2CmpFunc_api_Row.I : Bx := ⟨[], [], 32, [(1, [(0, []), (1, []), (2, []), (3, []), (4, []), (5, []), (6, []), (7, []), (8, []), (9, []), (10, [])])]⟩
theorem slices_order2CmpFunc_api_Row.L {C : CSem} (hC : CMono C) (Q : AVal → AHeap → Prop) (s : Slots) (h : AHeap) (hR : slices_order2CmpFunc_api_Row.cps C N (s 0) (s 1) (s 2) (s 3) (s 4) h Q) : bwp P C slices_order2CmpFunc_api_Row.I (Try.f64.body.getD .skip) (retB P slices_order2CmpFunc_api_Row.I Try.f64.results.toList Q) s h :=
  e1 hR
theorem slices_order2CmpFunc_api_Row.imp : slices_order2CmpFunc_api_Row.Imp (AC P) N := fun v0 v1 v2 v3 v4 h Q hR => eF mixed (fn := Try.f64) (fun hC => slices_order2CmpFunc_api_Row.L hC (dn Q) (startS [v0, v1, v2, v3, v4]) h hR)

end Go.Ab.S17

/- What is proved: lists whose elements lead to lists of bytes: how they are read and owned; are they the same, lent, kept, copied. No conditions. -/
set_option linter.unusedVariables false
set_option linter.unusedSimpArgs false
namespace Go.Ab
variable {C : CSem} {N : Nat → Nat}
/-- How long any list may be. -/
def far : Nat := 140737488351232
/-- Bytes at a value. -/
def Bs (h : AHeap) (x : AVal) (b : List UInt8) : Prop := (∃ R, SlX h 1 x (b.map bc) R) ∧ b.length ≤ far
section
variable {h h' : AHeap} {x : AVal} {b : List UInt8}
theorem Bs.mono (hb : Bs h x b) (hle : h.le h') : Bs h' x b := ⟨hb.1.imp fun _ r => r.mono hle, hb.2⟩
theorem Bs.lenSl (hb : Bs h x b) : V.lenSl x = some (.int .i64 b.length) := by
  obtain ⟨⟨R, r⟩, _⟩ := hb
  simpa using r.lenSl
theorem Bs.isCell (hb : Bs h x b) : x.isCell = true := hb.1.elim fun _ r => r.isCell
theorem Bs.nils (h : AHeap) : Bs h .nils [] := ⟨⟨[], SlX.nils h 1⟩, Nat.zero_le _⟩
end
theorem SlX.cutR {h : AHeap} {es : Nat} {x : AVal} {L R S : List (List AVal)} (hs : SlX h es x L (R ++ S)) : SlX h es x L R := by
  refine ⟨fun p hp => hs.len p (by rcases List.mem_append.1 hp with h | h; exact List.mem_append_left _ h; exact List.mem_append_right _ (List.mem_append_left _ h)), ?_⟩
  rcases hs.at_ with ⟨e, e2, e'⟩ | ⟨id, g, off, cp, b, hi, h1, h1', h2, h3, h4, hh, h5⟩
  · exact .inl ⟨e, (List.append_eq_nil_iff.1 e2).1, e'⟩
  · have hl : ∀ p ∈ L ++ R, p.length = es := fun p hp => hs.len p (by rcases List.mem_append.1 hp with h | h; exact List.mem_append_left _ h; exact List.mem_append_right _ (List.mem_append_left _ h))
    have hfl := flat_len hl
    rw [List.length_append] at h1' h4 h5 hfl
    have hm : (L.length + R.length) * es ≤ (L.length + (R.length + S.length)) * es := Nat.mul_le_mul_right _ (by omega)
    refine .inr ⟨id, g, off, cp, b, hi, h1, by omega, h2, h3, by omega, hh, ?_⟩
    have : ((b.cells.drop off).take ((L.length + (R.length + S.length)) * es)).take ((L.length + R.length) * es) = (L ++ R).flatten := by
      rw [h5, ← List.append_assoc, List.flatten_append (L₁ := L ++ R), List.take_append_of_le_length (by omega), List.take_of_length_le (by omega)]
    rw [← this, List.take_take, Nat.min_eq_left hm]
abbrev AllAt (h : AHeap) (l : List Ob) : Prop := ∀ o ∈ l, o.at h
theorem AllAt.mono {h h' : AHeap} {l : List Ob} (ha : AllAt h l) (hle : h.le h') : AllAt h' l := fun o hm => (ha o hm).keep fun _ _ _ e => hle _ _ e
/-- Ad kind of elements: values T, what leads to their bytes A. -/
structure DK (T Ad : Type) where
  n : Nat
  bytes : Nat
  z : List AVal
  pos : 0 < n
  small : bytes ≤ 1000
  zlen : z.length = n
  cells : Ad → List AVal
  len : ∀ a, (cells a).length = n
  at_ : AHeap → T → Ad → Prop
  mono : ∀ {h h' : AHeap} {t : T} {a : Ad}, h.le h' → at_ h t a → at_ h' t a
  ok : T → Prop
  at_ok : ∀ {h : AHeap} {t : T} {a : Ad}, at_ h t a → ok t
  obs : Bool → T → Ad → List Ob
  ofObs : ∀ {b : Bool} {h : AHeap} {t : T} {a : Ad}, ok t → AllAt h (obs b t a) → at_ h t a
section
variable {T Ad : Type} (K : DK T Ad)
abbrev DK.cs (p : T × Ad) : List AVal := K.cells p.2
def DK.os (b : Bool) (P : List (T × Ad)) : List Ob := P.flatMap fun p => K.obs b p.1 p.2
/-- Ad list that is read so. -/
def Dl (h : AHeap) (x : AVal) (L : List T) : Prop := ∃ (P : List (T × Ad)) (R : List (List AVal)), P.map (·.1) = L ∧ SlX h K.n x (P.map K.cs) R ∧ ∀ p ∈ P, K.at_ h p.1 p.2
/-- An element. -/
structure DEl (h : AHeap) (x : AVal) (i : Nat) (t : T) (a : Ad) : Prop where
  idx : V.idxS K.n x (.int .i64 (i : Int)) = some (elp K.n x i 0)
  ldn : A.ldnv h (elp K.n x i 0) K.n = some (.agg (K.cells a))
  fld : ∀ f o, V.fieldAddr o (elp K.n x i f) = some (elp K.n x i (f + o))
  ld : ∀ f, f < K.n → A.ldv h (elp K.n x i f) = (K.cells a)[f]?
  at_ : K.at_ h t a
variable {K} {h h' h0 : AHeap} {x : AVal} {L M : List T}
theorem DEl.mono {i : Nat} {t : T} {a : Ad} (hx : ∃ L R, SlX h K.n x L R ∧ L[i]? = some (K.cells a)) (hd : DEl K h x i t a) (hle : h.le h') : DEl K h' x i t a := by
  obtain ⟨L, R, s, hi⟩ := hx
  have s' := s.mono hle
  exact ⟨hd.idx, s'.elem hi, hd.fld, fun f hf => s'.ldv hi hf, K.mono hle hd.at_⟩
theorem slX_el {h : AHeap} {x : AVal} {P : List (T × Ad)} {R : List (List AVal)} (s : SlX h K.n x (P.map K.cs) R) (ha : ∀ p ∈ P, K.at_ h p.1 p.2) {i : Nat} {p : T × Ad} (hi : P[i]? = some p) : DEl K h x i p.1 p.2 := by
  have hc : (P.map K.cs)[i]? = some (K.cells p.2) := by rw [List.getElem?_map, hi]; rfl
  have hl : i < (P.map K.cs).length := (List.getElem?_eq_some_iff.1 hc).1
  exact ⟨s.idxN hl, s.elem hc, fun f o => s.fieldA hl f o, fun f hf => s.ldv hc hf, ha p (List.mem_of_getElem? hi)⟩
theorem Dl.get (hd : Dl K h x L) {i : Nat} {t : T} (hi : L[i]? = some t) : ∃ a, DEl K h x i t a := by
  obtain ⟨P, R, rfl, s, ha⟩ := hd
  rw [List.getElem?_map] at hi
  obtain ⟨p, hp, rfl⟩ := Option.map_eq_some_iff.1 hi
  exact ⟨p.2, slX_el s ha hp⟩
theorem Dl.mono (hd : Dl K h x L) (hle : h.le h') : Dl K h' x L := by
  obtain ⟨P, R, e, s, ha⟩ := hd
  exact ⟨P, R, e, s.mono hle, fun p hp => K.mono hle (ha p hp)⟩
theorem Dl.lenSl (hd : Dl K h x L) : V.lenSl x = some (.int .i64 L.length) := by
  obtain ⟨P, R, rfl, s, ha⟩ := hd
  simpa using s.lenSl
theorem Dl.isCell (hd : Dl K h x L) : x.isCell = true := by
  obtain ⟨P, R, rfl, s, ha⟩ := hd
  exact s.isCell
theorem Dl.nils (K : DK T Ad) (h : AHeap) : Dl K h .nils [] := ⟨[], [], rfl, SlX.nils h K.n, fun _ h => by cases h⟩
theorem Dl.sz (K : DK T Ad) (h : AHeap) : Dl K h .sz [] := ⟨[], [], rfl, SlX.sz h K.n, fun _ h => by cases h⟩
theorem Dl.tail {t : T} (hd : Dl K h x (t :: L)) : ∃ y, V.cutSl K.n x (some (.int .i64 1)) none = some y ∧ Dl K h y L := by
  obtain ⟨P, R, e, s, ha⟩ := hd
  cases P with
  | nil => cases e
  | cons p P =>
    simp only [List.map_cons, List.cons.injEq] at e
    obtain ⟨y, e1, e2, e3⟩ := s.slice K.pos (lo := 1) (hi := (p :: P).length) (a := some (.int .i64 1)) (b := none) (.inr ⟨_, rfl⟩) (.inl ⟨rfl, by simp⟩) (by simp) (by simp)
    have h1 : (((p :: P).map K.cs ++ R).take (p :: P).length).drop 1 = P.map K.cs := by
      rw [List.take_append_of_le_length (by simp), List.take_of_length_le (by simp)]; rfl
    rw [h1] at e2
    exact ⟨y, e1, P, _, e.2, e2, fun q hq => ha q (List.mem_cons_of_mem _ hq)⟩
theorem Dl.ok (hd : Dl K h x L) : ∀ t ∈ L, K.ok t := by
  obtain ⟨P, R, rfl, s, ha⟩ := hd
  intro t ht
  obtain ⟨p, hp, rfl⟩ := List.mem_map.1 ht
  exact K.at_ok (ha p hp)
theorem dl_of {P : List (T × Ad)} {R : List (List AVal)} {b : Bool} {l : List Ob} (hok : ∀ p ∈ P, K.ok p.1) (hl : AllAt h l) (h1 : .sl K.n x (P.map K.cs) R ∈ l) (h2 : ∀ o ∈ K.os b P, o ∈ l) : Dl K h x (P.map (·.1)) :=
  ⟨P, R, rfl, hl _ h1, fun p hp => K.ofObs (hok p hp) fun o ho => hl o (h2 o (List.mem_flatMap.2 ⟨p, hp, ho⟩))⟩
theorem DK.os_append (b : Bool) (P P' : List (T × Ad)) : K.os b (P ++ P') = K.os b P ++ K.os b P' := List.flatMap_append
theorem DK.os_one (b : Bool) (p : T × Ad) : K.os b [p] = K.obs b p.1 p.2 := by simp [DK.os]
/-- Ad list of one's own, with all that it leads to. -/
abbrev Df (K : DK T Ad) (h0 h : AHeap) (x : AVal) (P : List (T × Ad)) : Prop := Owns h0 h (.sl K.n x (P.map K.cs) [] :: K.os false P)
theorem Df.dl {P : List (T × Ad)} (hd : Df K h0 h x P) (hok : ∀ p ∈ P, K.ok p.1) : Dl K h x (P.map (·.1)) := dl_of (b := false) hok hd.is (List.mem_cons_self ..) fun o ho => List.mem_cons_of_mem _ ho

/-! What the statements share. -/
def SameE (K : DK T Ad) [DecidableEq T] (C : CSem) (f : Nat) : Prop := ∀ (t u : T) (a b : Ad) (h : AHeap) (Q : AVal → AHeap → Prop), K.at_ h t a → K.at_ h u b → Q (.bool (decide (t = u))) h → C f [.agg (K.cells a), .agg (K.cells b)] h Q
def OneE (K : DK T Ad) (b : Bool) (C : CSem) (f : Nat) : Prop := ∀ (t : T) (a : Ad) (h : AHeap) (Q : AVal → AHeap → Prop), K.at_ h t a → (∀ a' h', Owns h h' (K.obs b t a') → Q (.agg (K.cells a')) h') → C f [.agg (K.cells a)] h Q
def KeptE (K : DK T Ad) [DecidableEq T] (C : CSem) (f : Nat) : Prop := ∀ (t u : T) (a b : Ad) (h : AHeap) (Q : AVal → AHeap → Prop), K.ok t → AllAt h (K.obs true t a) → K.at_ h u b → Q (.bool (decide (t = u))) h → C f [.agg (K.cells a), .agg (K.cells b)] h Q
def MarkE (K : DK T Ad) (mk : Int → Int → T) (C : CSem) (f : Nat) : Prop := ∀ (k i : Int) (h : AHeap) (Q : AVal → AHeap → Prop), (∀ a' h', Owns h h' (K.obs false (mk k i) a') → Q (.agg (K.cells a')) h') → C f [.int .i64 k, .int .i64 i] h Q
theorem fill_agg (K : DK T Ad) (a : Ad) : fillL [(0, some K.n, .agg (K.cells a))] (repL 1 K.z) = some (K.cells a) := by
  have hrep : repL 1 K.z = K.z := by unfold repL; split <;> simp_all
  have h1 := K.len a
  rw [hrep]
  simp [h1, K.zlen]

@[simp] def sameD.k1 (C : CSem) (n f : Nat) (Q : AVal → AHeap → Prop) (Y1 : List AVal → AHeap → Prop) (v0 v1 v5 : AVal) (h : AHeap) : Prop :=
  B.pv (V.lenSl v0) fun v13 =>
    B.pv (V.bin .lss v5 v13) fun v14 =>
    B.cond v14
    (B.pv (V.idxS n v0 v5) fun v19 =>
    B.ldn h v19 n fun v20 =>
    B.pv (V.idxS n v1 v5) fun v23 =>
    B.ldn h v23 n fun v24 =>
    B.call C f [v20, v24] h fun v25 h =>
    B.pv (V.un .not v25) fun v26 =>
    B.cond v26
    (Q (.bool false) h)
    (B.pv (V.bin .add v5 (.int .i64 1)) fun v16 =>
    Y1 [v16] h))
    (Q (.bool true) h)
@[simp] def sameD.l2 (C : CSem) (n f : Nat) (Q : AVal → AHeap → Prop) (v0 v1 : AVal) : List AVal → AHeap → (List AVal → AHeap → Prop) → Prop
  | [v5], h, Y1 => sameD.k1 C n f Q Y1 v0 v1 v5 h
  | _, _, _ => False
def sameD (C : CSem) (n f : Nat) (v0 v1 : AVal) (h : AHeap) (Q : AVal → AHeap → Prop) : Prop :=
  B.pv (V.lenSl v0) fun v7 =>
    B.pv (V.lenSl v1) fun v9 =>
    B.pv (V.bin .neq v7 v9) fun v10 =>
    B.cond v10
    (Q (.bool false) h)
    (LoopR (sameD.l2 C n f Q v0 v1) [(.int .i64 0)] h)
theorem sameD_spec [DecidableEq T] {f : Nat} (sf : SameE K C f) {y : AVal} {Q : AVal → AHeap → Prop} (hx : Dl K h x L) (hy : Dl K h y M) (hlen : L.length < 4611686018427387904) (hq : Q (.bool (decide (L = M))) h) : sameD C K.n f x y h Q := by
  have hlx := hx.lenSl
  have hly := hy.lenSl
  simp -dsimp [sameD, hlx, hly]
  refine B.cond_bool (fun hb => ?_) (fun hb => ?_) <;> simp -dsimp at hb ⊢
  · rw [decide_eq_false fun e => hb (by rw [e])] at hq
    exact hq
  · refine LoopR.intro (fun n vs hh => ∃ k, k + n = L.length ∧ vs = [.int .i64 k] ∧ hh = h ∧ L.take k = M.take k) L.length ?_ ⟨0, by simp, by simp, rfl, by simp⟩
    rintro Y n vs _ ⟨k, hn, rfl, rfl, he⟩ hY
    simp -dsimp [hlx]
    refine B.cond_bool (fun hc => ?_) (fun hc => ?_) <;> simp -dsimp at hc ⊢
    · obtain ⟨w, hw⟩ := get_lt hc
      obtain ⟨u, hu⟩ := get_lt (L := M) (k := k) (by omega)
      obtain ⟨a, ea⟩ := hx.get hw
      obtain ⟨b, eb⟩ := hy.get hu
      simp -dsimp only [ea.idx, ea.ldn, eb.idx, eb.ldn, B.pv_some, B.ldn_eq]
      refine sf _ _ _ _ _ _ ea.at_ eb.at_ ?_
      simp -dsimp only [V.un_not, B.pv_some]
      refine B.cond_bool (fun hd => ?_) (fun hd => ?_) <;> simp -dsimp at hd ⊢
      · rw [decide_eq_false fun e => by subst e; rw [hw] at hu; cases hu; exact hd rfl] at hq
        exact hq
      · simp [inc64 (n := k) (by omega)]
        refine hY (L.length - (k + 1)) _ _ (by omega) ⟨k + 1, by omega, by simp, rfl, ?_⟩
        rw [take_succ hw, take_succ hu, he, hd]
    · rw [List.take_of_length_le (by omega), List.take_of_length_le (by omega)] at he
      rw [decide_eq_true he] at hq
      exact hq

/-- The marks behind a list that is lent. -/
def mks12 (mk : Int → Int → T) : List T := (List.range 12).map fun (i : Nat) => mk 1 (i : Int)
@[simp] def lentD.k1 (C : CSem) (n bytes fm : Nat) (z : List AVal) (Q : AVal → AHeap → Prop) (Y1 : List AVal → AHeap → Prop) (v0 v3 v6 : AVal) (h : AHeap) : Prop :=
  B.pv (V.bin .lss v6 (.int .i64 12)) fun v27 =>
    B.cond v27
    (B.call C fm [(.int .i64 1), v6] h fun v32 h =>
    B.newO h (fillL [(0, some n, v32)] (repL 1 z)) fun i33 h =>
    B.appW h n bytes v3 (.sl i33 0 0 1 n 1) fun v34 h =>
    B.pv (V.bin .add v6 (.int .i64 1)) fun v29 =>
    Y1 [v34, v29] h)
    (B.pv (V.lenSl v0) fun v37 =>
    B.pv (V.cutSl n v3 none (some v37)) fun v38 =>
    Q v38 h)
@[simp] def lentD.l2 (C : CSem) (n bytes fm : Nat) (z : List AVal) (Q : AVal → AHeap → Prop) (v0 : AVal) : List AVal → AHeap → (List AVal → AHeap → Prop) → Prop
  | [v3, v6], h, Y1 => lentD.k1 C n bytes fm z Q Y1 v0 v3 v6 h
  | _, _, _ => False
@[simp] def lentD.k3 (C : CSem) (n bytes fm fl : Nat) (z : List AVal) (Q : AVal → AHeap → Prop) (Y2 : List AVal → AHeap → Prop) (v0 v3 v4 : AVal) (h : AHeap) : Prop :=
  B.pv (V.lenSl v0) fun v13 =>
    B.pv (V.bin .lss v4 v13) fun v14 =>
    B.cond v14
    (B.pv (V.idxS n v0 v4) fun v19 =>
    B.ldn h v19 n fun v20 =>
    B.call C fl [v20] h fun v21 h =>
    B.pv (V.setN 0 n v21 (.agg z)) fun c5 =>
    B.pv (V.fieldN 0 n c5) fun v23 =>
    B.newO h (fillL [(0, some n, v23)] (repL 1 z)) fun i24 h =>
    B.appW h n bytes v3 (.sl i24 0 0 1 n 1) fun v25 h =>
    B.pv (V.bin .add v4 (.int .i64 1)) fun v16 =>
    Y2 [v25, v16] h)
    (LoopR (lentD.l2 C n bytes fm z Q v0) [v3, (.int .i64 0)] h)
@[simp] def lentD.l4 (C : CSem) (n bytes fm fl : Nat) (z : List AVal) (Q : AVal → AHeap → Prop) (v0 : AVal) : List AVal → AHeap → (List AVal → AHeap → Prop) → Prop
  | [v3, v4], h, Y2 => lentD.k3 C n bytes fm fl z Q Y2 v0 v3 v4 h
  | _, _, _ => False
def lentD (C : CSem) (n bytes fm fl : Nat) (z : List AVal) (v0 : AVal) (h : AHeap) (Q : AVal → AHeap → Prop) : Prop :=
  B.pv (V.lenSl v0) fun v8 =>
    B.pv (V.bin .add v8 (.int .i64 12)) fun v9 =>
    0 < n ∧ B.mks h bytes (some z) (.int .i64 0) v9 fun v10 h =>
    LoopR (lentD.l4 C n bytes fm fl z Q v0) [v10, (.int .i64 0)] h
theorem setN_whole (K : DK T Ad) (a : Ad) : V.setN 0 K.n (.agg (K.cells a)) (.agg K.z) = some (.agg (K.cells a)) := by
  simp [K.len a, K.zlen]
theorem fieldN_whole (K : DK T Ad) (a : Ad) : V.fieldN 0 K.n (.agg (K.cells a)) = some (.agg (K.cells a)) := by
  have := K.len a
  simp [this]
  rw [← this, List.take_length]
theorem lentD_spec {mk : Int → Int → T} {fm fl : Nat} (sm : MarkE K mk C fm) (sl : OneE K true C fl) {Q : AVal → AHeap → Prop} (hx : Dl K h x L) (hlen : L.length ≤ 100000000)
    (hq : ∀ x' (P PM : List (T × Ad)) h', P.map (·.1) = L → PM.map (·.1) = mks12 mk → Owns h h' (.sl K.n x' (P.map K.cs) (PM.map K.cs) :: (K.os true P ++ K.os false PM)) → Q x' h') : lentD C K.n K.bytes fm fl K.z x h Q := by
  have hlx := hx.lenSl
  have hmul : ∀ n : Nat, n ≤ 100000100 → n * K.bytes ≤ 140737488355328 := fun n hn => by
    have := Nat.mul_le_mul hn K.small
    omega
  have e1 : IntKind.i64.wrap ((L.length : Int) + 12) = (L.length : Int) + 12 := wrap_i64 (by omega) (by omega)
  simp -dsimp [lentD, hlx, e1]
  refine ⟨K.pos, (Owns.start h).mks (es := K.n) K.zlen (by omega) (by omega) ?_ (by omega) fun y h1 ho => ?_⟩
  · have := hmul (L.length + 12) (by omega)
    have e : ((L.length : Int) + 12) * K.bytes = ((L.length + 12) * K.bytes : Nat) := by simp
    rw [e]; omega
  refine LoopR.intro (fun n vs hh => ∃ (k : Nat) (y : AVal) (P : List (T × Ad)) (R : List (List AVal)), k + n = L.length ∧ vs = [y, .int .i64 k] ∧ P.map (·.1) = L.take k ∧ Owns h hh (.sl K.n y (P.map K.cs) R :: K.os true P)) L.length ?_ ⟨0, y, [], _, by simp, by simp, by simp, by simpa [DK.os] using ho⟩
  rintro Y n vs hh ⟨k, y3, P, R3, hn, rfl, hP, ho3⟩ hY
  have hPl : P.length = k := by have := congrArg List.length hP; simp at this; omega
  simp -dsimp [hlx]
  refine B.cond_bool (fun hc => ?_) (fun hc => ?_) <;> simp -dsimp at hc ⊢
  · obtain ⟨w, hw⟩ := get_lt hc
    obtain ⟨a, ea⟩ := (hx.mono ho3.le).get hw
    simp -dsimp only [ea.idx, ea.ldn, B.pv_some, B.ldn_eq]
    refine sl _ _ _ _ ea.at_ fun a' h4 o4 => ?_
    simp -dsimp only [setN_whole K a', fieldN_whole K a', fill_agg K a', B.pv_some]
    refine (ho3.join o4).push 0 rfl (K.len a') K.pos (by simp; exact hmul _ (by omega)) (by simp [maxLen]; omega) fun y5 h5 o5 _ => ?_
    simp -dsimp [inc64 (n := k) (by omega)]
    refine hY (L.length - (k + 1)) _ _ (by omega) ⟨k + 1, y5, P ++ [(w, a')], [], by omega, by simp, ?_, ?_⟩
    · rw [take_succ hw, List.map_append, hP]; rfl
    · rw [DK.os_append, DK.os_one, List.map_append]
      simpa using o5
  · have hk : k = L.length := by omega
    rw [hk, List.take_length] at hP
    refine LoopR.intro (fun n vs hh => ∃ (j : Nat) (y : AVal) (PM : List (T × Ad)) (R : List (List AVal)), j + n = 12 ∧ vs = [y, .int .i64 j] ∧ PM.map (·.1) = (List.range j).map (fun (i : Nat) => mk 1 (i : Int)) ∧ Owns h hh (.sl K.n y (P.map K.cs ++ PM.map K.cs) R :: (K.os true P ++ K.os false PM))) 12 ?_
      ⟨0, y3, [], R3, by simp, by simp, by simp, by simpa [DK.os] using ho3⟩
    rintro Z n' vs h4 ⟨j, y4, PM, R4, hj, rfl, hPM, o4⟩ hZ
    have hMl : PM.length = j := by have := congrArg List.length hPM; simpa using this
    simp -dsimp only [lentD.l2, lentD.k1, V.bin_lss, B.pv_some]
    refine B.cond_bool (fun hd => ?_) (fun hd => ?_) <;> simp -dsimp at hd
    · refine sm _ _ _ _ fun a' h5 o5 => ?_
      simp -dsimp only [fill_agg K a']
      refine (o4.join o5).push 0 rfl (K.len a') K.pos (by simp; exact hmul _ (by omega)) (by simp [maxLen]; omega) fun y6 h6 o6 _ => ?_
      simp -dsimp [inc64 (n := j) (by omega)]
      refine hZ (12 - (j + 1)) _ _ (by omega) ⟨j + 1, y6, PM ++ [(mk 1 j, a')], [], by omega, by simp, ?_, ?_⟩
      · rw [List.map_append, hPM, List.range_succ, List.map_append]; rfl
      · rw [DK.os_append, DK.os_one, List.map_append]
        simpa using o6
    · have hj12 : j = 12 := by omega
      subst hj12
      obtain ⟨x', e2, e3, e4⟩ := (o4.slAt 0 rfl).slice K.pos (lo := 0) (hi := L.length) (a := none) (b := some (.int .i64 L.length)) (.inl ⟨rfl, rfl⟩) (.inr ⟨_, rfl⟩) (by omega) (by simp; omega)
      simp -dsimp only [hlx, e2, B.pv_some]
      have h1 : ((P.map K.cs ++ PM.map K.cs ++ R4).take L.length).drop 0 = P.map K.cs := by
        rw [List.append_assoc, List.take_append_of_le_length (by simp; omega), List.take_of_length_le (by simp; omega), List.drop_zero]
      have h2 : (P.map K.cs ++ PM.map K.cs ++ R4).drop L.length = PM.map K.cs ++ R4 := by
        rw [List.append_assoc, List.drop_append_of_le_length (by simp; omega), List.drop_of_length_le (by simp; omega), List.nil_append]
      rw [h1, h2] at e3
      have e5 : SlX h4 K.n x' (P.map K.cs) (PM.map K.cs) := e3.cutR
      refine hq x' P PM h4 hP hPM ?_
      exact o4.turn 0 rfl (o' := .sl K.n x' (P.map K.cs) (PM.map K.cs)) e5 (fun id b hf hb => o4.ownAt 0 rfl id b (by show foot y4 = some id; rw [← e4]; exact hf) hb) (fun j b hb _ => hb) (.inl e4)
/-- Ad list that was lent. -/
def DLent (K : DK T Ad) (mk : Int → Int → T) (h : AHeap) (x : AVal) (L : List T) : Prop :=
  ∃ P PM : List (T × Ad), P.map (·.1) = L ∧ PM.map (·.1) = mks12 mk ∧ SlX h K.n x (P.map K.cs) (PM.map K.cs) ∧ AllAt h (K.os true P) ∧ (∀ p ∈ P, K.ok p.1) ∧ ∀ p ∈ PM, K.at_ h p.1 p.2
theorem DLent.mono {mk : Int → Int → T} (hd : DLent K mk h x L) (hle : h.le h') : DLent K mk h' x L := by
  obtain ⟨P, PM, e1, e2, s, a1, a0, a2⟩ := hd
  exact ⟨P, PM, e1, e2, s.mono hle, a1.mono hle, a0, fun p hp => K.mono hle (a2 p hp)⟩
theorem DLent.dl {mk : Int → Int → T} (hd : DLent K mk h x L) : Dl K h x L := by
  obtain ⟨P, PM, e1, e2, s, a1, a0, a2⟩ := hd
  exact ⟨P, _, e1, s, fun p hp => K.ofObs (a0 p hp) fun o ho => a1 o (List.mem_flatMap.2 ⟨p, hp, ho⟩)⟩
theorem mks12_ok {mk : Int → Int → T} {PM : List (T × Ad)} (hmk : ∀ k i, K.ok (mk k i)) (e2 : PM.map (·.1) = mks12 mk) : ∀ p ∈ PM, K.ok p.1 := fun p hp => by
  have : p.1 ∈ PM.map (·.1) := List.mem_map.2 ⟨p, hp, rfl⟩
  rw [e2, mks12, List.mem_map] at this
  obtain ⟨i, _, e⟩ := this
  rw [← e]; exact hmk _ _
theorem DLent.of {mk : Int → Int → T} {P PM : List (T × Ad)} (hmk : ∀ k i, K.ok (mk k i)) (hok : ∀ t ∈ L, K.ok t) (e1 : P.map (·.1) = L) (e2 : PM.map (·.1) = mks12 mk) (ho : Owns h0 h (.sl K.n x (P.map K.cs) (PM.map K.cs) :: (K.os true P ++ K.os false PM))) : DLent K mk h x L :=
  ⟨P, PM, e1, e2, ho.slAt 0 rfl, fun o hm => ho.is o (List.mem_cons_of_mem _ (List.mem_append_left _ hm)), fun p hp => hok _ (e1 ▸ List.mem_map.2 ⟨p, hp, rfl⟩), fun p hp => K.ofObs (mks12_ok hmk e2 p hp) fun o hm => ho.is o (List.mem_cons_of_mem _ (List.mem_append_right _ (List.mem_flatMap.2 ⟨p, hp, hm⟩)))⟩
@[simp] def keptD.k1 (C : CSem) (n fk fm fs : Nat) (Q : AVal → AHeap → Prop) (Y1 : List AVal → AHeap → Prop) (v1 v5 v6 : AVal) (h : AHeap) : Prop :=
  B.pv (V.lenSl v5) fun v19 =>
    B.pv (V.bin .lss v6 v19) fun v20 =>
    B.cond v20
    (B.pv (V.lenSl v1) fun v25 =>
    B.pv (V.bin .lss v6 v25) fun v26 =>
    B.gd h v26 true (fun K => K v5 h) fun v28 h =>
    B.gd h v26 true (fun K => K v6 h) fun v29 h =>
    B.gd h v26 true (fun K => B.pv (V.idxS n v28 v29) fun v => K v h) fun v30 h =>
    B.gd h v26 true (fun K => B.ldn h v30 n fun v => K v h) fun v31 h =>
    B.gd h v26 true (fun K => K v1 h) fun v32 h =>
    B.gd h v26 true (fun K => K v6 h) fun v33 h =>
    B.gd h v26 true (fun K => B.pv (V.idxS n v32 v33) fun v => K v h) fun v34 h =>
    B.gd h v26 true (fun K => B.ldn h v34 n fun v => K v h) fun v35 h =>
    B.gd h v26 true (fun K => B.call C fk [v31, v35] h K) fun v36 h =>
    B.gd h v26 true (fun K => B.pv (V.un .not v36) fun v => K v h) fun v37 h =>
    B.pick v26 v37 (.bool false) fun v38 =>
    B.gd h v38 false (fun K => K v6 h) fun v40 h =>
    B.gd h v38 false (fun K => K v1 h) fun v41 h =>
    B.gd h v38 false (fun K => B.pv (V.lenSl v41) fun v => K v h) fun v42 h =>
    B.gd h v38 false (fun K => B.pv (V.bin .geq v40 v42) fun v => K v h) fun v43 h =>
    B.gd h v38 false (fun K => K v43 h) fun v44 h =>
    B.gd h v44 true (fun K => K v5 h) fun v45 h =>
    B.gd h v44 true (fun K => K v6 h) fun v46 h =>
    B.gd h v44 true (fun K => B.pv (V.idxS n v45 v46) fun v => K v h) fun v47 h =>
    B.gd h v44 true (fun K => B.ldn h v47 n fun v => K v h) fun v48 h =>
    B.gd h v44 true (fun K => K v6 h) fun v49 h =>
    B.gd h v44 true (fun K => K v1 h) fun v50 h =>
    B.gd h v44 true (fun K => B.pv (V.lenSl v50) fun v => K v h) fun v51 h =>
    B.gd h v44 true (fun K => B.pv (V.bin .sub v49 v51) fun v => K v h) fun v52 h =>
    B.gd h v44 true (fun K => B.call C fm [(.int .i64 1), v52] h (B.keepS h [(v47, some n)] K)) fun v53 h =>
    B.gd h v44 true (fun K => B.call C fs [v48, v53] h K) fun v54 h =>
    B.gd h v44 true (fun K => B.pv (V.un .not v54) fun v => K v h) fun v55 h =>
    B.gd h v38 false (fun K => B.pick v44 v55 (.bool false) fun v => K v h) fun v56 h =>
    B.pick v38 (.bool true) v56 fun v57 =>
    B.cond v57
    (Q (.bool false) h)
    (B.pv (V.bin .add v6 (.int .i64 1)) fun v22 =>
    Y1 [v22] h))
    (Q (.bool true) h)
@[simp] def keptD.l2 (C : CSem) (n fk fm fs : Nat) (Q : AVal → AHeap → Prop) (v1 v5 : AVal) : List AVal → AHeap → (List AVal → AHeap → Prop) → Prop
  | [v6], h, Y1 => keptD.k1 C n fk fm fs Q Y1 v1 v5 v6 h
  | _, _, _ => False
@[simp] def keptD.k3 (C : CSem) (n fk fm fs : Nat) (Q : AVal → AHeap → Prop) (v0 v1 : AVal) (h : AHeap) : Prop :=
  B.pv (V.lenSl v1) fun v14 =>
    B.pv (V.bin .add v14 (.int .i64 12)) fun v15 =>
    B.pv (V.cutSl n v0 none (some v15)) fun v16 =>
    LoopR (keptD.l2 C n fk fm fs Q v1 v16) [(.int .i64 0)] h
def keptD (C : CSem) (n fk fm fs : Nat) (v0 v1 : AVal) (h : AHeap) (Q : AVal → AHeap → Prop) : Prop :=
  B.pv (V.lenSl v0) fun v8 =>
    B.pv (V.lenSl v1) fun v10 =>
    B.pv (V.bin .neq v8 v10) fun v11 =>
    B.cond v11
    (Q (.bool false) h)
    (keptD.k3 C n fk fm fs Q v0 v1 h)
theorem keptD_spec [DecidableEq T] {mk : Int → Int → T} {fk fm fs : Nat} (hmk : ∀ k i, K.ok (mk k i)) (sk : KeptE K C fk) (sm : MarkE K mk C fm) (ss : SameE K C fs) {y : AVal} {Q : AVal → AHeap → Prop} (hx : DLent K mk h x L) (hy : Dl K h y M) (hlen : L.length ≤ 100000000)
    (hq : ∀ h', h.le h' → Q (.bool (decide (L = M))) h') : keptD C K.n fk fm fs x y h Q := by
  have hlx := hx.dl.lenSl
  have hly := hy.lenSl
  simp -dsimp [keptD, hlx, hly]
  refine B.cond_bool (fun hb => ?_) (fun hb => ?_) <;> simp -dsimp at hb ⊢
  · have hq := hq h (AHeap.le_refl h)
    rw [decide_eq_false fun e => hb (by rw [e])] at hq
    exact hq
  · obtain ⟨P, PM, rfl, hPM, s, a1, a0, a2⟩ := hx
    have hMl : PM.length = 12 := by have := congrArg List.length hPM; simpa [mks12] using this
    rw [List.length_map] at hb hlen
    have e1 : IntKind.i64.wrap ((M.length : Int) + 12) = ((M.length + 12 : Nat) : Int) := by rw [wrap_i64 (by omega) (by omega)]; omega
    obtain ⟨z, e2, e3, e4⟩ := s.slice K.pos (lo := 0) (hi := M.length + 12) (a := none) (b := some (.int .i64 ((M.length + 12 : Nat) : Int))) (.inl ⟨rfl, rfl⟩) (.inr ⟨_, rfl⟩) (by omega) (by simp; omega)
    have h1 : ((P.map K.cs ++ PM.map K.cs).take (M.length + 12)).drop 0 = (P ++ PM).map K.cs := by rw [List.drop_zero, List.take_of_length_le, List.map_append]; simp; omega
    rw [h1] at e3
    have hlz := e3.lenSl
    simp only [List.length_map, List.length_append, hMl] at hlz
    simp only [hly, V.bin_add, e1, e2, B.pv_some]
    refine LoopR.intro (fun n vs hh => ∃ k, k + n = P.length + 12 ∧ vs = [.int .i64 k] ∧ h.le hh ∧ (P.map (·.1)).take k = M.take k) (P.length + 12) ?_ ⟨0, by simp, by simp, AHeap.le_refl h, by simp⟩
    rintro Y n vs hh ⟨k, hn, rfl, hle, he⟩ hY
    have e3 := e3.mono hle
    simp -dsimp [hlz]
    refine B.cond_bool (fun hc => ?_) (fun hc => ?_) <;> simp -dsimp at hc ⊢
    · by_cases hkL : k < P.length
      · obtain ⟨p, hp⟩ := get_lt hkL
        have hkM : k < M.length := by omega
        obtain ⟨u, hu⟩ := get_lt hkM
        obtain ⟨b, eb⟩ := (hy.mono hle).get hu
        have hpz : ((P ++ PM).map K.cs)[k]? = some (K.cells p.2) := by rw [List.getElem?_map, List.getElem?_append_left hkL, hp]; rfl
        have hkz : k < ((P ++ PM).map K.cs).length := by simp; omega
        have e5 := e3.elem hpz
        have e6 := e3.idxN (k := .i64) hkz
        have hw : (P.map (·.1))[k]? = some p.1 := by rw [List.getElem?_map, hp]; rfl
        simp -dsimp only [hly, V.bin_lss, show ((k : Int) < (M.length : Int)) by omega, decide_true, B.gd_t, B.gdb_pure, B.gdb_true, gv_true, e6, e5, eb.idx, eb.ldn, B.pv_some, B.ldn_eq]
        refine sk _ _ _ _ _ _ (a0 p (List.mem_of_getElem? hp)) (AllAt.mono (l := K.obs true p.1 p.2) (fun o ho => a1 o (List.mem_flatMap.2 ⟨p, List.mem_of_getElem? hp, ho⟩)) hle) eb.at_ ?_
        simp -dsimp only [B.gd_t, B.gdb_true, V.un_not, B.pv_some, B.pick_t]
        by_cases hwu : p.1 = u
        · simp -dsimp only [hwu, decide_true, Bool.not_true, B.gd_f, Bool.not_false, B.gdb_true, hly, V.bin_geq, show ¬ ((M.length : Int) ≤ (k : Int)) by omega, decide_false, B.gd_t, B.gdb_false, B.pick_f, B.pv_some, B.cond_false, V.bin_add, inc64 (n := k) (by omega)]
          refine hY (P.length + 12 - (k + 1)) _ _ (by omega) ⟨k + 1, by omega, rfl, hle, ?_⟩
          rw [take_succ hw, take_succ hu, he, hwu]
        · simp -dsimp only [hwu, decide_false, Bool.not_false, B.gd_f, Bool.not_true, B.gdb_false, B.pick_t, B.cond_true, B.gd_tup]
          have hq := hq hh hle
          rw [decide_eq_false fun e => by rw [e, hu] at hw; cases hw; exact hwu rfl] at hq
          exact hq
      · have hkM : ¬ k < M.length := by omega
        obtain ⟨p, hp⟩ := get_lt (L := PM) (k := k - P.length) (by omega)
        have hpz : ((P ++ PM).map K.cs)[k]? = some (K.cells p.2) := by rw [List.getElem?_map, List.getElem?_append_right (by omega), hp]; rfl
        have hkz : k < ((P ++ PM).map K.cs).length := by simp; omega
        have e5 := e3.elem hpz
        have e6 := e3.idxN (k := .i64) hkz
        have hm : p.1 = mk 1 ((k - M.length : Nat) : Int) := by
          have : (PM.map (·.1))[k - P.length]? = some p.1 := by rw [List.getElem?_map, hp]; rfl
          rw [hPM, mks12, List.getElem?_map, List.getElem?_range (by omega)] at this
          simp only [Option.map_some, Option.some.injEq] at this
          rw [← this]; congr 2; omega
        have e7 : IntKind.i64.wrap ((k : Int) - M.length) = ((k - M.length : Nat) : Int) := by rw [wrap_i64 (by omega) (by omega)]; omega
        simp -dsimp only [hly, V.bin_lss, show ¬ ((k : Int) < (M.length : Int)) by omega, decide_false, B.gd_t, B.gdb_pure, B.gdb_false, gv_false, B.pick_f, B.gd_f, Bool.not_false, B.gdb_true, gv_true, V.bin_geq, show ((M.length : Int) ≤ (k : Int)) by omega, decide_true, e6, e5, V.bin_sub, e7, B.pv_some, B.ldn_eq]
        refine sm _ _ _ _ fun a' h5 o5 => ⟨?_, ?_⟩
        · intro q hq
          rw [List.mem_singleton.1 hq]
          exact ⟨_, e5, (e3.mono o5.le).elem hpz⟩
        · simp -dsimp only [gv_true, B.gd_t, B.gdb_true, B.pv_some, decide_true]
          refine ss _ _ _ _ _ _ (K.mono (AHeap.le_trans hle o5.le) (a2 p (List.mem_of_getElem? hp))) (K.ofObs (hmk _ _) o5.is) ?_
          simp -dsimp only [hm, gv_true, decide_true, decide_false, V.un_not, Bool.not_true, Bool.not_false, B.gd_t, B.gd_f, B.gdb_true, B.pick_t, B.pick_f, B.pv_some, B.cond_false, V.bin_add, inc64 (n := k) (by omega)]
          refine hY (P.length + 12 - (k + 1)) _ _ (by omega) ⟨k + 1, by omega, rfl, AHeap.le_trans hle o5.le, ?_⟩
          rw [List.take_of_length_le (by simp; omega), List.take_of_length_le (by omega)] at he ⊢
          exact he
    · have hq := hq hh hle
      rw [List.take_of_length_le (by simp; omega), List.take_of_length_le (by omega)] at he
      rw [decide_eq_true he] at hq
      exact hq
end
end Go.Ab

/- What is proved: contracts of what the statements share about lists of plain things: marks, the same, lent, kept, written over, copied, apart. No conditions. Printed by a program of mine. -/
set_option linter.unusedVariables false
set_option linter.unusedSimpArgs false
set_option maxRecDepth 100000
namespace Go.Ab
variable {C : CSem} {N : Nat → Nat}

@[irreducible] def mark (k i : Int) : Int := IntKind.i64.wrap (IntKind.i64.wrap (1000003 * IntKind.i64.wrap (k + 7)) + i)
def kit_mark.Spec (C : CSem) (N : Nat → Nat) : Prop := ∀ (k i : Int) (h : AHeap) (Q : AVal → AHeap → Prop), Q (.int .i64 (mark k i)) h → C (N 20) [.int .i64 k, .int .i64 i] h Q
theorem kit_mark.spec (i : kit_mark.Imp C N) : kit_mark.Spec C N := by
  intro k j h Q hq
  apply i
  simp +contextual -dsimp
  unfold mark at hq
  exact dn_same hq

/-- A list of lists: x, of n, these xs; what they hold, and behind. -/
structure LL where
  x : AVal
  n : Nat
  xs : Nat → AVal
  D : Nat → List (List AVal)
  R : Nat → List (List AVal)
  W : List (List AVal)
def LL.obs (es : Nat) (t : LL) : List Ob := Objs es t.n t.xs t.D t.R
structure LL.ok (t : LL) (h0 : AHeap) : Prop where
  is : SlX h0 1 t.x (fills t.n fun j => [t.xs j]) t.W
  n_le : t.n ≤ 100000000
  len_le : ∀ j, j < t.n → (t.D j).length ≤ 100000000
@[irreducible] def markByte (k i : Int) : UInt8 := byt ((IntKind.u64.wrap (IntKind.u64.wrap (mark k i) * 11400714819323198485)).fdiv (2 ^ 56))
def kit_markByte.Spec (C : CSem) (N : Nat → Nat) : Prop := ∀ (k i : Int) (h : AHeap) (Q : AVal → AHeap → Prop), Q (.int .u8 ((markByte k i).toNat : Int)) h → C (N 64) [.int .i64 k, .int .i64 i] h Q
theorem kit_markByte.spec (i : kit_markByte.Imp C N) (s1 : kit_mark.Spec C N) : kit_markByte.Spec C N := by
  intro k j h Q hq
  apply i
  simp +contextual -dsimp
  refine s1 _ _ _ _ ?_
  unfold markByte at hq
  simp +contextual -dsimp [bin_shr (k := .u64) (j := .u64) (b := 56) (by omega) (by simp [IntKind.bits]), u8_byt]
  exact dn_same hq
abbrev marksByte : List (List AVal) := cmarks bS (markByte 1) 12

end Go.Ab

/- What is proved: contracts of what the statements share about rows and turns: are they the same, lent, kept, copied, marks. No conditions. -/
set_option linter.unusedVariables false
set_option linter.unusedSimpArgs false
namespace Go.Ab
variable {C : CSem} {N : Nat → Nat}
structure Row where
  Key : List UInt8
  Value : List UInt8
deriving DecidableEq
structure Turn where
  Key : List UInt8
  Old : List UInt8
  New : List UInt8
deriving DecidableEq
def bOb (b : Bool) (x : AVal) (s : List UInt8) : Ob := .sl 1 x (s.map bc) (bif b then marksByte else [])
theorem bOb_at {b : Bool} {h : AHeap} {x : AVal} {s : List UInt8} (hs : s.length ≤ far) (ha : (bOb b x s).at h) : Bs h x s := ⟨⟨_, ha⟩, hs⟩
abbrev Row.ok (r : Row) : Prop := r.Key.length ≤ far ∧ r.Value.length ≤ far
abbrev Turn.ok (r : Turn) : Prop := r.Key.length ≤ far ∧ r.Old.length ≤ far ∧ r.New.length ≤ far
def rowK : DK Row (AVal × AVal) where
  n := 2
  bytes := 48
  z := [.nils, .nils]
  pos := by omega
  small := by omega
  zlen := rfl
  cells a := [a.1, a.2]
  len _ := rfl
  at_ h t a := Bs h a.1 t.Key ∧ Bs h a.2 t.Value
  mono hle ha := ⟨ha.1.mono hle, ha.2.mono hle⟩
  ok := Row.ok
  at_ok ha := ⟨ha.1.2, ha.2.2⟩
  obs b t a := [bOb b a.1 t.Key, bOb b a.2 t.Value]
  ofObs {b h t a} hk ha := ⟨bOb_at (b := b) hk.1 (ha _ (by simp)), bOb_at (b := b) hk.2 (ha _ (by simp))⟩
def turnK : DK Turn (AVal × AVal × AVal) where
  n := 3
  bytes := 72
  z := [.nils, .nils, .nils]
  pos := by omega
  small := by omega
  zlen := rfl
  cells a := [a.1, a.2.1, a.2.2]
  len _ := rfl
  at_ h t a := Bs h a.1 t.Key ∧ Bs h a.2.1 t.Old ∧ Bs h a.2.2 t.New
  mono hle ha := ⟨ha.1.mono hle, ha.2.1.mono hle, ha.2.2.mono hle⟩
  ok := Turn.ok
  at_ok ha := ⟨ha.1.2, ha.2.1.2, ha.2.2.2⟩
  obs b t a := [bOb b a.1 t.Key, bOb b a.2.1 t.Old, bOb b a.2.2 t.New]
  ofObs {b h t a} hk ha := ⟨bOb_at (b := b) hk.1 (ha _ (by simp)), bOb_at (b := b) hk.2.1 (ha _ (by simp)), bOb_at (b := b) hk.2.2 (ha _ (by simp))⟩
def kit_SameBytes.SpecL (C : CSem) (N : Nat → Nat) : Prop := ∀ (x y : AVal) (s t : List UInt8) (h : AHeap) (Q : AVal → AHeap → Prop), Bs h x s → Bs h y t → Q (.bool (decide (s = t))) h → C (N 34) [x, y] h Q
theorem kit_SameBytes.spl (i : kit_SameBytes.Imp C N) : kit_SameBytes.SpecL C N := fun x y s t h Q ⟨⟨R, hx⟩, hs⟩ ⟨⟨S, hy⟩, ht⟩ hq =>
  i x y h Q (sameS_spec bS hx hy (by unfold far at hs; omega) (dn_same hq))
def kit_LentBytes.SpecL (C : CSem) (N : Nat → Nat) : Prop := ∀ (x : AVal) (s : List UInt8) (h : AHeap) (Q : AVal → AHeap → Prop), Bs h x s → (∀ x' h', Owns h h' [bOb true x' s] → Q x' h') → C (N 37) [x] h Q
theorem kit_LentBytes.spl (i : kit_LentBytes.Imp C N) (s1 : kit_markByte.Spec C N) : kit_LentBytes.SpecL C N := fun x s h Q ⟨⟨R, hx⟩, hs⟩ hq =>
  i x h Q (lentS_specL bS (z := .int .u8 0) (m := 1) (mk := markByte 1) (s1 1) hx (by unfold far at hs; omega) (by unfold far at hs; omega) fun x' h' ho => dn_same (hq x' h' ho))
def kit_KeptBytes.SpecL (C : CSem) (N : Nat → Nat) : Prop := ∀ (x y : AVal) (s t : List UInt8) (h : AHeap) (Q : AVal → AHeap → Prop), s.length ≤ far → (bOb true x s).at h → Bs h y t → Q (.bool (decide (s = t))) h → C (N 39) [x, y] h Q
theorem kit_KeptBytes.spl (i : kit_KeptBytes.Imp C N) (s1 : kit_markByte.Spec C N) : kit_KeptBytes.SpecL C N := fun x y s t h Q hs hx ⟨⟨R, hy⟩, ht⟩ hq =>
  i x y h Q (keptS_specL bS (m := 1) (mk := markByte 1) (s1 1) hx hy (by unfold far at hs; omega) (dn_same hq))
def kit_CopyBytes.SpecL (C : CSem) (N : Nat → Nat) : Prop := ∀ (x : AVal) (s : List UInt8) (h : AHeap) (Q : AVal → AHeap → Prop), Bs h x s → (∀ x' h', Owns h h' [bOb false x' s] → Q x' h') → C (N 45) [x] h Q
theorem kit_CopyBytes.spl (i : kit_CopyBytes.Imp C N) : kit_CopyBytes.SpecL C N := fun x s h Q ⟨⟨R, hx⟩, hs⟩ hq =>
  i x h Q (copy_specL (by omega) hx (by simp; unfold far at hs; omega) (by simp; unfold far at hs; omega) fun x' h' ho => dn_same (hq x' h' ho))

/-! Rows. -/
def kit_SameRow.Spec (C : CSem) (N : Nat → Nat) : Prop := SameE rowK C (N 118)
theorem kit_SameRow.spec (i : kit_SameRow.Imp C N) (s1 : kit_SameBytes.SpecL C N) : kit_SameRow.Spec C N := by
  intro t u a b h Q ha hb hq
  obtain ⟨a1, a2⟩ : Bs h a.1 t.Key ∧ Bs h a.2 t.Value := ha
  obtain ⟨b1, b2⟩ : Bs h b.1 u.Key ∧ Bs h b.2 u.Value := hb
  apply i
  simp -dsimp [rowK]
  refine s1 _ _ _ _ _ _ a1 b1 ?_
  simp +contextual -dsimp
  refine B.gdb_call (v := .bool (decide (t.Value = u.Value))) (fun _ Q hq => s1 _ _ _ _ _ _ a2 b2 hq) ?_
  simp -dsimp
  refine dn_same ?_
  have : decide (t = u) = (decide (t.Key = u.Key) && decide (t.Value = u.Value)) := by
    cases t; cases u; simp [Row.mk.injEq]
  rw [this] at hq
  exact hq
def kit_LentRow.Spec (C : CSem) (N : Nat → Nat) : Prop := OneE rowK true C (N 271)
theorem kit_LentRow.spec (i : kit_LentRow.Imp C N) (s1 : kit_LentBytes.SpecL C N) : kit_LentRow.Spec C N := by
  intro t a h Q ha hq
  obtain ⟨a1, a2⟩ : Bs h a.1 t.Key ∧ Bs h a.2 t.Value := ha
  apply i
  simp -dsimp [rowK]
  refine s1 _ _ _ _ a1 fun x1 h1 o1 => ?_
  simp -dsimp [((o1.is _ (List.mem_singleton_self _)) : (bOb true x1 t.Key).at h1).isCell]
  refine s1 _ _ _ _ (a2.mono o1.le) fun x2 h2 o2 => ?_
  simp -dsimp [((o2.is _ (List.mem_singleton_self _)) : (bOb true x2 t.Value).at h2).isCell]
  exact dn_same (hq (x1, x2) h2 (o1.join o2))
def kit_KeptRow.Spec (C : CSem) (N : Nat → Nat) : Prop := KeptE rowK C (N 280)
theorem kit_KeptRow.spec (i : kit_KeptRow.Imp C N) (s0 : kit_SameRow.Spec C N) (s1 : kit_KeptBytes.SpecL C N) : kit_KeptRow.Spec C N := by
  intro t u a b h Q hok ha hb hq
  apply i
  have ha' := rowK.ofObs hok ha
  simp -dsimp [rowK]
  refine s0 t u a b h _ ha' hb ?_
  simp +contextual -dsimp
  refine B.gdb_call (v := .bool (decide (t.Key = u.Key))) (fun _ Q hq => s1 _ _ _ _ _ _ hok.1 (ha _ (by simp [rowK])) hb.1 hq) ?_
  simp +contextual -dsimp
  refine B.gdb_call (v := .bool (decide (t.Value = u.Value))) (fun _ Q hq => s1 _ _ _ _ _ _ hok.2 (ha _ (by simp [rowK])) hb.2 hq) ?_
  simp -dsimp
  refine dn_same ?_
  have : decide (t = u) = (decide (t = u) && decide (t.Key = u.Key) && decide (t.Value = u.Value)) := by
    by_cases h : t = u
    · subst h; simp
    · simp [h]
  rw [this] at hq
  exact hq
def markRow (k i : Int) : Row := ⟨[markByte k i], []⟩
theorem markRow_ok (k i : Int) : rowK.ok (markRow k i) := ⟨by simp [markRow, far], by simp [markRow]⟩
def kit_markRow.Spec (C : CSem) (N : Nat → Nat) : Prop := MarkE rowK markRow C (N 117)
theorem kit_markRow.spec (i : kit_markRow.Imp C N) (s1 : kit_markByte.Spec C N) : kit_markRow.Spec C N := by
  intro k j h Q hq
  apply i
  simp -dsimp
  refine s1 _ _ _ _ ?_
  simp -dsimp
  intro id hid
  simp -dsimp
  have o := (Owns.start h).newSl hid (n := 1) (cp := 1) (es := 1) (cs := [.int .u8 ((markByte k j).toNat : Int)]) (L := [markByte k j].map bc) (R := []) (by simp) rfl (by simp) rfl
  exact dn_same (hq (.sl id 0 0 1 1 1, .nils) _ (by simpa [rowK, markRow, bOb] using o.nils 1))
def kit_SameRows.Spec (C : CSem) (N : Nat → Nat) : Prop := ∀ (x y : AVal) (L M : List Row) (h : AHeap) (Q : AVal → AHeap → Prop), Dl rowK h x L → Dl rowK h y M → L.length < 4611686018427387904 → Q (.bool (decide (L = M))) h → C (N 263) [x, y] h Q
theorem kit_SameRows.spec (i : kit_SameRows.Imp C N) (s1 : kit_SameRow.Spec C N) : kit_SameRows.Spec C N := fun x y L M h Q hx hy hl hq =>
  i x y h Q (sameD_spec (K := rowK) s1 hx hy hl (dn_same hq))
def kit_LentRows.Spec (C : CSem) (N : Nat → Nat) : Prop := ∀ (x : AVal) (L : List Row) (h : AHeap) (Q : AVal → AHeap → Prop), Dl rowK h x L → L.length ≤ 100000000 →
  (∀ x' h', h.le h' → DLent rowK markRow h' x' L → Q x' h') → C (N 254) [x] h Q
theorem kit_LentRows.spec (i : kit_LentRows.Imp C N) (s1 : kit_markRow.Spec C N) (s2 : kit_LentRow.Spec C N) : kit_LentRows.Spec C N := fun x L h Q hx hl hq =>
  i x h Q (lentD_spec (K := rowK) s1 s2 hx hl fun x' P PM h' e1 e2 ho => dn_same (hq x' h' ho.le (DLent.of markRow_ok hx.ok e1 e2 ho)))
def kit_KeptRows.Spec (C : CSem) (N : Nat → Nat) : Prop := ∀ (x y : AVal) (L M : List Row) (h : AHeap) (Q : AVal → AHeap → Prop), DLent rowK markRow h x L → Dl rowK h y M → L.length ≤ 100000000 →
  Q (.bool (decide (L = M))) h → C (N 258) [x, y] h Q
theorem kit_KeptRows.spec (i : kit_KeptRows.Imp C N) (s1 : kit_KeptRow.Spec C N) (s2 : kit_markRow.Spec C N) (s3 : kit_SameRow.Spec C N) : kit_KeptRows.Spec C N := fun x y L M h Q hx hy hl hq =>
  i x y h Q (keptD_spec (K := rowK) markRow_ok s1 s2 s3 hx hy hl fun h' hle => dn_le hle hq)
end Go.Ab

/- What is proved: the plain law of rows and turns: rows that differ, rows turned, there and back. No conditions. -/
set_option linter.unusedVariables false
set_option linter.unusedSimpArgs false
namespace Go.Ab
/-! The order of bytes. -/
abbrev lessB : List UInt8 → List UInt8 → Bool := Op.bytesLess
theorem lessB_nil (a : List UInt8) : lessB a [] = false := by cases a <;> rfl
theorem lessB_nc (b : UInt8) (bs : List UInt8) : lessB [] (b :: bs) = true := rfl
theorem lessB_cc (a b : UInt8) (as1 bs : List UInt8) : lessB (a :: as1) (b :: bs) = (decide (a < b) || (a == b && lessB as1 bs)) := rfl
theorem u8_tri (a b : UInt8) : a < b ∨ a = b ∨ b < a := by
  simp only [UInt8.lt_iff_toNat_lt, ← UInt8.toNat_inj]; omega
theorem lessB_irr : ∀ a : List UInt8, lessB a a = false
  | [] => rfl
  | a :: as1 => by rw [lessB_cc, lessB_irr as1]; simp
theorem lessB_trans : ∀ {a b c : List UInt8}, lessB a b = true → lessB b c = true → lessB a c = true
  | _, [], _, h, _ => by rw [lessB_nil] at h; cases h
  | _, _ :: _, [], _, h => by rw [lessB_nil] at h; cases h
  | [], _ :: _, _ :: _, _, _ => rfl
  | a :: as1, b :: bs, c :: cs, h1, h2 => by
    rw [lessB_cc] at h1 h2 ⊢
    simp only [Bool.or_eq_true, decide_eq_true_eq, Bool.and_eq_true, beq_iff_eq] at h1 h2 ⊢
    rcases h1 with h1 | ⟨rfl, h1⟩
    · rcases h2 with h2 | ⟨rfl, h2⟩
      · left; simp only [UInt8.lt_iff_toNat_lt] at *; omega
      · exact .inl h1
    · rcases h2 with h2 | ⟨rfl, h2⟩
      · exact .inl h2
      · exact .inr ⟨rfl, lessB_trans h1 h2⟩
theorem lessB_total : ∀ {a b : List UInt8}, lessB a b = false → lessB b a = false → a = b
  | [], [], _, _ => rfl
  | [], _ :: _, h, _ => by cases h
  | _ :: _, [], _, h => by cases h
  | a :: as1, b :: bs, h1, h2 => by
    rw [lessB_cc] at h1 h2
    simp only [Bool.or_eq_false_iff, decide_eq_false_iff_not, Bool.and_eq_false_iff, beq_eq_false_iff_ne] at h1 h2
    obtain rfl : a = b := by rcases u8_tri a b with h | h | h <;> simp_all
    rw [lessB_total (h1.2.resolve_left fun h => h rfl) (h2.2.resolve_left fun h => h rfl)]
theorem lessB_asym {a b : List UInt8} (h : lessB a b = true) : lessB b a = false := by
  cases e : lessB b a with
  | false => rfl
  | true => have := lessB_trans h e; rw [lessB_irr] at this; cases this
theorem lessB_ne {a b : List UInt8} (h : lessB a b = true) : a ≠ b := fun e => by subst e; rw [lessB_irr] at h; cases h
theorem lessB_or {a b : List UInt8} (h : lessB a b = false) (hne : a ≠ b) : lessB b a = true := by
  cases e : lessB b a with
  | true => rfl
  | false => exact absurd (lessB_total h e) hne
abbrev cmpB := Lib.compareBytes
theorem cmpB_spec : ∀ a b : List UInt8, cmpB a b = if lessB a b then -1 else if lessB b a then 1 else 0
  | [], [] => rfl
  | [], _ :: _ => rfl
  | _ :: _, [] => rfl
  | a :: as1, b :: bs => by
    have ih := cmpB_spec as1 bs
    show (if a < b then -1 else if b < a then 1 else cmpB as1 bs) = _
    rw [ih, lessB_cc, lessB_cc]
    rcases u8_tri a b with h | rfl | h
    · simp [h]
    · have hi : ¬ a < a := by simp only [UInt8.lt_iff_toNat_lt]; omega
      simp
    · have h1 : ¬ a < b := by simp only [UInt8.lt_iff_toNat_lt] at *; omega
      have h2 : a ≠ b := fun e => by subst e; exact h1 h
      have h3 : (a == b) = false := by simp [h2]
      simp [h, h1, h3]
theorem cmpB_neg {a b : List UInt8} : cmpB a b < 0 ↔ lessB a b = true := by
  rw [cmpB_spec]; split
  · simp [*]
  · split <;> simp [*]
theorem cmpB_pos {a b : List UInt8} : 0 < cmpB a b ↔ lessB b a = true := by
  rw [cmpB_spec]; split
  · rename_i h; simp [lessB_asym h]
  · split <;> simp [*]
theorem cmpB_zero {a b : List UInt8} : cmpB a b = 0 ↔ a = b := by
  rw [cmpB_spec]; split
  · rename_i h; simp [lessB_ne h]
  · split
    · rename_i h; simp [(lessB_ne h).symm]
    · rename_i h1 h2; simp [lessB_total (by simpa using h1) (by simpa using h2)]

/-! What rises has its own order. -/
theorem rise_ext {T : Type} {lt : T → T → Prop} (asym : ∀ a b, lt a b → lt b a → False) {l m : List T} (s : l.Pairwise lt) (t : m.Pairwise lt) (e : ∀ x, x ∈ l ↔ x ∈ m) : l = m := by
  have nd : ∀ {l : List T}, l.Pairwise lt → l.Nodup := fun h => h.imp fun {a b} hab e => by subst e; exact asym a a hab hab
  exact List.Perm.eq_of_pairwise (le := lt) (fun a b _ _ h1 h2 => (asym a b h1 h2).elim) s t ((List.perm_ext_iff_of_nodup (nd s) (nd t)).2 e)

abbrev rowLt (r s : Row) : Prop := lessB r.Key s.Key = true
theorem rowLt_asym (a b : Row) (h1 : rowLt a b) (h2 : rowLt b a) : False := by
  have := lessB_asym h1; unfold rowLt at h2; rw [this] at h2; cases h2
structure RightL (l : List Row) : Prop where
  key : ∀ r ∈ l, r.Key ≠ []
  val : ∀ r ∈ l, r.Value ≠ []
  up : l.Pairwise rowLt
theorem RightL.nil : RightL [] := ⟨by simp, by simp, .nil⟩
theorem RightL.cons {r : Row} {l : List Row} (h : RightL (r :: l)) : RightL l := ⟨fun s hs => h.key s (List.mem_cons_of_mem _ hs), fun s hs => h.val s (List.mem_cons_of_mem _ hs), (List.pairwise_cons.1 h.up).2⟩
def rightAt (l : List Row) (i : Nat) : Bool := match l[i]? with
  | none => true
  | some r => !decide (r.Key = []) && !decide (r.Value = []) && (decide (i = 0) || match l[i - 1]? with | some p => lessB p.Key r.Key | none => true)
def rightR (l : List Row) : Bool := (List.range l.length).all (rightAt l)
theorem rightR_iff {l : List Row} : rightR l = true ↔ RightL l := by
  unfold rightR
  rw [List.all_eq_true]
  constructor
  · intro h
    have key : ∀ i (hi : i < l.length), l[i].Key ≠ [] ∧ l[i].Value ≠ [] ∧ ∀ (h0 : 0 < i), lessB l[i - 1].Key l[i].Key = true := fun i hi => by
      have := h i (by simpa using hi)
      simp only [rightAt, List.getElem?_eq_getElem hi, Bool.and_eq_true, Bool.or_eq_true, Bool.not_eq_true', decide_eq_false_iff_not, decide_eq_true_eq] at this
      refine ⟨this.1.1, this.1.2, fun h0 => ?_⟩
      rcases this.2 with e | e
      · omega
      · rw [List.getElem?_eq_getElem (by omega)] at e; exact e
    refine ⟨fun r hr => ?_, fun r hr => ?_, List.pairwise_iff_getElem.2 fun i j hi hj hij => ?_⟩
    · obtain ⟨i, hi, rfl⟩ := List.mem_iff_getElem.1 hr; exact (key i hi).1
    · obtain ⟨i, hi, rfl⟩ := List.mem_iff_getElem.1 hr; exact (key i hi).2.1
    · have : ∀ d i (hi : i + 1 + d < l.length), lessB (l[i]'(by omega)).Key (l[i + 1 + d]).Key = true := by
        intro d
        induction d with
        | zero => intro i hi; exact (key (i + 1) hi).2.2 (by omega)
        | succ d ih =>
          intro i hi
          exact lessB_trans (ih i (by omega)) ((key (i + 1 + (d + 1)) hi).2.2 (by omega))
      have := this (j - i - 1) i (by omega)
      simpa only [show i + 1 + (j - i - 1) = j by omega] using this
  · intro h i hi
    have hi : i < l.length := by simpa using hi
    simp only [rightAt, List.getElem?_eq_getElem hi, Bool.and_eq_true, Bool.or_eq_true, Bool.not_eq_true', decide_eq_false_iff_not, decide_eq_true_eq]
    refine ⟨⟨h.key _ (List.getElem_mem hi), h.val _ (List.getElem_mem hi)⟩, ?_⟩
    by_cases e : i = 0
    · exact .inl e
    · right
      rw [List.getElem?_eq_getElem (by omega)]
      exact List.pairwise_iff_getElem.1 h.up (i - 1) i (by omega) hi (by omega)

/-! Rows as a table. -/
abbrev Tab := List UInt8 → List UInt8
def getR : List Row → List UInt8 → List UInt8
  | [], _ => []
  | r :: l, k => if r.Key = k then r.Value else getR l k
theorem getR_cons (r : Row) (l : List Row) (k : List UInt8) : getR (r :: l) k = if k = r.Key then r.Value else getR l k := by
  rw [getR]
  by_cases h : r.Key = k
  · rw [if_pos h, if_pos h.symm]
  · rw [if_neg h, if_neg (Ne.symm h)]
theorem getR_none {k : List UInt8} : ∀ {l : List Row}, (∀ r ∈ l, r.Key ≠ k) → getR l k = []
  | [], _ => rfl
  | r :: l, h => by rw [getR, if_neg (h r (by simp)), getR_none fun s hs => h s (List.mem_cons_of_mem _ hs)]
theorem getR_ne {k : List UInt8} : ∀ {l : List Row}, getR l k ≠ [] → ∃ r ∈ l, r.Key = k ∧ r.Value = getR l k
  | [], h => absurd rfl h
  | r :: l, h => by
    rw [getR] at h ⊢
    split
    · exact ⟨r, by simp, by assumption, rfl⟩
    · rename_i hne
      rw [if_neg hne] at h
      obtain ⟨s, hs, h1, h2⟩ := getR_ne h
      exact ⟨s, List.mem_cons_of_mem _ hs, h1, h2⟩
theorem RightL.get : ∀ {l : List Row}, RightL l → ∀ {r : Row}, r ∈ l → getR l r.Key = r.Value
  | [], _, r, hr => by cases hr
  | s :: l, h, r, hr => by
    rw [getR]
    rcases List.mem_cons.1 hr with rfl | hr
    · rw [if_pos rfl]
    · rw [if_neg (lessB_ne ((List.pairwise_cons.1 h.up).1 r hr)), h.cons.get hr]
theorem RightL.ext {l m : List Row} (hl : RightL l) (hm : RightL m) (e : ∀ k, getR l k = getR m k) : l = m := by
  have one : ∀ {l m : List Row}, RightL l → RightL m → (∀ k, getR l k = getR m k) → ∀ x, x ∈ l → x ∈ m := fun {l m} hl hm e x hx => by
    have h1 := hl.get hx
    obtain ⟨s, hs, h2, h3⟩ := getR_ne (l := m) (k := x.Key) (by rw [← e, h1]; exact hl.val x hx)
    rw [← e, h1] at h3
    cases s; cases x; simp only at h2 h3; subst h2 h3; exact hs
  exact rise_ext rowLt_asym hl.up hm.up fun x => ⟨one hl hm e x, one hm hl (fun k => (e k).symm) x⟩
def putGo (k v : List UInt8) : Bool → List Row → List Row
  | d, [] => if d then [] else [⟨k, v⟩]
  | d, r :: l => (if !d && !lessB r.Key k then [⟨k, v⟩] else []) ++ ((if r.Key = k then [] else [r]) ++ putGo k v (d || !lessB r.Key k) l)
def putR (l : List Row) (k v : List UInt8) : List Row := putGo k v (decide (v = [])) l
theorem putGo_true {k v : List UInt8} : ∀ l : List Row, putGo k v true l = l.filter fun r => !decide (r.Key = k)
  | [] => rfl
  | r :: l => by
    rw [putGo, Bool.true_or, putGo_true l, List.filter_cons]
    by_cases h : r.Key = k <;> simp [h]
theorem putGo_false {k v : List UInt8} : ∀ {l : List Row}, l.Pairwise rowLt → (putGo k v false l).Pairwise rowLt ∧ ∀ s, s ∈ putGo k v false l ↔ s = ⟨k, v⟩ ∨ (s ∈ l ∧ s.Key ≠ k)
  | [], _ => ⟨by simp [putGo], by simp [putGo]⟩
  | r :: l, h => by
    have hc := List.pairwise_cons.1 h
    rw [putGo]
    cases e : lessB r.Key k with
    | true =>
      obtain ⟨ih1, ih2⟩ := putGo_false (k := k) (v := v) hc.2
      have hne := lessB_ne e
      simp only [Bool.not_false, Bool.not_true, Bool.and_false, Bool.false_or, hne, if_false, Bool.false_eq_true, List.nil_append, List.singleton_append]
      refine ⟨List.pairwise_cons.2 ⟨fun s hs => ?_, ih1⟩, fun s => ?_⟩
      · rcases (ih2 s).1 hs with rfl | ⟨hs, _⟩
        · exact e
        · exact hc.1 s hs
      · rw [List.mem_cons, ih2, List.mem_cons]
        constructor
        · rintro (rfl | h | h)
          · exact .inr ⟨.inl rfl, hne⟩
          · exact .inl h
          · exact .inr ⟨.inr h.1, h.2⟩
        · rintro (h | ⟨rfl | h, h2⟩)
          · exact .inr (.inl h)
          · exact .inl rfl
          · exact .inr (.inr ⟨h, h2⟩)
    | false =>
      have hf : (if r.Key = k then [] else [r]) ++ putGo k v true l = (r :: l).filter fun r => !decide (r.Key = k) := by
        rw [putGo_true, List.filter_cons]
        by_cases h : r.Key = k <;> simp [h]
      simp only [Bool.not_false, Bool.and_self, if_true, Bool.or_true, hf, List.singleton_append]
      refine ⟨List.pairwise_cons.2 ⟨fun s hs => ?_, h.filter _⟩, fun s => ?_⟩
      · obtain ⟨hs, hk⟩ := List.mem_filter.1 hs
        have hk : s.Key ≠ k := by simpa using hk
        show lessB k s.Key = true
        rcases List.mem_cons.1 hs with rfl | hs
        · exact lessB_or e hk
        · by_cases e2 : r.Key = k
          · rw [← e2]; exact hc.1 s hs
          · exact lessB_trans (lessB_or e e2) (hc.1 s hs)
      · rw [List.mem_cons, List.mem_filter]; simp
theorem putR_mem {l : List Row} (h : l.Pairwise rowLt) (k v : List UInt8) : (putR l k v).Pairwise rowLt ∧ ∀ s, s ∈ putR l k v ↔ (v ≠ [] ∧ s = ⟨k, v⟩) ∨ (s ∈ l ∧ s.Key ≠ k) := by
  unfold putR
  by_cases e : v = []
  · subst e
    rw [decide_eq_true rfl, putGo_true]
    exact ⟨h.filter _, fun s => by rw [List.mem_filter]; simp⟩
  · rw [decide_eq_false e]
    obtain ⟨h1, h2⟩ := putGo_false (k := k) (v := v) h
    exact ⟨h1, fun s => by rw [h2]; simp [e]⟩
theorem putR_right {l : List Row} (h : RightL l) {k v : List UInt8} (hk : k ≠ []) : RightL (putR l k v) := by
  obtain ⟨h1, h2⟩ := putR_mem h.up k v
  refine ⟨fun r hr => ?_, fun r hr => ?_, h1⟩
  · rcases (h2 r).1 hr with ⟨_, rfl⟩ | ⟨hr, _⟩
    · exact hk
    · exact h.key r hr
  · rcases (h2 r).1 hr with ⟨hv, rfl⟩ | ⟨hr, _⟩
    · exact hv
    · exact h.val r hr
theorem putR_get {l : List Row} (h : RightL l) {k v : List UInt8} (hk : k ≠ []) (k' : List UInt8) : getR (putR l k v) k' = if k' = k then v else getR l k' := by
  have hr := putR_right h (v := v) hk
  obtain ⟨h1, h2⟩ := putR_mem h.up k v
  by_cases e : k' = k
  · subst e
    rw [if_pos rfl]
    by_cases hv : v = []
    · subst hv
      exact getR_none fun r hr => by
        rcases (h2 r).1 hr with ⟨h, _⟩ | ⟨_, h⟩
        · exact absurd rfl h
        · exact h
    · exact hr.get (r := ⟨k', v⟩) ((h2 _).2 (.inl ⟨hv, rfl⟩))
  · rw [if_neg e]
    by_cases hg : getR l k' = []
    · rw [hg]
      refine getR_none fun r hr e2 => ?_
      rcases (h2 r).1 hr with ⟨_, rfl⟩ | ⟨hr, _⟩
      · exact e e2.symm
      · have := h.get hr; rw [e2, hg] at this; exact h.val r hr this.symm
    · obtain ⟨r, hr1, rfl, hr3⟩ := getR_ne hg
      rw [← hr3]
      exact hr.get ((h2 r).2 (.inr ⟨hr1, e⟩))

/-! What differs. -/
abbrev turnLt (r s : Turn) : Prop := lessB r.Key s.Key = true
structure TurnsOf (f g : Tab) (L : List Turn) : Prop where
  up : L.Pairwise turnLt
  mem : ∀ t, t ∈ L ↔ t.Old = f t.Key ∧ t.New = g t.Key ∧ t.Old ≠ t.New
theorem TurnsOf.unique {f g : Tab} {L M : List Turn} (h : TurnsOf f g L) (k : TurnsOf f g M) : L = M :=
  rise_ext (fun a b h1 h2 => by have := lessB_asym h1; unfold turnLt at h2; rw [this] at h2; cases h2) h.up k.up fun x => by rw [h.mem, k.mem]
theorem TurnsOf.same (f : Tab) : TurnsOf f f [] := ⟨.nil, fun t => ⟨fun h => (by cases h), fun ⟨h1, h2, h3⟩ => absurd (h1.trans h2.symm) h3⟩⟩
theorem TurnsOf.step {f g f' g' : Tab} {L : List Turn} {K va vb : List UInt8} (h : TurnsOf f' g' L) (hf : ∀ k, f k = if k = K then va else f' k) (hg : ∀ k, g k = if k = K then vb else g' k) (hK : f' K = g' K) (hlt : ∀ k, f' k ≠ g' k → lessB K k = true) :
    TurnsOf f g (if va = vb then L else ⟨K, va, vb⟩ :: L) := by
  have mem : ∀ t : Turn, (t.Old = f t.Key ∧ t.New = g t.Key ∧ t.Old ≠ t.New) ↔ (t ∈ L ∨ (va ≠ vb ∧ t = ⟨K, va, vb⟩)) := fun t => by
    rw [h.mem]
    by_cases e : t.Key = K
    · rw [hf, hg, if_pos e, if_pos e, e, hK]
      constructor
      · rintro ⟨h1, h2, h3⟩
        right
        refine ⟨by rw [← h1, ← h2]; exact h3, ?_⟩
        cases t; simp only at e h1 h2; rw [e, h1, h2]
      · rintro (⟨h1, h2, h3⟩ | ⟨h1, rfl⟩)
        · exact absurd (h1.trans h2.symm) h3
        · exact ⟨rfl, rfl, h1⟩
    · rw [hf, hg, if_neg e, if_neg e]
      constructor
      · exact .inl
      · rintro (h | ⟨_, rfl⟩)
        · exact h
        · exact absurd rfl e
  by_cases e : va = vb
  · rw [if_pos e]
    exact ⟨h.up, fun t => by rw [mem]; simp [e]⟩
  · rw [if_neg e]
    refine ⟨List.pairwise_cons.2 ⟨fun t ht => ?_, h.up⟩, fun t => by rw [mem, List.mem_cons]; simp [e, or_comm]⟩
    obtain ⟨h1, h2, h3⟩ := (h.mem t).1 ht
    exact hlt t.Key (by rw [← h1, ← h2]; exact h3)
def turnsM : List Row → List Row → List Turn
  | [], [] => []
  | a :: as1, [] => ⟨a.Key, a.Value, []⟩ :: turnsM as1 []
  | [], b :: bs => ⟨b.Key, [], b.Value⟩ :: turnsM [] bs
  | a :: as1, b :: bs => if cmpB a.Key b.Key < 0 then ⟨a.Key, a.Value, []⟩ :: turnsM as1 (b :: bs) else if 0 < cmpB a.Key b.Key then ⟨b.Key, [], b.Value⟩ :: turnsM (a :: as1) bs
    else if a.Value = b.Value then turnsM as1 bs else ⟨a.Key, a.Value, b.Value⟩ :: turnsM as1 bs
termination_by a b => a.length + b.length
theorem RightL.above {r : Row} {l : List Row} (h : RightL (r :: l)) {k : List UInt8} (hk : getR l k ≠ []) : lessB r.Key k = true := by
  obtain ⟨s, hs, rfl, _⟩ := getR_ne hk
  exact (List.pairwise_cons.1 h.up).1 s hs
theorem RightL.not_in {r : Row} {l : List Row} (h : RightL (r :: l)) {k : List UInt8} (hk : lessB r.Key k = false) : getR l k = [] := by
  cases e : getR l k with
  | nil => rfl
  | cons x y => have := h.above (k := k) (by rw [e]; simp); rw [hk] at this; cases this
theorem RightL.not_in' {r : Row} {l : List Row} (h : RightL (r :: l)) {k : List UInt8} (hk : lessB k r.Key = true) : getR (r :: l) k = [] := by
  rw [getR, if_neg fun e => by rw [e, lessB_irr] at hk; cases hk]
  exact h.not_in (lessB_asym hk)
theorem RightL.not_if {r : Row} {l : List Row} (h : RightL (r :: l)) {K : List UInt8} (hk : lessB K r.Key = true) (k : List UInt8) : getR (r :: l) k = if k = K then [] else getR (r :: l) k := by
  split
  · rename_i e; rw [e]; exact h.not_in' hk
  · rfl
theorem ne_or {x y : List UInt8} (h : x ≠ y) : x ≠ [] ∨ y ≠ [] := by
  by_cases e : x = []
  · exact .inr fun e2 => h (e.trans e2.symm)
  · exact .inl e
theorem turnsM_of : ∀ (a b : List Row), RightL a → RightL b → TurnsOf (getR a) (getR b) (turnsM a b)
  | [], [], _, _ => by rw [turnsM]; exact TurnsOf.same _
  | a :: as1, [], ha, hb => by
    rw [turnsM]
    have := (turnsM_of as1 [] ha.cons hb).step (f := getR (a :: as1)) (g := getR []) (K := a.Key) (va := a.Value) (vb := []) (fun k => getR_cons _ _ k) (fun k => by simp [getR]) (by rw [ha.not_in (lessB_irr _)]; rfl)
      (fun k hk => ha.above (fun e => hk (by rw [e]; rfl)))
    rwa [if_neg (ha.val a (by simp))] at this
  | [], b :: bs, ha, hb => by
    rw [turnsM]
    have := (turnsM_of [] bs ha hb.cons).step (f := getR []) (g := getR (b :: bs)) (K := b.Key) (va := []) (vb := b.Value) (fun k => by simp [getR]) (fun k => getR_cons _ _ k) (by rw [hb.not_in (lessB_irr _)]; rfl)
      (fun k hk => hb.above (fun e => hk (by rw [e]; rfl)))
    rwa [if_neg (Ne.symm (hb.val b (by simp)))] at this
  | a :: as1, b :: bs, ha, hb => by
    rw [turnsM]
    split
    · rename_i h
      have h := cmpB_neg.1 h
      have := (turnsM_of as1 (b :: bs) ha.cons hb).step (f := getR (a :: as1)) (g := getR (b :: bs)) (K := a.Key) (va := a.Value) (vb := []) (fun k => getR_cons _ _ k)
        (fun k => hb.not_if h k) (by rw [ha.not_in (lessB_irr _), hb.not_in' h])
        (fun k hk => by
          rcases ne_or hk with hk | hk
          · exact ha.above hk
          · obtain ⟨s, hs, rfl, _⟩ := getR_ne hk
            rcases List.mem_cons.1 hs with rfl | hs
            · exact h
            · exact lessB_trans h ((List.pairwise_cons.1 hb.up).1 s hs))
      rwa [if_neg (ha.val a (by simp))] at this
    · split
      · rename_i _ h
        have h := cmpB_pos.1 h
        have := (turnsM_of (a :: as1) bs ha hb.cons).step (f := getR (a :: as1)) (g := getR (b :: bs)) (K := b.Key) (va := []) (vb := b.Value) (fun k => ha.not_if h k)
          (fun k => getR_cons _ _ k) (by rw [hb.not_in (lessB_irr _), ha.not_in' h])
          (fun k hk => by
            rcases ne_or hk with hk | hk
            · obtain ⟨s, hs, rfl, _⟩ := getR_ne hk
              rcases List.mem_cons.1 hs with rfl | hs
              · exact h
              · exact lessB_trans h ((List.pairwise_cons.1 ha.up).1 s hs)
            · exact hb.above hk)
        rwa [if_neg (Ne.symm (hb.val b (by simp)))] at this
      · rename_i h1 h2
        have e : a.Key = b.Key := cmpB_zero.1 (by omega)
        exact (turnsM_of as1 bs ha.cons hb.cons).step (f := getR (a :: as1)) (g := getR (b :: bs)) (K := a.Key) (va := a.Value) (vb := b.Value) (fun k => getR_cons _ _ k)
          (fun k => by rw [e]; exact getR_cons b bs k) (by rw [ha.not_in (lessB_irr _), e, hb.not_in (lessB_irr _)])
          (fun k hk => by
            rcases ne_or hk with hk | hk
            · exact ha.above hk
            · rw [e]; exact hb.above hk)
termination_by a b => a.length + b.length
theorem turnsM_len : ∀ (a b : List Row), (turnsM a b).length ≤ a.length + b.length
  | [], [] => by rw [turnsM]; simp
  | a :: as1, [] => by rw [turnsM]; have := turnsM_len as1 []; simp at *; omega
  | [], b :: bs => by rw [turnsM]; have := turnsM_len [] bs; simp at *; omega
  | a :: as1, b :: bs => by
    rw [turnsM]
    have h1 := turnsM_len as1 (b :: bs); have h2 := turnsM_len (a :: as1) bs; have h3 := turnsM_len as1 bs
    repeat' split
    all_goals (simp at *; omega)
termination_by a b => a.length + b.length
def turnsP (a b : List Row) : List Turn := if !rightR a || !rightR b then [] else turnsM a b
/-- The document's keys. -/
def keysU (ks l : List Row) : List Row := l.foldl (fun ks r => putR ks r.Key [1]) ks
theorem keysU_spec : ∀ (l : List Row) {ks : List Row}, RightL ks → (∀ r ∈ l, r.Key ≠ []) → RightL (keysU ks l) ∧ ∀ k, getR (keysU ks l) k ≠ [] ↔ (getR ks k ≠ [] ∨ ∃ r ∈ l, r.Key = k)
  | [], ks, h, _ => ⟨h, fun k => by simp [keysU]⟩
  | r :: l, ks, h, hk => by
    have h' := putR_right h (v := [1]) (hk r (by simp))
    obtain ⟨i1, i2⟩ := keysU_spec l h' fun s hs => hk s (List.mem_cons_of_mem _ hs)
    refine ⟨i1, fun k => (i2 k).trans ?_⟩
    rw [putR_get h (hk r (by simp))]
    by_cases e : k = r.Key
    · subst e; simp
    · simp [e, Ne.symm e]
def turnsK (a b : List Row) (ks : List Row) : List Turn := ks.filterMap fun r => if getR a r.Key = getR b r.Key then none else some ⟨r.Key, getR a r.Key, getR b r.Key⟩
def turnsR (a b : List Row) : List Turn := if !rightR a || !rightR b then [] else turnsK a b (keysU (keysU [] a) b)
theorem turnsK_of {a b : List Row} (ha : RightL a) (hb : RightL b) : TurnsOf (getR a) (getR b) (turnsK a b (keysU (keysU [] a) b)) := by
  obtain ⟨h1, h2⟩ := keysU_spec a RightL.nil ha.key
  obtain ⟨h3, h4⟩ := keysU_spec b h1 hb.key
  have hin : ∀ k, getR a k ≠ getR b k → ∃ r ∈ keysU (keysU [] a) b, r.Key = k := fun k hk => by
    have : getR (keysU (keysU [] a) b) k ≠ [] := (h4 k).2 (by
      rcases ne_or hk with hk | hk
      · obtain ⟨s, hs, e, _⟩ := getR_ne hk; exact .inl ((h2 k).2 (.inr ⟨s, hs, e⟩))
      · obtain ⟨s, hs, e, _⟩ := getR_ne hk; exact .inr ⟨s, hs, e⟩)
    obtain ⟨r, hr, e, _⟩ := getR_ne this
    exact ⟨r, hr, e⟩
  refine ⟨?_, fun t => ?_⟩
  · unfold turnsK
    rw [List.pairwise_filterMap]
    refine h3.up.imp fun {r s} hrs t ht u hu => ?_
    split at ht
    · cases ht
    · split at hu
      · cases hu
      · cases ht; cases hu; exact hrs
  · unfold turnsK
    rw [List.mem_filterMap]
    constructor
    · rintro ⟨r, hr, h⟩
      split at h
      · cases h
      · rename_i hne; cases h; exact ⟨rfl, rfl, hne⟩
    · rintro ⟨h1, h2, h3⟩
      rw [h1, h2] at h3
      obtain ⟨r, hr, e⟩ := hin _ h3
      refine ⟨r, hr, ?_⟩
      rw [e, if_neg h3]
      cases t; simp only at h1 h2 ⊢; rw [← h1, ← h2]
theorem turnsP_eq (a b : List Row) : turnsP a b = turnsR a b := by
  unfold turnsP turnsR
  split
  · rfl
  · rename_i h
    simp only [Bool.or_eq_true, Bool.not_eq_true', not_or, Bool.not_eq_false] at h
    have ha := rightR_iff.1 h.1; have hb := rightR_iff.1 h.2
    exact (turnsM_of a b ha hb).unique (turnsK_of ha hb)

/-! Rows are turned. -/
def goA : List Row → List Turn → Option (List Row)
  | out, [] => some out
  | out, t :: ts => if t.Key = [] ∨ getR out t.Key ≠ t.Old then none else goA (putR out t.Key t.New) ts
def applyR (l : List Row) (t : List Turn) : Option (List Row) := if rightR l then goA l t else none
def goF : Tab → List Turn → Option Tab
  | f, [] => some f
  | f, t :: ts => if t.Key = [] ∨ f t.Key ≠ t.Old then none else goF (fun k => if k = t.Key then t.New else f k) ts
theorem goA_goF : ∀ (ts : List Turn) {out : List Row}, RightL out → (goA out ts = none → goF (getR out) ts = none) ∧ ∀ m, goA out ts = some m → RightL m ∧ goF (getR out) ts = some (getR m)
  | [], out, h => ⟨fun e => (by cases e), fun m e => (by cases e; exact ⟨h, rfl⟩)⟩
  | t :: ts, out, h => by
    rw [goA, goF]
    by_cases e : t.Key = [] ∨ getR out t.Key ≠ t.Old
    · rw [if_pos e, if_pos e]; exact ⟨fun _ => rfl, fun m e => (by cases e)⟩
    · rw [if_neg e, if_neg e]
      have hk : t.Key ≠ [] := fun x => e (.inl x)
      have := goA_goF ts (putR_right h (v := t.New) hk)
      rw [show getR (putR out t.Key t.New) = fun k => if k = t.Key then t.New else getR out k from funext (putR_get h hk)] at this
      exact this
theorem goF_append : ∀ (s t : List Turn) (f : Tab), goF f (s ++ t) = (goF f s).bind fun g => goF g t
  | [], t, f => rfl
  | x :: s, t, f => by
    rw [List.cons_append, goF, goF]
    split
    · rfl
    · exact goF_append s t _
def backR (t : List Turn) : List Turn := (t.map fun x => ⟨x.Key, x.New, x.Old⟩).reverse
theorem goF_back : ∀ (ts : List Turn) {f g : Tab}, goF f ts = some g → goF g (backR ts) = some f
  | [], f, g, h => by cases h; rfl
  | t :: ts, f, g, h => by
    rw [goF] at h
    split at h
    · cases h
    · rename_i e
      have ih := goF_back ts h
      have hb : backR (t :: ts) = backR ts ++ [⟨t.Key, t.New, t.Old⟩] := by simp [backR]
      rw [hb, goF_append, ih]
      simp only [Option.bind_some, goF]
      have hk : t.Key ≠ [] := fun x => e (.inl x)
      have ho : f t.Key = t.Old := Classical.byContradiction fun x => e (.inr x)
      rw [if_neg (by simp [hk])]
      congr 1
      funext k
      by_cases ek : k = t.Key
      · subst ek; simp [ho]
      · simp [ek]
theorem goF_all : ∀ (ts : List Turn) {f g : Tab}, ts.Pairwise turnLt → (∀ t ∈ ts, t.Key ≠ [] ∧ t.Old = f t.Key ∧ t.New = g t.Key) → (∀ k, f k ≠ g k → ∃ t ∈ ts, t.Key = k) → goF f ts = some g
  | [], f, g, _, _, h => by
    rw [goF]; congr 1; funext k
    exact Classical.byContradiction fun e => by obtain ⟨t, ht, _⟩ := h k e; cases ht
  | t :: ts, f, g, hp, hm, h => by
    rw [goF]
    obtain ⟨h1, h2, h3⟩ := hm t (by simp)
    rw [if_neg (by simp [h1, h2])]
    obtain ⟨p1, p2⟩ := List.pairwise_cons.1 hp
    refine goF_all ts p2 (fun u hu => ?_) fun k hk => ?_
    · obtain ⟨k1, k2, k3⟩ := hm u (List.mem_cons_of_mem _ hu)
      refine ⟨k1, ?_, k3⟩
      have : u.Key ≠ t.Key := Ne.symm (lessB_ne (p1 u hu))
      simp [this, k2]
    · by_cases e : k = t.Key
      · simp [e, h3] at hk
      · simp only [e, if_false] at hk
        obtain ⟨u, hu, rfl⟩ := h k hk
        rcases List.mem_cons.1 hu with rfl | hu
        · exact absurd rfl e
        · exact ⟨u, hu, rfl⟩
theorem goF_turns {a b : List Row} (ha : RightL a) (hb : RightL b) : goF (getR a) (turnsM a b) = some (getR b) := by
  have ht := turnsM_of a b ha hb
  have hk : ∀ k, getR a k ≠ getR b k → k ≠ [] := fun k hk => by
    rcases ne_or hk with hk | hk
    · obtain ⟨s, hs, rfl, _⟩ := getR_ne hk; exact ha.key s hs
    · obtain ⟨s, hs, rfl, _⟩ := getR_ne hk; exact hb.key s hs
  refine goF_all _ ht.up (fun t h => ?_) fun k h => ?_
  · obtain ⟨h1, h2, h3⟩ := (ht.mem t).1 h
    exact ⟨hk _ (by rw [← h1, ← h2]; exact h3), h1, h2⟩
  · exact ⟨⟨k, getR a k, getR b k⟩, (ht.mem _).2 ⟨rfl, rfl, h⟩, rfl⟩
/-- What tables say of rows. -/
theorem applyR_some {a b : List Row} {t : List Turn} (ha : RightL a) (hb : RightL b) (h : goF (getR a) t = some (getR b)) : applyR a t = some b := by
  unfold applyR
  rw [if_pos (rightR_iff.2 ha)]
  cases e : goA a t with
  | none => have := (goA_goF t ha).1 e; rw [h] at this; cases this
  | some m =>
    obtain ⟨h1, h2⟩ := (goA_goF t ha).2 m e
    rw [h] at h2
    rw [hb.ext h1 fun k => congrFun (Option.some.inj h2) k]
theorem turnsP_right {a b : List Row} (ha : RightL a) (hb : RightL b) : turnsP a b = turnsM a b := by
  unfold turnsP; rw [rightR_iff.2 ha, rightR_iff.2 hb]; rfl
theorem apply_turns {a b : List Row} (ha : RightL a) (hb : RightL b) : applyR a (turnsP a b) = some b := by
  rw [turnsP_right ha hb]; exact applyR_some ha hb (goF_turns ha hb)
theorem apply_back {a b : List Row} (ha : RightL a) (hb : RightL b) : applyR b (backR (turnsP a b)) = some a := by
  rw [turnsP_right ha hb]; exact applyR_some hb ha (goF_back _ (goF_turns ha hb))
theorem apply_two {a b c : List Row} (ha : RightL a) (hb : RightL b) (hc : RightL c) : applyR a (turnsP a b ++ turnsP b c) = some c := by
  rw [turnsP_right ha hb, turnsP_right hb hc]
  exact applyR_some ha hc (by rw [goF_append, goF_turns ha hb]; exact goF_turns hb hc)
theorem turns_self {a : List Row} (ha : RightL a) : turnsP a a = [] := by
  rw [turnsP_right ha ha]; exact (turnsM_of a a ha ha).unique (TurnsOf.same _)
theorem turns_nil_len (l : List Row) : ((turnsP [] l).length = l.length) ↔ RightL l := by
  have hn : ∀ l : List Row, (turnsM [] l).length = l.length := by
    intro l
    induction l with
    | nil => rw [turnsM]; rfl
    | cons b l ih => rw [turnsM]; simp [ih]
  have e0 : rightR [] = true := rfl
  unfold turnsP
  by_cases h : rightR l = true
  · simp only [e0, h, Bool.not_true, Bool.or_self, Bool.false_eq_true, if_false, hn, true_iff]
    exact rightR_iff.1 h
  · have h' : rightR l = false := by simpa using h
    simp only [e0, h', Bool.not_true, Bool.not_false, Bool.or_true, if_true, List.length_nil]
    constructor
    · intro e
      have : l = [] := List.eq_nil_of_length_eq_zero e.symm
      subst this; exact RightL.nil
    · intro hr; exact absurd (rightR_iff.2 hr) h
theorem turnsP_len (a b : List Row) : (turnsP a b).length ≤ a.length + b.length := by
  unfold turnsP; split
  · simp
  · exact turnsM_len a b
end Go.Ab

/- What is told: residuals: what each function does in the abstract memory, printed by a program of mine. Definitions alone. -/
set_option linter.unusedVariables false
namespace Go.Ab
end Go.Ab

/- What is proved: contracts of windows' functions. No conditions. -/
set_option linter.unusedVariables false
namespace Go.Ab
variable {C : CSem} {N : Nat → Nat}

def Window.right (w : Window) : Bool := decide (0 ≤ w.From) && decide (w.From ≤ w.Until) && decide (w.Until ≤ 4001)

def Window.zero : Window := ⟨0, 0⟩
def within (a b : Int) : Window × Bool := if b ≤ a then (.zero, false) else (⟨a, b⟩, true)
end Go.Ab

/- What is told: residuals: what each function does in the abstract memory, printed by a program of mine. Definitions alone. -/
set_option linter.unusedVariables false
namespace Go.Ab
end Go.Ab

/- What is told: residuals: what each function does in the abstract memory, printed by a program of mine. Definitions alone. -/
set_option linter.unusedVariables false
namespace Go.Ab
end Go.Ab

/- What is told: residuals: what each function does in the abstract memory, printed by a program of mine. Definitions alone. -/
set_option linter.unusedVariables false
namespace Go.Ab
end Go.Ab

/- What is told: residuals: what each function does in the abstract memory, printed by a program of mine. Definitions alone. -/
set_option linter.unusedVariables false
namespace Go.Ab
end Go.Ab

/- What is told: residuals: what each function does in the abstract memory, printed by a program of mine. Definitions alone. -/
set_option linter.unusedVariables false
namespace Go.Ab
end Go.Ab

/- What is proved: contracts of answers' functions, the program's and the document's: are they right, their bytes. No conditions. -/
set_option linter.unusedVariables false
set_option linter.unusedSimpArgs false
namespace Go.Ab
variable {C : CSem} {N : Nat → Nat}

/-! Numbers as bytes. -/
/-- n in so many bytes, the highest first. -/
def be (n : Int) : Nat → List UInt8
  | 0 => []
  | k + 1 => byt (n.fdiv (2 ^ (8 * k))) :: be n k
@[simp] theorem be_len (n : Int) : ∀ k, (be n k).length = k
  | 0 => rfl
  | k + 1 => by simp [be, be_len n k]
/-! Answers. -/
end Go.Ab

/- What is proved: contracts of windows' functions. No conditions. -/
set_option linter.unusedVariables false
namespace Go.Ab
variable {C : CSem} {N : Nat → Nat}

/-! Rows. -/
end Go.Ab

/- What is proved: stable orders, by ghost numbers. No conditions. -/
namespace Go.Ab
/-! Stable orders. -/
structure Weak {T : Type} (less : T → T → Bool) : Prop where
  asym : ∀ {a b}, less a b = true → less b a = false
  ntrans : ∀ {a b c}, less a b = false → less b c = false → less a c = false
section
variable {T : Type} {less : T → T → Bool}
theorem Weak.irr (W : Weak less) (a : T) : less a a = false := by
  cases h : less a a with
  | false => rfl
  | true => have := W.asym h; rw [h] at this; cases this
theorem Weak.trans (W : Weak less) {a b c : T} (h1 : less a b = true) (h2 : less b c = true) : less a c = true := by
  cases h : less a c with
  | true => rfl
  | false => have := W.ntrans h (W.asym h2); rw [h1] at this; cases this
/-- Ahead, or alike and of a smaller number. -/
def lt' (less : T → T → Bool) (x y : T × Nat) : Prop := less x.1 y.1 = true ∨ (less y.1 x.1 = false ∧ x.2 < y.2)
theorem lt'_trans (W : Weak less) {x y z : T × Nat} (h1 : lt' less x y) (h2 : lt' less y z) : lt' less x z := by
  unfold lt' at *
  rcases h1 with h1 | ⟨h1, n1⟩ <;> rcases h2 with h2 | ⟨h2, n2⟩
  · exact .inl (W.trans h1 h2)
  · left
    cases h : less x.1 z.1 with
    | true => rfl
    | false => have := W.ntrans h h2; rw [h1] at this; cases this
  · left
    cases h : less x.1 z.1 with
    | true => rfl
    | false => have := W.ntrans h1 h; rw [h2] at this; cases this
  · exact .inr ⟨W.ntrans h2 h1, by omega⟩
theorem lt'_asym (W : Weak less) {x y : T × Nat} (h1 : lt' less x y) (h2 : lt' less y x) : False := by
  have := lt'_trans W h1 h2
  unfold lt' at this
  rcases this with h | ⟨_, h⟩
  · rw [W.irr] at h; cases h
  · omega
theorem lt'_gt {x y : T × Nat} (hn : y.2 < x.2) : lt' less x y ↔ less x.1 y.1 = true := ⟨fun h => h.elim id fun ⟨_, h⟩ => by omega, .inl⟩
theorem lt'_le (W : Weak less) {x y : T × Nat} (hn : x.2 < y.2) : lt' less x y ↔ less y.1 x.1 = false :=
  ⟨fun h => h.elim (fun h => W.asym h) fun ⟨h, _⟩ => h, fun h => .inr ⟨h, hn⟩⟩
/-- S is L in stable order. -/
def StableSort (less : T → T → Bool) (L S : List T) : Prop := ∃ G : List (T × Nat), G.map (·.1) = S ∧ G.Perm L.zipIdx ∧ G.Pairwise (lt' less)
theorem StableSort.unique (W : Weak less) {L S S' : List T} (h : StableSort less L S) (k : StableSort less L S') : S = S' := by
  obtain ⟨G, rfl, p, s⟩ := h
  obtain ⟨H, rfl, q, t⟩ := k
  have := List.Perm.eq_of_pairwise (le := lt' less) (fun a b _ _ h1 h2 => (lt'_asym W h1 h2).elim) s t (p.trans q.symm)
  rw [this]
theorem StableSort.perm {L S : List T} (h : StableSort less L S) : S.Perm L := by
  obtain ⟨G, rfl, p, _⟩ := h
  have := p.map (·.1)
  simpa using this
end
end Go.Ab

/- What is proved: elements of one's own list loaded, stored, exchanged; numbers. No conditions. -/
set_option linter.unusedVariables false
set_option linter.unusedSimpArgs false
namespace Go.Ab
variable {C : CSem} {N : Nat → Nat}

/-! Numbers. -/
theorem add1 {a : Nat} (h : a < 4611686018427387904) : V.bin .add (.int .i64 (a : Int)) (.int .i64 1) = some (.int .i64 ((a + 1 : Nat) : Int)) := by
  rw [V.bin_add, wrap_i64 (by omega) (by omega)]; simp
theorem sub1 {a : Nat} (h : 1 ≤ a) (ha : a < 4611686018427387904) : V.bin .sub (.int .i64 (a : Int)) (.int .i64 1) = some (.int .i64 ((a - 1 : Nat) : Int)) := by
  rw [V.bin_sub, wrap_i64 (by omega) (by omega)]; congr 2; omega
theorem lssN {a b : Nat} : V.bin .lss (.int .i64 (a : Int)) (.int .i64 (b : Int)) = some (.bool (decide (a < b))) := by rw [V.bin_lss]; congr 3; exact propext (by omega)
theorem leqN {a b : Nat} : V.bin .leq (.int .i64 (a : Int)) (.int .i64 (b : Int)) = some (.bool (decide (a ≤ b))) := by rw [V.bin_leq]; congr 3; exact propext (by omega)
theorem gtrN {a b : Nat} : V.bin .gtr (.int .i64 (a : Int)) (.int .i64 (b : Int)) = some (.bool (decide (b < a))) := by rw [V.bin_gtr]; congr 3; exact propext (by omega)
/-- What is asked of the elements of a list: their cells, how they are loaded and stored. -/
structure SeqSpec (E : ElOps) {X : Type} (cs : X → List AVal) (v : X → AVal) : Prop where
  pos : 0 < E.es
  small : E.bytes ≤ 1000
  zlen : E.z.length = E.es
  len : ∀ t, (cs t).length = E.es
  new : ∀ t, fillL [(0, E.kp, v t)] (repL 1 E.z) = some (cs t)
  ld : ∀ {h : AHeap} {x : AVal} {L R : List (List AVal)} {i : Nat} {t : X} {K : AVal → Prop}, SlX h E.es x L R → L[i]? = some (cs t) → K (v t) → E.ld h (elp E.es x i 0) K
  kpt : ∀ {h : AHeap} {x : AVal} {L R : List (List AVal)} {i : Nat} {t : X}, SlX h E.es x L R → L[i]? = some (cs t) → Kp h (elp E.es x i 0) E.kp
  st : ∀ {h0 h : AHeap} {x : AVal} {L R : List (List AVal)} {i : Nat} {c : List AVal} {t : X} {K : AHeap → Prop}, Owns h0 h [.sl E.es x L R] → L[i]? = some c →
    (∀ h', Owns h0 h' [.sl E.es x (L.set i (cs t)) R] → K h') → E.st h (elp E.es x i 0) (v t) K
theorem SeqSpec.comp {E : ElOps} {X Y : Type} {cs : X → List AVal} {v : X → AVal} (S : SeqSpec E cs v) (f : Y → X) : SeqSpec E (fun y => cs (f y)) (fun y => v (f y)) :=
  ⟨S.pos, S.small, S.zlen, fun t => S.len _, fun t => S.new _, fun h1 h2 h3 => S.ld h1 h2 h3, fun h1 h2 => S.kpt h1 h2, fun h1 h2 h3 => S.st h1 h2 h3⟩
theorem seqF {X : Type} {es bytes f : Nat} {z : List AVal} {sh : List Ck} {cs : X → List AVal} (hp : 0 < es) (hb : bytes ≤ 1000) (hz : z.length = es) (hl : ∀ t, (cs t).length = es) : SeqSpec (opsF es bytes z f sh) cs (fun t => .agg (cs t)) where
  pos := hp
  small := hb
  zlen := hz
  len := hl
  new t := by
    have hrep : repL 1 z = z := by unfold repL; split <;> simp
    have h1 := hl t
    show fillL [(0, some es, AVal.agg (cs t))] (repL 1 z) = _
    rw [hrep]
    simp [h1, hz]
  ld hs hc hk := by
    simp only [opsF, B.ldn_eq] at hs ⊢
    rw [hs.elem hc]; exact hk
  kpt hs hc := ⟨_, hs.elem hc⟩
  st ho hc hk := ho.stElem 0 rfl hc (hl _) fun h' h1 _ => hk h' h1
theorem seqS {X : Type} {bytes f : Nat} {z : AVal} {v : X → AVal} (hb : bytes ≤ 1000) (hc : ∀ t, (v t).isCell = true) : SeqSpec (opsS bytes z f) (fun t => [v t]) v where
  pos := Nat.one_pos
  small := hb
  zlen := rfl
  len _ := rfl
  new t := by simp [opsS, hc, repL]
  ld hs hcc hk := by
    simp only [opsS, B.ld_eq] at hs ⊢
    rw [hs.cell hcc]; exact hk
  kpt hs hcc := ⟨_, hs.cell hcc⟩
  st {h0 h x L R i c t K} ho hcc hk := by
    have hs : SlX h 1 x L R := ho.slAt 0 rfl
    have hcl : c.length = 1 := hs.len c (List.mem_append_left _ (List.mem_of_getElem? hcc))
    obtain ⟨u, rfl⟩ := List.length_eq_one_iff.1 hcl
    exact ho.st 0 rfl hcc (by show 0 < 1; omega) (hc _) fun h' h1 _ => hk h' h1

/-- A list of one's own, element by element. -/
def Rw (E : ElOps) {X : Type} (cs : X → List AVal) (h0 h : AHeap) (x : AVal) (G : List X) (R : List (List AVal)) : Prop := Owns h0 h [.sl E.es x (G.map cs) R]
section
variable {E : ElOps} {X : Type} {cs : X → List AVal} {v : X → AVal} {h0 h : AHeap} {x : AVal} {G : List X} {R : List (List AVal)}
theorem Rw.idx (ho : Rw E cs h0 h x G R) {i : Nat} (hi : i < G.length) : V.idxS E.es x (.int .i64 (i : Int)) = some (elp E.es x i 0) := (Owns.slAt ho 0 rfl).idxN (by simpa using hi)
theorem Rw.lenE (ho : Rw E cs h0 h x G R) : V.lenSl x = some (.int .i64 G.length) := by have := (Owns.slAt ho 0 rfl).lenSl; simpa using this
theorem Rw.le (ho : Rw E cs h0 h x G R) : h0.le h := Owns.le ho
theorem Rw.ld (ho : Rw E cs h0 h x G R) (S : SeqSpec E cs v) {i : Nat} {t : X} (hg : G[i]? = some t) {K : AVal → Prop} (hk : K (v t)) : E.ld h (elp E.es x i 0) K :=
  S.ld (Owns.slAt ho 0 rfl) (by rw [List.getElem?_map, hg]; rfl) hk
theorem Rw.st (ho : Rw E cs h0 h x G R) (S : SeqSpec E cs v) {i : Nat} {t : X} (hi : i < G.length) {K : AHeap → Prop} (hk : ∀ h', Rw E cs h0 h' x (G.set i t) R → K h') : E.st h (elp E.es x i 0) (v t) K :=
  S.st ho (c := cs G[i]) (by rw [List.getElem?_map, List.getElem?_eq_getElem hi]; rfl) fun h' h1 => hk h' (by unfold Rw; rwa [List.map_set])
theorem set_mid {P Q : List X} {a b : X} {i : Nat} (hi : i = P.length) : (P ++ a :: Q).set i b = P ++ b :: Q := by subst hi; simp
theorem get_mid {P Q : List X} {a : X} {i : Nat} (hi : i = P.length) : (P ++ a :: Q)[i]? = some a := by subst hi; simp
theorem set_mid2 {P Q T : List X} {a b c : X} {j : Nat} (hj : j = P.length + 1 + Q.length) : (P ++ a :: (Q ++ b :: T)).set j c = P ++ a :: (Q ++ c :: T) := by
  have := set_mid (P := P ++ a :: Q) (Q := T) (a := b) (b := c) (i := j) (by simp; omega)
  simpa using this
theorem get_mid2 {P Q T : List X} {a b : X} {j : Nat} (hj : j = P.length + 1 + Q.length) : (P ++ a :: (Q ++ b :: T))[j]? = some b := by
  have := get_mid (P := P ++ a :: Q) (Q := T) (a := b) (i := j) (by simp; omega)
  simpa using this
theorem Rw.swapDn {P Q T : List X} {a b : X} {i j : Nat} (ho : Rw E cs h0 h x (P ++ a :: (Q ++ b :: T)) R) (S : SeqSpec E cs v) (hi : i = P.length) (hj : j = P.length + 1 + Q.length) {K : AHeap → Prop}
    (hk : ∀ h', Rw E cs h0 h' x (P ++ b :: (Q ++ a :: T)) R → K h') : E.st h (elp E.es x j 0) (v a) fun h => E.st h (elp E.es x i 0) (v b) K := by
  refine ho.st S (by simp; omega) fun h1 o1 => ?_
  rw [set_mid2 hj] at o1
  refine o1.st S (by simp; omega) fun h2 o2 => hk h2 ?_
  rwa [set_mid hi] at o2
end

/-- A comparison that leaves the memory. -/
structure CmpSpec (C : CSem) {X : Type} (v : X → AVal) (c : X → X → Int) (f : AVal) (h0 : AHeap) : Prop where
  call : ∀ (h : AHeap) (a b : X) (K : AVal → AHeap → Prop), h0.le h → K (.int .i64 (c a b)) h → B.callv h C f [v a, v b] K

section
variable {E : ElOps} {T : Type} {cs : T → List AVal} {v : T → AVal} {c : T → T → Int} {h0 h : AHeap} {x f : AVal} {R : List (List AVal)} {Q : AVal → AHeap → Prop}
/-- Ahead, by a comparison's answer. -/
def lessC (c : T → T → Int) (a b : T) : Bool := decide (c a b < 0)

theorem nil_or_snoc {X : Type} (L : List X) : L = [] ∨ ∃ L0 y, L = L0 ++ [y] := by
  rcases List.eq_nil_or_concat L with h | ⟨A, b, h⟩
  · exact .inl h
  · exact .inr ⟨A, b, by rw [h, List.concat_eq_append]⟩
/-- Insertion sort, stable. -/
theorem insertionSort_spec (S : SeqSpec E cs v) (W : Weak (lessC c)) {P M U : List (T × Nat)} (hlen : (P ++ (M ++ U)).length ≤ 100000000) (ht : M.Pairwise fun a b => a.2 < b.2)
    (hc : CmpSpec C v c f h0) {a b : Nat} (ha : a = P.length) (hb : b = P.length + M.length) (ho : Rw E (fun p : T × Nat => cs p.1) h0 h x (P ++ (M ++ U)) R)
    (hq : ∀ h' M', M'.Perm M → M'.Pairwise (lt' (lessC c)) → Rw E (fun p : T × Nat => cs p.1) h0 h' x (P ++ (M' ++ U)) R → Q (.tup []) h') :
    slices_insertionSortCmpFuncG.cps C E x (.int .i64 (a : Int)) (.int .i64 (b : Int)) f h Q := by
  have S' := S.comp (fun p : T × Nat => p.1)
  subst ha
  have hlen' : P.length + M.length + U.length ≤ 100000000 := by simpa [Nat.add_assoc] using hlen
  simp -dsimp only [slices_insertionSortCmpFuncG.cps, add1 (show P.length < 4611686018427387904 by omega), B.pv_some]
  cases M with
  | nil =>
    intro Y hY
    refine hY _ _ ?_
    simp -dsimp only [slices_insertionSortCmpFuncG.l3, lssN, B.pv_some]
    rw [show decide (P.length + 1 < b) = false by simp at hb ⊢; omega, B.cond_false]
    exact hq h [] (List.Perm.refl _) .nil ho
  | cons m M1 =>
  simp only [List.length_cons] at hlen' hb
  rw [List.pairwise_cons] at ht
  refine LoopR.intro (fun t vs hh => ∃ (i : Nat) (L M2 : List (T × Nat)), t = M2.length ∧ vs = [.int .i64 i] ∧ i = P.length + L.length ∧ i + M2.length = b ∧ Rw E (fun p : T × Nat => cs p.1) h0 hh x (P ++ (L ++ (M2 ++ U))) R ∧
    (L ++ M2).Perm (m :: M1) ∧ L.Pairwise (lt' (lessC c)) ∧ M2.Pairwise (fun a b => a.2 < b.2) ∧ ∀ p ∈ L, ∀ q ∈ M2, p.2 < q.2) M1.length ?_
    ⟨P.length + 1, [m], M1, rfl, rfl, by simp, by omega, by simpa using ho, List.Perm.refl _, List.pairwise_singleton .., ht.2, by simpa using ht.1⟩
  rintro Y t vs hh ⟨i, L, M2, rfl, rfl, hi, hib, o, hp, hs, ht2, htt⟩ hY
  simp -dsimp only [slices_insertionSortCmpFuncG.l3, lssN, B.pv_some]
  cases M2 with
  | nil =>
    rw [show decide (i < b) = false by simp at hib ⊢; omega, B.cond_false]
    rw [List.append_nil] at hp
    exact hq hh L hp hs o
  | cons x0 M2 =>
    simp only [List.length_cons] at hib
    rw [show decide (i < b) = true by simp; omega, B.cond_true]
    rw [List.pairwise_cons] at ht2
    have hll : P.length + (L.length + (M2.length + 1)) = b := by omega
    refine LoopR.intro (fun t vs h2 => ∃ (L1 L2 : List (T × Nat)), t = L1.length ∧ vs = [.int .i64 ((P.length + L1.length : Nat) : Int)] ∧ L = L1 ++ L2 ∧ Rw E (fun p : T × Nat => cs p.1) h0 h2 x (P ++ (L1 ++ x0 :: (L2 ++ (M2 ++ U)))) R ∧
      ∀ q ∈ L2, lt' (lessC c) x0 q) L.length ?_ ⟨L, [], rfl, by rw [hi], by simp, by simpa using o, by simp⟩
    rintro Z t vs h2 ⟨L1, L2, rfl, rfl, rfl, o2, hx⟩ hZ
    rw [List.pairwise_append] at hs
    have fin : (L1 = [] ∨ ∃ L0 y, L1 = L0 ++ [y] ∧ lt' (lessC c) y x0) → Y [.int .i64 ((i + 1 : Nat) : Int)] h2 := fun hz => by
      have hlow : ∀ p ∈ L1, lt' (lessC c) p x0 := by
        rcases hz with rfl | ⟨L0, y, rfl, hy⟩
        · simp
        · intro p hpm
          rcases List.mem_append.1 hpm with h1 | h1
          · exact lt'_trans W ((List.pairwise_append.1 hs.1).2.2 p h1 y (by simp)) hy
          · rw [List.mem_singleton.1 h1]; exact hy
      refine hY M2.length _ _ (by simp) ⟨i + 1, L1 ++ x0 :: L2, M2, rfl, rfl, by simp at hi ⊢; omega, by omega, by simpa using o2, ?_, ?_, ht2.2, ?_⟩
      · refine List.Perm.trans ?_ hp
        simp only [List.append_assoc, List.cons_append]
        refine List.Perm.append_left _ ?_
        exact (List.perm_middle (l₁ := L2) (l₂ := M2) (a := x0)).symm
      · rw [List.pairwise_append, List.pairwise_cons]
        refine ⟨hs.1, ⟨hx, hs.2.1⟩, fun p h1 q h2 => ?_⟩
        rcases List.mem_cons.1 h2 with rfl | h2
        · exact hlow p h1
        · exact hs.2.2 p h1 q h2
      · intro p h1 q h2
        rcases List.mem_append.1 h1 with h1 | h1
        · exact htt p (List.mem_append_left _ h1) q (List.mem_cons_of_mem _ h2)
        · rcases List.mem_cons.1 h1 with rfl | h1
          · exact ht2.1 q h2
          · exact htt p (List.mem_append_right _ h1) q (List.mem_cons_of_mem _ h2)
    have hll2 : i = P.length + (L1.length + L2.length) := by simpa using hi
    simp -dsimp only [slices_insertionSortCmpFuncG.l2, slices_insertionSortCmpFuncG.k1, gtrN, B.pv_some]
    obtain rfl | ⟨L0, y, rfl⟩ := nil_or_snoc L1
    · simp -dsimp [add1 (show i < 4611686018427387904 by omega)]
      exact fin (.inl rfl)
    · have hyx : y.2 < x0.2 := htt y (by simp) x0 (by simp)
      have o2' := o2
      simp only [List.append_assoc, List.cons_append, List.nil_append] at o2'
      simp only [List.length_append, List.length_singleton] at hll2 hlen' hll
      have hj : P.length + (L0 ++ [y]).length = P.length + L0.length + 1 := by simp [Nat.add_assoc]
      rw [show decide (P.length < P.length + (L0 ++ [y]).length) = true by simp]
      rw [hj]
      simp -dsimp only [B.gd_t, B.gdb_pure, B.gdb_true, gv_true, sub1 (show 1 ≤ P.length + L0.length + 1 by omega) (by omega), Nat.add_sub_cancel, o2.idx (i := P.length + L0.length + 1) (by simp; omega), o2.idx (i := P.length + L0.length) (by simp), B.pv_some]
      have o3 : Rw E (fun p : T × Nat => cs p.1) h0 h2 x ((P ++ L0) ++ y :: ([] ++ x0 :: (L2 ++ (M2 ++ U)))) R := by simpa using o2
      have gy : ((P ++ L0) ++ y :: ([] ++ x0 :: (L2 ++ (M2 ++ U))))[P.length + L0.length]? = some y := get_mid (by simp)
      have gx : ((P ++ L0) ++ y :: ([] ++ x0 :: (L2 ++ (M2 ++ U))))[P.length + L0.length + 1]? = some x0 := get_mid2 (by simp)
      refine o3.ld S' gx ?_
      refine o3.ld S' gy ?_
      refine hc.call _ _ _ _ o2.le ?_
      simp -dsimp only [B.gd_t, B.gdb_pure, B.gdb_true, gv_true, V.bin_lss, B.pv_some, B.pick_t]
      refine B.cond_bool (fun hb2 => ?_) (fun hb2 => ?_)
      · simp -dsimp only [sub1 (show 1 ≤ P.length + L0.length + 1 by omega) (by omega), Nat.add_sub_cancel, o2.idx (i := P.length + L0.length + 1) (by simp; omega), o2.idx (i := P.length + L0.length) (by simp), B.pv_some]
        refine o3.ld S' gy ?_
        refine o3.ld S' gx ?_
        refine o3.swapDn S' (by simp) (by simp) fun h4 o4 => ?_
        refine hZ L0.length _ _ (by simp) ⟨L0, y :: L2, rfl, rfl, by simp, by simpa using o4, ?_⟩
        intro q hq2
        rcases List.mem_cons.1 hq2 with rfl | hq2
        · exact (lt'_gt hyx).2 hb2
        · exact hx q hq2
      · simp -dsimp only [add1 (show i < 4611686018427387904 by omega), B.pv_some]
        exact fin (.inr ⟨L0, y, rfl, (lt'_le W hyx).2 hb2⟩)
end
end Go.Ab

/- What is proved: two parts of one's own list exchanged; a list turned about a place. No conditions. -/
set_option linter.unusedVariables false
set_option linter.unusedSimpArgs false
namespace Go.Ab
variable {C : CSem} {N : Nat → Nat}
section
variable {E : ElOps} {X : Type} {cs : X → List AVal} {v : X → AVal} {h0 h : AHeap} {x f : AVal} {R : List (List AVal)} {Q : AVal → AHeap → Prop}

end
end Go.Ab

/- What is proved: two sorted parts merged in place, stable: where one of them is a single element. No conditions. -/
set_option linter.unusedVariables false
set_option linter.unusedSimpArgs false
namespace Go.Ab
variable {C : CSem} {N : Nat → Nat}
section
variable {E : ElOps} {T : Type} {cs : T → List AVal} {v : T → AVal} {c : T → T → Int} {h0 h : AHeap} {x f : AVal} {R : List (List AVal)} {Q : AVal → AHeap → Prop}

end
end Go.Ab

/- What is proved: two sorted parts merged in place, stable: one element on the right; the split of two long parts. No conditions. -/
set_option linter.unusedVariables false
set_option linter.unusedSimpArgs false
namespace Go.Ab
variable {C : CSem} {N : Nat → Nat}
section
variable {E : ElOps} {T : Type} {cs : T → List AVal} {v : T → AVal} {c : T → T → Int} {h0 h : AHeap} {x f : AVal} {R : List (List AVal)} {Q : AVal → AHeap → Prop}

end
end Go.Ab

/- What is proved: two sorted parts merged in place, stable. No conditions. -/
set_option linter.unusedVariables false
set_option linter.unusedSimpArgs false
namespace Go.Ab
variable {C : CSem} {N : Nat → Nat}
section
variable {E : ElOps} {T : Type} {cs : T → List AVal} {v : T → AVal} {c : T → T → Int} {h0 h : AHeap} {x f : AVal} {R : List (List AVal)} {Q : AVal → AHeap → Prop}

end
end Go.Ab

/- What is proved: stable sorting of one's own list by a comparison. No conditions. -/
set_option linter.unusedVariables false
set_option linter.unusedSimpArgs false
namespace Go.Ab
variable {C : CSem} {N : Nat → Nat}
section
variable {E : ElOps} {T : Type} {cs : T → List AVal} {v : T → AVal} {c : T → T → Int} {h0 h : AHeap} {x f : AVal} {R : List (List AVal)} {Q : AVal → AHeap → Prop}

end
end Go.Ab

/- What is proved: slices.SortStableFunc, whatever the elements and the comparison. No conditions. -/
set_option linter.unusedVariables false
set_option linter.unusedSimpArgs false
namespace Go.Ab
variable {C : CSem} {N : Nat → Nat}
def Apt {T : Type} (A D : List (T × Nat)) : Prop := ∀ p ∈ A, ∀ q ∈ D, p.2 < q.2
theorem Apt.perm {T : Type} {A A' D D' : List (T × Nat)} (h : Apt A D) (h1 : ∀ p ∈ A', p ∈ A) (h2 : ∀ p ∈ D', p ∈ D) : Apt A' D' := fun p hp q hq => h p (h1 p hp) q (h2 q hq)
section
variable {E : ElOps} {T : Type} {cs : T → List AVal} {v : T → AVal} {c : T → T → Int} {h0 h : AHeap} {x f : AVal} {R : List (List AVal)} {Q : AVal → AHeap → Prop}

end
end Go.Ab

/- What is proved: slices.SortStableFunc gives the stable order, whatever the elements and the comparison. No conditions. -/
set_option linter.unusedVariables false
set_option linter.unusedSimpArgs false
namespace Go.Ab
variable {C : CSem} {N : Nat → Nat}
section
variable {E : ElOps} {T : Type} {cs : T → List AVal} {v : T → AVal} {c : T → T → Int} {h0 h : AHeap} {x f : AVal} {R : List (List AVal)} {Q : AVal → AHeap → Prop}

end
end Go.Ab

/- What is proved: a list sorted one by one, each behind all that are not above it, stands in the stable order. No conditions. -/
set_option linter.unusedVariables false
set_option linter.unusedSimpArgs false
namespace Go.Ab
section
variable {T : Type} {c : T → T → Int}
end
end Go.Ab

/- What is told: residuals: what each function does in the abstract memory, printed by a program of mine. Definitions alone. -/
set_option linter.unusedVariables false
namespace Go.Ab
end Go.Ab

/- What is proved: contracts of lots' functions, the program's. No conditions. -/
set_option linter.unusedVariables false
set_option linter.unusedSimpArgs false
namespace Go.Ab
variable {C : CSem} {N : Nat → Nat}

/-! What of a list a function keeps. -/
end Go.Ab

/- What is proved: slices.IndexFunc and slices.ContainsFunc, whatever the elements and the function asked. No conditions. -/
set_option linter.unusedVariables false
set_option linter.unusedSimpArgs false
namespace Go.Ab
variable {C : CSem} {N : Nat → Nat}
section
variable {E : ElOps} {T : Type} {cs : T → List AVal} {v : T → AVal}
/-- A function's answers on elements: it leaves the memory. -/
def AskSpec (C : CSem) (v : T → AVal) (f : AVal) (p : T → Bool) (h : AHeap) : Prop := ∀ (t : T) (h' : AHeap) (K : AVal → AHeap → Prop), h.le h' → K (.bool (p t)) h' → B.callv h' C f [v t] K
theorem AskSpec.mono {f : AVal} {p : T → Bool} {h H : AHeap} (s : AskSpec C v f p h) (hle : h.le H) : AskSpec C v f p H := fun l h' K hh hk => s l h' K (AHeap.le_trans hle hh) hk
end
end Go.Ab

/- What is proved: the library's quick sort, generic: what keeps a list's elements; pivots. No conditions. -/
set_option linter.unusedVariables false
set_option linter.unusedSimpArgs false
namespace Go.Ab
variable {C : CSem}
/-- The same elements, the same outside a range. -/
structure Within {X : Type} (a b : Nat) (G G' : List X) : Prop where
  perm : G'.Perm G
  out : ∀ i, i < a ∨ b ≤ i → G'[i]? = G[i]?
theorem Within.refl {X : Type} (a b : Nat) (G : List X) : Within a b G G := ⟨.refl _, fun _ _ => rfl⟩
theorem Within.trans {X : Type} {a b : Nat} {G G' G'' : List X} (x : Within a b G G') (y : Within a b G' G'') : Within a b G G'' := ⟨y.perm.trans x.perm, fun i hi => (y.out i hi).trans (x.out i hi)⟩
theorem Within.mono {X : Type} {a b a' b' : Nat} {G G' : List X} (x : Within a b G G') (ha : a' ≤ a) (hb : b ≤ b') : Within a' b' G G' := ⟨x.perm, fun i hi => x.out i (by omega)⟩
theorem Within.len {X : Type} {a b : Nat} {G G' : List X} (x : Within a b G G') : G'.length = G.length := x.perm.length_eq
theorem Within.same {X : Type} {a b : Nat} {G G' : List X} (w : Within a b G G') {k : Nat} (hk : k < a ∨ b ≤ k) (h1 : k < G'.length) (h2 : k < G.length) : G'[k] = G[k] := by
  have := w.out k hk
  rw [List.getElem?_eq_getElem h1, List.getElem?_eq_getElem h2] at this
  exact Option.some.inj this
def swp {X : Type} (G : List X) (i j : Nat) (hi : i < G.length) (hj : j < G.length) : List X := (G.set i G[j]).set j G[i]
theorem swp_perm {X : Type} {G : List X} {i j : Nat} (hi : i < G.length) (hj : j < G.length) : (swp G i j hi hj).Perm G := by
  unfold swp
  exact List.set_set_perm hi hj
theorem swp_get {X : Type} {G : List X} {i j : Nat} (hi : i < G.length) (hj : j < G.length) (k : Nat) : (swp G i j hi hj)[k]? = if k = j then some G[i] else if k = i then some G[j] else G[k]? := by
  unfold swp
  rw [List.getElem?_set]
  by_cases e : j = k
  · subst e; simp [hj]
  · rw [if_neg e, if_neg (Ne.symm e), List.getElem?_set]
    by_cases e2 : i = k
    · subst e2; simp [hi]
    · rw [if_neg e2, if_neg (Ne.symm e2)]
theorem swp_within {X : Type} {G : List X} {i j a b : Nat} (hi : i < G.length) (hj : j < G.length) (h1 : a ≤ i) (h2 : i < b) (h3 : a ≤ j) (h4 : j < b) : Within a b G (swp G i j hi hj) := ⟨swp_perm hi hj, fun k hk => by
  rw [swp_get, if_neg (by omega), if_neg (by omega)]⟩
section
variable {E : ElOps} {X : Type} {cs : X → List AVal} {v : X → AVal} {h0 h : AHeap} {x f : AVal} {G : List X} {R : List (List AVal)} {c : X → X → Int}
/-- Two places are exchanged. -/
theorem Rw.swap (ho : Rw E cs h0 h x G R) (S : SeqSpec E cs v) {i j : Nat} (hi : i < G.length) (hj : j < G.length) {K : AHeap → Prop} (hk : ∀ h', Rw E cs h0 h' x (swp G i j hi hj) R → K h') :
    E.st h (elp E.es x i 0) (v G[j]) fun h => E.st h (elp E.es x j 0) (v G[i]) K := by
  refine ho.st S (t := G[j]) hi fun h1 o1 => ?_
  exact o1.st S (t := G[i]) (by simpa using hj) fun h2 o2 => hk h2 o2
theorem order2_spec (S : SeqSpec E cs v) (hx : SlX h0 E.es x (G.map cs) R) (hc : CmpSpec C v c f h0) {p : AVal} {n : Int} (ho : Owns h0 h [.box p [.int .i64 n]]) {i j : Nat} (hi : i < G.length) (hj : j < G.length) {Q : AVal → AHeap → Prop}
    (hq : ∀ (i' j' : Nat) (n' : Int) h', (i' = i ∨ i' = j) → (j' = i ∨ j' = j) → Owns h0 h' [.box p [.int .i64 n']] → Q (.tup [.int .i64 (i' : Int), .int .i64 (j' : Int)]) h') : slices_order2CmpFuncG.cps C E x (.int .i64 (i : Int)) (.int .i64 (j : Int)) p f h Q := by
  have hxx := hx.mono ho.le
  have ii : V.idxS E.es x (.int .i64 (i : Int)) = some (elp E.es x i 0) := hxx.idxN (by simpa using hi)
  have ij : V.idxS E.es x (.int .i64 (j : Int)) = some (elp E.es x j 0) := hxx.idxN (by simpa using hj)
  have gi : (G.map cs)[i]? = some (cs G[i]) := by rw [List.getElem?_map, List.getElem?_eq_getElem hi]; rfl
  have gj : (G.map cs)[j]? = some (cs G[j]) := by rw [List.getElem?_map, List.getElem?_eq_getElem hj]; rfl
  obtain ⟨id, rfl, hb⟩ := ho.boxAt 0 rfl
  have ld : A.ldv h (.ptr id 0 0) = some (.int .i64 n) := by rw [ldv_at hb]; rfl
  simp -dsimp only [slices_order2CmpFuncG.cps, slices_order2CmpFuncG.k1, ij, B.pv_some]
  refine S.ld hxx gj ?_
  simp -dsimp only [ii, B.pv_some]
  refine S.ld hxx gi ?_
  refine hc.call _ _ _ _ ho.le ?_
  simp -dsimp only [V.bin_lss, B.pv_some]
  refine B.cond_bool (fun hd => ?_) (fun hd => ?_)
  · simp -dsimp only [B.nilCheck_ptr, B.ld_eq, ld, V.bin_add, B.pv_some]
    refine ho.boxSt 0 (off := 0) rfl rfl (by simp) fun h2 o2 _ => ?_
    exact hq j i _ h2 (.inr rfl) (.inl rfl) (by simpa using o2)
  · exact hq i j n h (.inl rfl) (.inr rfl) ho
abbrev O2I (C : CSem) (E : ElOps) (f1 : Nat) : Prop := ∀ (v0 v1 v2 v3 v4 : AVal) (h : AHeap) (Q : AVal → AHeap → Prop), slices_order2CmpFuncG.cps C E v0 v1 v2 v3 v4 h (dn Q) → C f1 [v0, v1, v2, v3, v4] h Q
abbrev MedI (C : CSem) (E : ElOps) (f1 f2 : Nat) : Prop := ∀ (v0 v1 v2 v3 v4 v5 : AVal) (h : AHeap) (Q : AVal → AHeap → Prop), slices_medianCmpFuncG.cps C E f1 v0 v1 v2 v3 v4 v5 h (dn Q) → C f2 [v0, v1, v2, v3, v4, v5] h Q
abbrev AdjI (C : CSem) (E : ElOps) (f2 f3 : Nat) : Prop := ∀ (v0 v1 v2 v3 : AVal) (h : AHeap) (Q : AVal → AHeap → Prop), slices_medianAdjacentCmpFuncG.cps C E f2 v0 v1 v2 v3 h (dn Q) → C f3 [v0, v1, v2, v3] h Q
theorem median_spec {f1 : Nat} (io : O2I C E f1) (S : SeqSpec E cs v) (hx : SlX h0 E.es x (G.map cs) R) (hc : CmpSpec C v c f h0) {p : AVal} {n : Int} (ho : Owns h0 h [.box p [.int .i64 n]]) {i j k : Nat} (hi : i < G.length) (hj : j < G.length) (hk : k < G.length) {Q : AVal → AHeap → Prop}
    (hq : ∀ (m : Nat) (n' : Int) h', (m = i ∨ m = j ∨ m = k) → Owns h0 h' [.box p [.int .i64 n']] → Q (.int .i64 (m : Int)) h') : slices_medianCmpFuncG.cps C E f1 x (.int .i64 (i : Int)) (.int .i64 (j : Int)) (.int .i64 (k : Int)) p f h Q := by
  simp -dsimp only [slices_medianCmpFuncG.cps, slices_medianCmpFuncG.k1]
  refine io _ _ _ _ _ _ _ (order2_spec S hx hc ho hi hj fun a b n1 h1 ha hb o1 => dn_same ?_)
  simp -dsimp only [V.ext_tup, List.getElem?_cons_zero, List.getElem?_cons_succ, B.pv_some]
  have la : a < G.length := by rcases ha with rfl | rfl <;> assumption
  have lb : b < G.length := by rcases hb with rfl | rfl <;> assumption
  refine io _ _ _ _ _ _ _ (order2_spec S hx hc o1 lb hk fun a2 b2 n2 h2 ha2 hb2 o2 => dn_same ?_)
  simp -dsimp only [V.ext_tup, List.getElem?_cons_zero, List.getElem?_cons_succ, B.pv_some]
  have la2 : a2 < G.length := by rcases ha2 with rfl | rfl <;> assumption
  refine io _ _ _ _ _ _ _ (order2_spec S hx hc o2 la la2 fun a3 b3 n3 h3 ha3 hb3 o3 => dn_same ?_)
  simp -dsimp only [V.ext_tup, List.getElem?_cons_zero, List.getElem?_cons_succ, B.pv_some]
  refine hq b3 n3 h3 ?_ o3
  omega
theorem medianAdjacent_spec {f1 f2 : Nat} (io : O2I C E f1) (im : MedI C E f1 f2) (S : SeqSpec E cs v) (hx : SlX h0 E.es x (G.map cs) R) (hc : CmpSpec C v c f h0) {p : AVal} {n : Int} (ho : Owns h0 h [.box p [.int .i64 n]]) {i : Nat} (hi : 0 < i) (hi2 : i + 1 < G.length) (hl : G.length < 4611686018427387904) {Q : AVal → AHeap → Prop}
    (hq : ∀ (m : Nat) (n' : Int) h', i - 1 ≤ m → m ≤ i + 1 → Owns h0 h' [.box p [.int .i64 n']] → Q (.int .i64 (m : Int)) h') : slices_medianAdjacentCmpFuncG.cps C E f2 x (.int .i64 (i : Int)) p f h Q := by
  have e1 : V.bin .sub (.int .i64 (i : Int)) (.int .i64 1) = some (.int .i64 ((i - 1 : Nat) : Int)) := by
    rw [V.bin_sub, wrap_i64 (by omega) (by omega)]; congr 2; omega
  simp -dsimp only [slices_medianAdjacentCmpFuncG.cps, slices_medianAdjacentCmpFuncG.k1, e1, add1 (show i < 4611686018427387904 by omega), B.pv_some]
  exact im _ _ _ _ _ _ _ _ (median_spec io S hx hc ho (by omega) (by omega) hi2 fun m n' h' hm o' => dn_same (hq m n' h' (by omega) (by omega) o'))
theorem reverseRange_spec (S : SeqSpec E cs v) (hl : G.length < 4611686018427387904) (ho : Rw E cs h0 h x G R) {a b : Nat} (hab : a < b) (hb : b ≤ G.length) {Q : AVal → AHeap → Prop} (hq : ∀ h' G', Within a b G G' → Rw E cs h0 h' x G' R → Q (.tup []) h') :
    slices_reverseRangeCmpFuncG.cps C E x (.int .i64 (a : Int)) (.int .i64 (b : Int)) f h Q := by
  have e1 : V.bin .sub (.int .i64 (b : Int)) (.int .i64 1) = some (.int .i64 ((b - 1 : Nat) : Int)) := by
    rw [V.bin_sub, wrap_i64 (by omega) (by omega)]; congr 2; omega
  simp -dsimp only [slices_reverseRangeCmpFuncG.cps, e1, B.pv_some]
  refine LoopR.intro (fun t vs hh => ∃ (i j : Nat) (G' : List X), t = j ∧ vs = [.int .i64 (i : Int), .int .i64 (j : Int)] ∧ a ≤ i ∧ j < b ∧ Within a b G G' ∧ Rw E cs h0 hh x G' R) (b - 1) ?_ ⟨a, b - 1, G, rfl, rfl, Nat.le_refl _, by omega, Within.refl _ _ _, ho⟩
  rintro Y j vs hh ⟨i, _, G', rfl, rfl, hi, hj, W, o⟩ hY
  simp -dsimp only [slices_reverseRangeCmpFuncG.l2, slices_reverseRangeCmpFuncG.k1, lssN, B.pv_some]
  have hlen := W.len
  refine B.cond_bool (fun hc => ?_) (fun hc => hq hh G' W o) 
  rw [decide_eq_true_eq] at hc
  have li : i < G'.length := by omega
  have lj : j < G'.length := by omega
  simp -dsimp only [o.idx lj, B.pv_some]
  refine o.ld S (List.getElem?_eq_getElem lj) ?_
  simp -dsimp only [o.idx li, B.pv_some]
  refine o.ld S (List.getElem?_eq_getElem li) ?_
  have ij := o.idx lj
  refine o.st S (t := G'[j]) li fun h1 o1 => ?_
  simp -dsimp only [ij, B.pv_some]
  refine o1.st S (t := G'[i]) (by simpa using lj) fun h2 o2 => ?_
  have e2 : V.bin .sub (.int .i64 (j : Int)) (.int .i64 1) = some (.int .i64 ((j - 1 : Nat) : Int)) := by
    rw [V.bin_sub, wrap_i64 (by omega) (by omega)]; congr 2; omega
  simp -dsimp only [add1 (show i < 4611686018427387904 by omega), e2, B.pv_some]
  exact hY (j - 1) _ _ (by omega) ⟨i + 1, j - 1, _, rfl, rfl, by omega, by omega, W.trans (swp_within li lj hi (by omega) (by omega) hj), o2⟩
theorem quo4 {a : Nat} (h : a < 4611686018427387904) : V.bin .quo (.int .i64 (a : Int)) (.int .i64 4) = some (.int .i64 ((a / 4 : Nat) : Int)) := by
  rw [V.bin_quo _ _ _ (by omega), show (a : Int).tdiv 4 = ((a / 4 : Nat) : Int) from rfl, wrap_i64 (by omega) (by omega)]
theorem mulN {a b : Nat} (h : a * b < 4611686018427387904) : V.bin .mul (.int .i64 (a : Int)) (.int .i64 (b : Int)) = some (.int .i64 ((a * b : Nat) : Int)) := by
  rw [V.bin_mul, show (a : Int) * (b : Int) = ((a * b : Nat) : Int) by simp, wrap_i64 (by omega) (by omega)]
theorem addNN {a b : Nat} (h : a + b < 4611686018427387904) : V.bin .add (.int .i64 (a : Int)) (.int .i64 (b : Int)) = some (.int .i64 ((a + b : Nat) : Int)) := by
  rw [V.bin_add, show (a : Int) + (b : Int) = ((a + b : Nat) : Int) by simp, wrap_i64 (by omega) (by omega)]
theorem subNN {a b : Nat} (h : b ≤ a) (h2 : a < 4611686018427387904) : V.bin .sub (.int .i64 (a : Int)) (.int .i64 (b : Int)) = some (.int .i64 ((a - b : Nat) : Int)) := by
  rw [V.bin_sub, show (a : Int) - (b : Int) = ((a - b : Nat) : Int) by omega, wrap_i64 (by omega) (by omega)]
theorem geqN {a b : Nat} : V.bin .geq (.int .i64 (a : Int)) (.int .i64 (b : Int)) = some (.bool (decide (b ≤ a))) := by rw [V.bin_geq]; congr 3; exact propext (by omega)
theorem choosePivot_spec {f1 f2 f3 : Nat} (io : O2I C E f1) (im : MedI C E f1 f2) (ia : AdjI C E f2 f3) (S : SeqSpec E cs v) (hx : SlX h E.es x (G.map cs) R) (h0le : h0.le h) (hc : CmpSpec C v c f h0) (hl : G.length ≤ 100000000) {a b : Nat} (hab : a + 8 ≤ b) (hb : b ≤ G.length) {Q : AVal → AHeap → Prop}
    (hq : ∀ (m : Nat) (hint : Int) h', a ≤ m → m < b → h.le h' → Q (.tup [.int .i64 (m : Int), .int .i64 hint]) h') : slices_choosePivotCmpFuncG.cps C E f2 f3 x (.int .i64 (a : Int)) (.int .i64 (b : Int)) f h Q := by
  have e1 := subNN (a := b) (b := a) (by omega) (by omega)
  simp -dsimp only [slices_choosePivotCmpFuncG.cps, e1, B.pv_some]
  intro id hid
  have o := (Owns.start h).newBox hid [.int .i64 0]
  simp only [List.nil_append] at o
  have q4 := quo4 (a := b - a) (by omega)
  have m1 := mulN (a := (b - a) / 4) (b := 1) (by omega)
  have m2 := mulN (a := (b - a) / 4) (b := 2) (by omega)
  have m3 := mulN (a := (b - a) / 4) (b := 3) (by omega)
  have a1 := addNN (a := a) (b := (b - a) / 4 * 1) (by omega)
  have a2 := addNN (a := a) (b := (b - a) / 4 * 2) (by omega)
  have a3 := addNN (a := a) (b := (b - a) / 4 * 3) (by omega)
  have g8 : V.bin .geq (.int .i64 ((b - a : Nat) : Int)) (.int .i64 8) = some (.bool true) := by rw [V.bin_geq, decide_eq_true (by omega)]
  have hc' : CmpSpec C v c f h := ⟨fun h2 s t K hle hk => hc.call h2 s t K (AHeap.le_trans h0le hle) hk⟩
  simp -dsimp only [slices_choosePivotCmpFuncG.k6, slices_choosePivotCmpFuncG.k5, slices_choosePivotCmpFuncG.k4, slices_choosePivotCmpFuncG.k3, q4, B.pv_some]
  have m1' : V.bin .mul (.int .i64 (((b - a) / 4 : Nat) : Int)) (.int .i64 1) = some (.int .i64 (((b - a) / 4 * 1 : Nat) : Int)) := m1
  have m2' : V.bin .mul (.int .i64 (((b - a) / 4 : Nat) : Int)) (.int .i64 2) = some (.int .i64 (((b - a) / 4 * 2 : Nat) : Int)) := m2
  have m3' : V.bin .mul (.int .i64 (((b - a) / 4 : Nat) : Int)) (.int .i64 3) = some (.int .i64 (((b - a) / 4 * 3 : Nat) : Int)) := m3
  simp -dsimp only [q4, m1', m2', m3', a1, a2, a3, g8, B.cond_true, slices_choosePivotCmpFuncG.k5, slices_choosePivotCmpFuncG.k4, slices_choosePivotCmpFuncG.k3, slices_choosePivotCmpFuncG.k2, B.pv_some]
  have fin : ∀ (m : Nat) (n' : Int) h', a ≤ m → m < b → Owns h h' [.box (.ptr id 0 0) [.int .i64 n']] → slices_choosePivotCmpFuncG.k1 C E f2 f3 Q (.ptr id 0 0) (.int .i64 (m : Int)) h' := fun m n' h' k1 k2 o' => by
    obtain ⟨id', e, hb'⟩ := o'.boxAt 0 rfl
    cases e
    have ld : A.ldv h' (.ptr id 0 0) = some (.int .i64 n') := by rw [ldv_at hb']; rfl
    simp -dsimp only [slices_choosePivotCmpFuncG.k1, B.ld_eq, ld, V.bin_eql, B.pv_some]
    refine B.cond_bool (fun _ => hq m _ h' k1 k2 o'.le) (fun _ => ?_)
    refine B.cond_bool (fun _ => hq m _ h' k1 k2 o'.le) (fun _ => hq m _ h' k1 k2 o'.le)
  have g50 : V.bin .geq (.int .i64 ((b - a : Nat) : Int)) (.int .i64 50) = some (.bool (decide (50 ≤ b - a))) := geqN (b := 50)
  simp -dsimp only [g50, B.pv_some]
  refine B.cond_bool (fun hd => ?_) (fun hd => ?_)
  · rw [decide_eq_true_eq] at hd
    refine ia _ _ _ _ _ _ (medianAdjacent_spec io im S hx hc' o (by omega) (by omega) (by omega) fun i n1 h1 i1 i2 o1 => dn_same ?_)
    refine ia _ _ _ _ _ _ (medianAdjacent_spec io im S hx hc' o1 (by omega) (by omega) (by omega) fun j n2 h2 j1 j2 o2 => dn_same ?_)
    refine ia _ _ _ _ _ _ (medianAdjacent_spec io im S hx hc' o2 (by omega) (by omega) (by omega) fun k n3 h3 k1 k2 o3 => dn_same ?_)
    refine im _ _ _ _ _ _ _ _ (median_spec io S hx hc' o3 (by omega) (by omega) (by omega) fun m n4 h4 hm o4 => dn_same ?_)
    exact fin m n4 h4 (by omega) (by omega) o4
  · refine im _ _ _ _ _ _ _ _ (median_spec io S hx hc' o (by omega) (by omega) (by omega) fun m n4 h4 hm o4 => dn_same ?_)
    exact fin m n4 h4 (by omega) (by omega) o4
end
end Go.Ab

/- What is proved: the library's quick sort, generic: a range is parted by a pivot. No conditions. -/
set_option linter.unusedVariables false
set_option linter.unusedSimpArgs false
namespace Go.Ab
variable {C : CSem}
/-- Parted so far: less than the pivot (at a) up to i, not less behind j. -/
structure PInv {X : Type} (c : X → X → Int) (a b : Nat) (G : List X) (i j : Nat) : Prop where
  hb : b ≤ G.length
  hi : a < i
  hj : j < b
  hij : i ≤ j + 1
  lo : ∀ k (h : k < G.length) (ha : a < G.length), a < k → k < i → c G[k] G[a] < 0
  hi2 : ∀ k (h : k < G.length) (ha : a < G.length), j < k → k < b → ¬ c G[k] G[a] < 0
/-- Parted by the pivot at m. -/
structure Parted {X : Type} (c : X → X → Int) (a b m : Nat) (G : List X) : Prop where
  ge : a ≤ m
  lt : m < b
  hb : b ≤ G.length
  lo : ∀ k (h : k < G.length) (hm : m < G.length), a ≤ k → k < m → c G[k] G[m] < 0
  hi : ∀ k (h : k < G.length) (hm : m < G.length), m < k → k < b → ¬ c G[k] G[m] < 0
section
variable {E : ElOps} {X : Type} {cs : X → List AVal} {v : X → AVal} {h0 h : AHeap} {x f : AVal} {G : List X} {R : List (List AVal)} {c : X → X → Int} {Q : AVal → AHeap → Prop} {Y1 : List AVal → AHeap → Prop} {a b i j : Nat}
theorem swp_at {X : Type} {G : List X} {i j : Nat} (hi : i < G.length) (hj : j < G.length) {k : Nat} (hk : k < (swp G i j hi hj).length) (hk' : k < G.length) : (swp G i j hi hj)[k] = if k = j then G[i] else if k = i then G[j] else G[k] := by
  have := swp_get hi hj k
  rw [List.getElem?_eq_getElem hk] at this
  split at this
  · rename_i e; rw [if_pos e]; exact Option.some.inj this
  · rename_i e; rw [if_neg e]
    split at this
    · rename_i e2; rw [if_pos e2]; exact Option.some.inj this
    · rename_i e2; rw [if_neg e2, List.getElem?_eq_getElem hk'] at *; exact Option.some.inj this
theorem swp_len {X : Type} {G : List X} {i j : Nat} (hi : i < G.length) (hj : j < G.length) : (swp G i j hi hj).length = G.length := by simp [swp]
/-- The pivot comes to its place. -/
theorem PInv.done (p : PInv c a b G i j) (hab : a < b) (hc : j < i) (hj : j < G.length) (ha : a < G.length) : Parted c a b j (swp G j a hj ha) := by
  have h1 := p.hi; have h2 := p.hij; have h3 := p.hj; have h4 := p.hb
  have hl := swp_len hj ha
  have pj : ∀ (hm : j < (swp G j a hj ha).length), (swp G j a hj ha)[j] = G[a] := fun hm => by
    rw [swp_at hj ha hm hj]
    by_cases e : j = a
    · subst e; simp
    · rw [if_neg e, if_pos rfl]
  refine ⟨by omega, h3, by omega, fun k hk hm k1 k2 => ?_, fun k hk hm k1 k2 => ?_⟩
  · rw [pj, swp_at hj ha hk (by omega)]
    by_cases e : k = a
    · rw [if_pos e]; exact p.lo j hj ha (by omega) (by omega)
    · rw [if_neg e, if_neg (by omega)]; exact p.lo k (by omega) ha (by omega) (by omega)
  · rw [pj, swp_at hj ha hk (by omega), if_neg (by omega), if_neg (by omega)]
    exact p.hi2 k (by omega) ha k1 k2
/-- Two are exchanged. -/
theorem PInv.swap (p : PInv c a b G i j) (hc : i ≤ j) (hi : i < G.length) (hj : j < G.length) (ha : a < G.length) (h1 : ¬ c G[i] G[a] < 0) (h2 : c G[j] G[a] < 0) : PInv c a b (swp G i j hi hj) (i + 1) (j - 1) := by
  have k1 := p.hi; have k2 := p.hij; have k3 := p.hj; have k4 := p.hb
  have hne : i ≠ j := fun e => by subst e; exact h1 h2
  have hl := swp_len hi hj
  have pa : ∀ (hm : a < (swp G i j hi hj).length), (swp G i j hi hj)[a] = G[a] := fun hm => by rw [swp_at hi hj hm ha, if_neg (by omega), if_neg (by omega)]
  refine ⟨by omega, by omega, by omega, by omega, fun k hk hm q1 q2 => ?_, fun k hk hm q1 q2 => ?_⟩
  · rw [pa, swp_at hi hj hk (by omega), if_neg (by omega)]
    by_cases e : k = i
    · rw [if_pos e]; exact h2
    · rw [if_neg e]; exact p.lo k (by omega) ha q1 (by omega)
  · rw [pa, swp_at hi hj hk (by omega)]
    by_cases e : k = j
    · rw [if_pos e]; exact h1
    · rw [if_neg e, if_neg (by omega)]; exact p.hi2 k (by omega) ha (by omega) q2
theorem part_j (S : SeqSpec E cs v) (hc : CmpSpec C v c f h0) (ho : Rw E cs h0 h x G R) (hl : G.length < 4611686018427387904) (hab : a < b) (p : PInv c a b G i j) (hi0 : j < i ∨ ∀ (h1 : i < G.length) (h2 : a < G.length), ¬ c G[i] G[a] < 0)
    (done : ∀ h' j', PInv c a b G i j' → j' < i → Rw E cs h0 h' x G R → slices_partitionCmpFuncG.k1 C E Q x (.int .i64 (a : Int)) (.int .i64 (j' : Int)) h')
    (next : ∀ h' j' (hi : i < G.length) (hj : j' < G.length) , PInv c a b (swp G i j' hi hj) (i + 1) (j' - 1) → i < j' → j' < b → Rw E cs h0 h' x (swp G i j' hi hj) R → Y1 [.int .i64 ((i + 1 : Nat) : Int), .int .i64 ((j' - 1 : Nat) : Int)] h') :
    LoopR (slices_partitionCmpFuncG.l4 C E Q Y1 x (.int .i64 (a : Int)) f (.int .i64 (i : Int))) [.int .i64 (j : Int)] h := by
  refine LoopR.intro (fun t vs hh => hh = h ∧ ∃ j' : Nat, t = j' ∧ vs = [.int .i64 (j' : Int)] ∧ PInv c a b G i j' ∧ (j' < i ∨ ∀ (h1 : i < G.length) (h2 : a < G.length), ¬ c G[i] G[a] < 0)) j ?_ ⟨rfl, j, rfl, rfl, p, hi0⟩
  rintro Y j' vs hh ⟨rfl, _, rfl, rfl, p, hi0⟩ hY
  have k1 := p.hi; have k2 := p.hij; have k3 := p.hj; have k4 := p.hb
  have la : a < G.length := by omega
  have lj : j' < G.length := by omega
  simp -dsimp only [slices_partitionCmpFuncG.l4, slices_partitionCmpFuncG.k3, leqN, B.pv_some]
  by_cases hle : i ≤ j'
  · have li : i < G.length := by omega
    simp -dsimp only [hle, decide_true, B.gd_t, B.gdb_true, ho.idx lj, ho.idx la, B.pv_some]
    refine ho.ld S (List.getElem?_eq_getElem lj) ?_
    refine ho.ld S (List.getElem?_eq_getElem la) ?_
    refine hc.call _ _ _ _ ho.le ?_
    simp -dsimp only [hle, decide_true, B.gd_t, B.gdb_true, V.bin_lss, V.un_not, B.pick_t, B.pv_some]
    refine B.cond_bool (fun hd => ?_) (fun hd => ?_)
    · have hd' : ¬ c G[j'] G[a] < 0 := by simpa using hd
      have e1 := subNN (a := j') (b := 1) (by omega) (by omega)
      have e1' : V.bin .sub (.int .i64 (j' : Int)) (.int .i64 1) = some (.int .i64 ((j' - 1 : Nat) : Int)) := e1
      simp -dsimp only [e1', B.pv_some]
      refine hY (j' - 1) _ _ (by omega) ⟨rfl, j' - 1, rfl, rfl, ⟨k4, k1, by omega, by omega, p.lo, fun k hk ha q1 q2 => ?_⟩, ?_⟩
      · by_cases e : k = j'
        · subst e; exact hd'
        · exact p.hi2 k hk ha (by omega) q2
      · rcases hi0 with h | h
        · omega
        · exact .inr h
    · have hd' : c G[j'] G[a] < 0 := by simpa using hd
      have hni : ¬ c G[i] G[a] < 0 := by
        rcases hi0 with h | h
        · omega
        · exact h li la
      simp -dsimp only [slices_partitionCmpFuncG.k2, gtrN, show ¬ j' < i by omega, decide_false, B.cond_false, ho.idx lj, ho.idx li, B.pv_some]
      refine ho.ld S (List.getElem?_eq_getElem lj) ?_
      refine ho.ld S (List.getElem?_eq_getElem li) ?_
      refine ho.st S (t := G[j']) li fun h1 o1 => ?_
      refine o1.st S (t := G[i]) (by simpa using lj) fun h2 o2 => ?_
      have e1' : V.bin .sub (.int .i64 (j' : Int)) (.int .i64 1) = some (.int .i64 ((j' - 1 : Nat) : Int)) := subNN (a := j') (b := 1) (by omega) (by omega)
      simp -dsimp only [add1 (show i < 4611686018427387904 by omega), e1', B.pv_some]
      have hne : i ≠ j' := fun e => by subst e; exact hni hd'
      exact next h2 j' li lj (p.swap hle li lj la hni hd') (by omega) k3 o2
  · simp -dsimp only [hle, decide_false, B.gd_t, B.gdb_false, B.pick_f, B.cond_false, slices_partitionCmpFuncG.k2, gtrN, show j' < i by omega, decide_true, B.cond_true, B.pv_some]
    exact done hh j' p (by omega) ho
theorem part_i (S : SeqSpec E cs v) (hc : CmpSpec C v c f h0) (ho : Rw E cs h0 h x G R) (hl : G.length < 4611686018427387904) (hab : a < b) (p : PInv c a b G i j)
    (done : ∀ h' i' j', PInv c a b G i' j' → j' < i' → Rw E cs h0 h' x G R → slices_partitionCmpFuncG.k1 C E Q x (.int .i64 (a : Int)) (.int .i64 (j' : Int)) h')
    (next : ∀ h' i' j' (hi : i' < G.length) (hj : j' < G.length), PInv c a b (swp G i' j' hi hj) (i' + 1) (j' - 1) → a < i' → i ≤ i' → i' < j' → j' < b → Rw E cs h0 h' x (swp G i' j' hi hj) R → Y1 [.int .i64 ((i' + 1 : Nat) : Int), .int .i64 ((j' - 1 : Nat) : Int)] h') :
    LoopR (slices_partitionCmpFuncG.l6 C E Q Y1 x (.int .i64 (a : Int)) f (.int .i64 (j : Int))) [.int .i64 (i : Int)] h := by
  refine LoopR.intro (fun t vs hh => hh = h ∧ ∃ i' : Nat, i' + t = b ∧ i ≤ i' ∧ vs = [.int .i64 (i' : Int)] ∧ PInv c a b G i' j) (b - i) ?_ ⟨rfl, i, by have := p.hij; have := p.hj; omega, Nat.le_refl _, rfl, p⟩
  rintro Y t vs hh ⟨rfl, i', hit, hii, rfl, p⟩ hY
  have k1 := p.hi; have k2 := p.hij; have k3 := p.hj; have k4 := p.hb
  have la : a < G.length := by omega
  simp -dsimp only [slices_partitionCmpFuncG.l6, slices_partitionCmpFuncG.k5, leqN, B.pv_some]
  by_cases hle : i' ≤ j
  · have li : i' < G.length := by omega
    simp -dsimp only [hle, decide_true, B.gd_t, B.gdb_true, ho.idx li, ho.idx la, B.pv_some]
    refine ho.ld S (List.getElem?_eq_getElem li) ?_
    refine ho.ld S (List.getElem?_eq_getElem la) ?_
    refine hc.call _ _ _ _ ho.le ?_
    simp -dsimp only [hle, decide_true, B.gd_t, B.gdb_true, V.bin_lss, B.pick_t, B.pv_some]
    refine B.cond_bool (fun hd => ?_) (fun hd => ?_)
    · have hd' : c G[i'] G[a] < 0 := by simpa using hd
      simp -dsimp only [add1 (show i' < 4611686018427387904 by omega), B.pv_some]
      refine hY (b - (i' + 1)) _ _ (by omega) ⟨rfl, i' + 1, by omega, by omega, rfl, ⟨k4, by omega, k3, by omega, fun k hk ha q1 q2 => ?_, p.hi2⟩⟩
      by_cases e : k = i'
      · subst e; exact hd'
      · exact p.lo k hk ha q1 (by omega)
    · have hd' : ¬ c G[i'] G[a] < 0 := by simpa using hd
      exact part_j S hc ho hl hab p (.inr fun _ _ => hd') (fun h' j' p' hlt o' => done h' i' j' p' hlt o') fun h' j' hi hj p' h1 h2 o' => next h' i' j' hi hj p' k1 hii h1 h2 o'
  · simp -dsimp only [hle, decide_false, B.gd_t, B.gdb_false, B.pick_f, B.cond_false]
    exact part_j S hc ho hl hab p (.inl (by omega)) (fun h' j' p' hlt o' => done h' i' j' p' hlt o') fun h' j' hi hj p' h1 h2 o' => next h' i' j' hi hj p' k1 hii h1 h2 o'
/-- The pivot is set to its place. -/
theorem part_end (S : SeqSpec E cs v) (ho : Rw E cs h0 h x G R) (hab : a < b) (p : PInv c a b G i j) (hlt : j < i) (hq : ∀ h' m G', Parted c a b m G' → Within a b G G' → Rw E cs h0 h' x G' R → Q (.tup [.int .i64 (m : Int), .bool false]) h') :
    slices_partitionCmpFuncG.k1 C E Q x (.int .i64 (a : Int)) (.int .i64 (j : Int)) h := by
  have k1 := p.hi; have k2 := p.hij; have k3 := p.hj; have k4 := p.hb
  have la : a < G.length := by omega
  have lj : j < G.length := by omega
  simp -dsimp only [slices_partitionCmpFuncG.k1, ho.idx lj, ho.idx la, B.pv_some]
  refine ho.ld S (List.getElem?_eq_getElem la) ?_
  refine ho.ld S (List.getElem?_eq_getElem lj) ?_
  refine ho.st S (t := G[a]) lj fun h1 o1 => ?_
  refine o1.st S (t := G[j]) (by simpa using la) fun h2 o2 => ?_
  exact hq h2 j _ (p.done hab hlt lj la) (swp_within lj la (by omega) k3 (Nat.le_refl _) hab) o2
theorem part_main (S : SeqSpec E cs v) (hc : CmpSpec C v c f h0) (ho : Rw E cs h0 h x G R) (hl : G.length < 4611686018427387904) (hab : a < b) (p : PInv c a b G i j)
    (hq : ∀ h' m G', Parted c a b m G' → Within a b G G' → Rw E cs h0 h' x G' R → Q (.tup [.int .i64 (m : Int), .bool false]) h') :
    LoopR (slices_partitionCmpFuncG.l7 C E Q x (.int .i64 (a : Int)) f) [.int .i64 (i : Int), .int .i64 (j : Int)] h := by
  refine LoopR.intro (fun t vs hh => ∃ (i' j' : Nat) (G' : List X), i' + t = b ∧ vs = [.int .i64 (i' : Int), .int .i64 (j' : Int)] ∧ Within a b G G' ∧ PInv c a b G' i' j' ∧ Rw E cs h0 hh x G' R) (b - i) ?_ ⟨i, j, G, by have := p.hij; have := p.hj; omega, rfl, Within.refl _ _ _, p, ho⟩
  rintro Y t vs hh ⟨i', j', G', hit, rfl, W, p, o⟩ hY
  have hlen := W.len
  simp -dsimp only [slices_partitionCmpFuncG.l7]
  refine part_i S hc o (by omega) hab p (fun h' i2 j2 p2 hlt o2 => part_end S o2 hab p2 hlt fun h3 m G3 P3 W3 o3 => hq h3 m G3 P3 (W.trans W3) o3) fun h' i2 j2 hi hj p2 h1 h2 h3 h4 o2 => ?_
  exact hY (b - (i2 + 1)) _ _ (by omega) ⟨i2 + 1, j2 - 1, _, by omega, rfl, W.trans (swp_within hi hj (by omega) (by omega) (by omega) h4), p2, o2⟩
end
end Go.Ab

/- What is proved: the library's quick sort, generic: a range is parted by a pivot, from its beginning. No conditions. -/
set_option linter.unusedVariables false
set_option linter.unusedSimpArgs false
namespace Go.Ab
variable {C : CSem}
section
variable {E : ElOps} {X : Type} {cs : X → List AVal} {v : X → AVal} {h0 h : AHeap} {x f : AVal} {G : List X} {R : List (List AVal)} {c : X → X → Int} {Q : AVal → AHeap → Prop} {a b i j : Nat}
abbrev PartQ (E : ElOps) {X : Type} (cs : X → List AVal) (h0 : AHeap) (x : AVal) (c : X → X → Int) (a b : Nat) (R : List (List AVal)) (G : List X) (Q : AVal → AHeap → Prop) : Prop := ∀ h' m G' t, Parted c a b m G' → Within a b G G' → Rw E cs h0 h' x G' R → Q (.tup [.int .i64 (m : Int), .bool t]) h'
theorem part_k10 (S : SeqSpec E cs v) (hc : CmpSpec C v c f h0) (ho : Rw E cs h0 h x G R) (hl : G.length < 4611686018427387904) (hab : a < b) (p : PInv c a b G i j)
    (hd : j < i ∨ ∃ (h1 : i < G.length) (h2 : a < G.length) (h3 : j < G.length), i ≤ j ∧ ¬ c G[i] G[a] < 0 ∧ c G[j] G[a] < 0) (hq : PartQ E cs h0 x c a b R G Q) :
    slices_partitionCmpFuncG.k10 C E Q x (.int .i64 (a : Int)) f (.int .i64 (i : Int)) (.int .i64 (j : Int)) h := by
  have k1 := p.hi; have k2 := p.hij; have k3 := p.hj; have k4 := p.hb
  have la : a < G.length := by omega
  have lj : j < G.length := by omega
  rcases hd with hlt | ⟨li, _, _, hle, n1, n2⟩
  · simp -dsimp only [slices_partitionCmpFuncG.k10, gtrN, hlt, decide_true, B.cond_true, ho.idx lj, ho.idx la, B.pv_some]
    refine ho.ld S (List.getElem?_eq_getElem la) ?_
    refine ho.ld S (List.getElem?_eq_getElem lj) ?_
    refine ho.st S (t := G[a]) lj fun h1 o1 => ?_
    refine o1.st S (t := G[j]) (by simpa using la) fun h2 o2 => ?_
    exact hq h2 j _ true (p.done hab hlt lj la) (swp_within lj la (by omega) k3 (Nat.le_refl _) hab) o2
  · simp -dsimp only [slices_partitionCmpFuncG.k10, slices_partitionCmpFuncG.k9, gtrN, show ¬ j < i by omega, decide_false, B.cond_false, ho.idx lj, ho.idx li, B.pv_some]
    refine ho.ld S (List.getElem?_eq_getElem lj) ?_
    refine ho.ld S (List.getElem?_eq_getElem li) ?_
    refine ho.st S (t := G[j]) li fun h1 o1 => ?_
    refine o1.st S (t := G[i]) (by simpa using lj) fun h2 o2 => ?_
    have hne : i ≠ j := fun e => by subst e; exact n1 n2
    have e1' : V.bin .sub (.int .i64 (j : Int)) (.int .i64 1) = some (.int .i64 ((j - 1 : Nat) : Int)) := subNN (a := j) (b := 1) (by omega) (by omega)
    simp -dsimp only [slices_partitionCmpFuncG.k8, add1 (show i < 4611686018427387904 by omega), e1', B.pv_some]
    have W := swp_within li lj (by omega) (by omega) (by omega : a ≤ j) k3
    exact part_main S hc (G := swp G i j li lj) o2 (by rw [swp_len li lj]; omega) hab (p.swap hle li lj la n1 n2) fun h' m G' P' W' o' => hq h' m G' false P' (W.trans W') o'
theorem part_j1 (S : SeqSpec E cs v) (hc : CmpSpec C v c f h0) (ho : Rw E cs h0 h x G R) (hl : G.length < 4611686018427387904) (hab : a < b) (p : PInv c a b G i j) (hi0 : j < i ∨ ∀ (h1 : i < G.length) (h2 : a < G.length), ¬ c G[i] G[a] < 0) (hq : PartQ E cs h0 x c a b R G Q) :
    LoopR (slices_partitionCmpFuncG.l12 C E Q x (.int .i64 (a : Int)) f (.int .i64 (i : Int))) [.int .i64 (j : Int)] h := by
  refine LoopR.intro (fun t vs hh => hh = h ∧ ∃ j' : Nat, t = j' ∧ vs = [.int .i64 (j' : Int)] ∧ PInv c a b G i j' ∧ (j' < i ∨ ∀ (h1 : i < G.length) (h2 : a < G.length), ¬ c G[i] G[a] < 0)) j ?_ ⟨rfl, j, rfl, rfl, p, hi0⟩
  rintro Y j' vs hh ⟨rfl, _, rfl, rfl, p, hi0⟩ hY
  have k1 := p.hi; have k2 := p.hij; have k3 := p.hj; have k4 := p.hb
  have la : a < G.length := by omega
  have lj : j' < G.length := by omega
  simp -dsimp only [slices_partitionCmpFuncG.l12, slices_partitionCmpFuncG.k11, leqN, B.pv_some]
  by_cases hle : i ≤ j'
  · have li : i < G.length := by omega
    simp -dsimp only [hle, decide_true, B.gd_t, B.gdb_true, ho.idx lj, ho.idx la, B.pv_some]
    refine ho.ld S (List.getElem?_eq_getElem lj) ?_
    refine ho.ld S (List.getElem?_eq_getElem la) ?_
    refine hc.call _ _ _ _ ho.le ?_
    simp -dsimp only [hle, decide_true, B.gd_t, B.gdb_true, V.bin_lss, V.un_not, B.pick_t, B.pv_some]
    refine B.cond_bool (fun hd => ?_) (fun hd => ?_)
    · have hd' : ¬ c G[j'] G[a] < 0 := by simpa using hd
      have e1' : V.bin .sub (.int .i64 (j' : Int)) (.int .i64 1) = some (.int .i64 ((j' - 1 : Nat) : Int)) := subNN (a := j') (b := 1) (by omega) (by omega)
      simp -dsimp only [e1', B.pv_some]
      refine hY (j' - 1) _ _ (by omega) ⟨rfl, j' - 1, rfl, rfl, ⟨k4, k1, by omega, by omega, p.lo, fun k hk ha q1 q2 => ?_⟩, ?_⟩
      · by_cases e : k = j'
        · subst e; exact hd'
        · exact p.hi2 k hk ha (by omega) q2
      · rcases hi0 with h | h
        · omega
        · exact .inr h
    · have hd' : c G[j'] G[a] < 0 := by simpa using hd
      have hni : ¬ c G[i] G[a] < 0 := by
        rcases hi0 with h | h
        · omega
        · exact h li la
      exact part_k10 S hc ho hl hab p (.inr ⟨li, la, lj, hle, hni, hd'⟩) hq
  · simp -dsimp only [hle, decide_false, B.gd_t, B.gdb_false, B.pick_f, B.cond_false]
    exact part_k10 S hc ho hl hab p (.inl (by omega)) hq
theorem part_i1 (S : SeqSpec E cs v) (hc : CmpSpec C v c f h0) (ho : Rw E cs h0 h x G R) (hl : G.length < 4611686018427387904) (hab : a < b) (p : PInv c a b G i j) (hq : PartQ E cs h0 x c a b R G Q) :
    LoopR (slices_partitionCmpFuncG.l14 C E Q x (.int .i64 (a : Int)) f (.int .i64 (j : Int))) [.int .i64 (i : Int)] h := by
  refine LoopR.intro (fun t vs hh => hh = h ∧ ∃ i' : Nat, i' + t = b ∧ vs = [.int .i64 (i' : Int)] ∧ PInv c a b G i' j) (b - i) ?_ ⟨rfl, i, by have := p.hij; have := p.hj; omega, rfl, p⟩
  rintro Y t vs hh ⟨rfl, i', hit, rfl, p⟩ hY
  have k1 := p.hi; have k2 := p.hij; have k3 := p.hj; have k4 := p.hb
  have la : a < G.length := by omega
  simp -dsimp only [slices_partitionCmpFuncG.l14, slices_partitionCmpFuncG.k13, leqN, B.pv_some]
  by_cases hle : i' ≤ j
  · have li : i' < G.length := by omega
    simp -dsimp only [hle, decide_true, B.gd_t, B.gdb_true, ho.idx li, ho.idx la, B.pv_some]
    refine ho.ld S (List.getElem?_eq_getElem li) ?_
    refine ho.ld S (List.getElem?_eq_getElem la) ?_
    refine hc.call _ _ _ _ ho.le ?_
    simp -dsimp only [hle, decide_true, B.gd_t, B.gdb_true, V.bin_lss, B.pick_t, B.pv_some]
    refine B.cond_bool (fun hd => ?_) (fun hd => ?_)
    · have hd' : c G[i'] G[a] < 0 := by simpa using hd
      simp -dsimp only [add1 (show i' < 4611686018427387904 by omega), B.pv_some]
      refine hY (b - (i' + 1)) _ _ (by omega) ⟨rfl, i' + 1, by omega, rfl, ⟨k4, by omega, k3, by omega, fun k hk ha q1 q2 => ?_, p.hi2⟩⟩
      by_cases e : k = i'
      · subst e; exact hd'
      · exact p.lo k hk ha q1 (by omega)
    · have hd' : ¬ c G[i'] G[a] < 0 := by simpa using hd
      exact part_j1 S hc ho hl hab p (.inr fun _ _ => hd') hq
  · simp -dsimp only [hle, decide_false, B.gd_t, B.gdb_false, B.pick_f, B.cond_false]
    exact part_j1 S hc ho hl hab p (.inl (by omega)) hq
/-- A range is parted. -/
theorem partition_spec (S : SeqSpec E cs v) (hc : CmpSpec C v c f h0) (ho : Rw E cs h0 h x G R) (hl : G.length < 4611686018427387904) {pv : Nat} (hp1 : a ≤ pv) (hp2 : pv < b) (hb : b ≤ G.length) (hq : PartQ E cs h0 x c a b R G Q) :
    slices_partitionCmpFuncG.cps C E x (.int .i64 (a : Int)) (.int .i64 (b : Int)) (.int .i64 (pv : Int)) f h Q := by
  have la : a < G.length := by omega
  have lp : pv < G.length := by omega
  simp -dsimp only [slices_partitionCmpFuncG.cps, slices_partitionCmpFuncG.k16, ho.idx lp, ho.idx la, B.pv_some]
  refine ho.ld S (List.getElem?_eq_getElem lp) ?_
  refine ho.ld S (List.getElem?_eq_getElem la) ?_
  refine ho.st S (t := G[pv]) la fun h1 o1 => ?_
  refine o1.st S (t := G[a]) (by simpa using lp) fun h2 o2 => ?_
  have e1' : V.bin .sub (.int .i64 (b : Int)) (.int .i64 1) = some (.int .i64 ((b - 1 : Nat) : Int)) := subNN (a := b) (b := 1) (by omega) (by omega)
  simp -dsimp only [slices_partitionCmpFuncG.k15, add1 (show a < 4611686018427387904 by omega), e1', B.pv_some]
  have W := swp_within la lp (Nat.le_refl _) (by omega) hp1 hp2
  have hsl := swp_len la lp
  refine part_i1 S hc (G := swp G a pv la lp) o2 (by omega) (by omega) ⟨by omega, by omega, by omega, by omega, fun k _ _ q1 q2 => by omega, fun k _ _ q1 q2 => by omega⟩ fun h' m G' t P' W' o' => hq h' m G' t P' (W.trans W') o'
end
end Go.Ab

/- What is proved: the library's quick sort, generic: those that are the same as the pivot are put ahead. No conditions. -/
set_option linter.unusedVariables false
set_option linter.unusedSimpArgs false
namespace Go.Ab
variable {C : CSem}
/-- Parted so far: not above the first up to i, above it behind j. -/
structure EInv {X : Type} (c : X → X → Int) (a b : Nat) (G : List X) (i j : Nat) : Prop where
  hb : b ≤ G.length
  hi : a < i
  hj : j < b
  hij : i ≤ j + 1
  lo : ∀ k (h : k < G.length) (ha : a < G.length), a < k → k < i → ¬ c G[a] G[k] < 0
  hi2 : ∀ k (h : k < G.length) (ha : a < G.length), j < k → k < b → c G[a] G[k] < 0
theorem EInv.swap {X : Type} {c : X → X → Int} {a b i j : Nat} {G : List X} (p : EInv c a b G i j) (hc : i ≤ j) (hi : i < G.length) (hj : j < G.length) (ha : a < G.length) (h1 : c G[a] G[i] < 0) (h2 : ¬ c G[a] G[j] < 0) : EInv c a b (swp G i j hi hj) (i + 1) (j - 1) := by
  have k1 := p.hi; have k2 := p.hij; have k3 := p.hj; have k4 := p.hb
  have hne : i ≠ j := fun e => by subst e; exact h2 h1
  have hl := swp_len hi hj
  have pa : ∀ (hm : a < (swp G i j hi hj).length), (swp G i j hi hj)[a] = G[a] := fun hm => by rw [swp_at hi hj hm ha, if_neg (by omega), if_neg (by omega)]
  refine ⟨by omega, by omega, by omega, by omega, fun k hk hm q1 q2 => ?_, fun k hk hm q1 q2 => ?_⟩
  · rw [pa, swp_at hi hj hk (by omega), if_neg (by omega)]
    by_cases e : k = i
    · rw [if_pos e]; exact h2
    · rw [if_neg e]; exact p.lo k (by omega) ha q1 (by omega)
  · rw [pa, swp_at hi hj hk (by omega)]
    by_cases e : k = j
    · rw [if_pos e]; exact h1
    · rw [if_neg e, if_neg (by omega)]; exact p.hi2 k (by omega) ha (by omega) q2
section
variable {E : ElOps} {X : Type} {cs : X → List AVal} {v : X → AVal} {h0 h : AHeap} {x f : AVal} {G : List X} {R : List (List AVal)} {c : X → X → Int} {Q : AVal → AHeap → Prop} {Y1 : List AVal → AHeap → Prop} {a b i j : Nat}
theorem eq_j (S : SeqSpec E cs v) (hc : CmpSpec C v c f h0) (ho : Rw E cs h0 h x G R) (hl : G.length < 4611686018427387904) (hab : a < b) (p : EInv c a b G i j) (hi0 : j < i ∨ ∀ (h1 : i < G.length) (h2 : a < G.length), c G[a] G[i] < 0)
    (done : ∀ h' j', EInv c a b G i j' → j' < i → Rw E cs h0 h' x G R → Q (.int .i64 (i : Int)) h')
    (next : ∀ h' j' (hi : i < G.length) (hj : j' < G.length), EInv c a b (swp G i j' hi hj) (i + 1) (j' - 1) → i < j' → j' < b → Rw E cs h0 h' x (swp G i j' hi hj) R → Y1 [.int .i64 ((i + 1 : Nat) : Int), .int .i64 ((j' - 1 : Nat) : Int)] h') :
    LoopR (slices_partitionEqualCmpFuncG.l3 C E Q Y1 x (.int .i64 (a : Int)) f (.int .i64 (i : Int))) [.int .i64 (j : Int)] h := by
  refine LoopR.intro (fun t vs hh => hh = h ∧ ∃ j' : Nat, t = j' ∧ vs = [.int .i64 (j' : Int)] ∧ EInv c a b G i j' ∧ (j' < i ∨ ∀ (h1 : i < G.length) (h2 : a < G.length), c G[a] G[i] < 0)) j ?_ ⟨rfl, j, rfl, rfl, p, hi0⟩
  rintro Y j' vs hh ⟨rfl, _, rfl, rfl, p, hi0⟩ hY
  have k1 := p.hi; have k2 := p.hij; have k3 := p.hj; have k4 := p.hb
  have la : a < G.length := by omega
  have lj : j' < G.length := by omega
  simp -dsimp only [slices_partitionEqualCmpFuncG.l3, slices_partitionEqualCmpFuncG.k2, leqN, B.pv_some]
  by_cases hle : i ≤ j'
  · have li : i < G.length := by omega
    simp -dsimp only [hle, decide_true, B.gd_t, B.gdb_true, ho.idx lj, ho.idx la, B.pv_some]
    refine ho.ld S (List.getElem?_eq_getElem la) ?_
    refine ho.ld S (List.getElem?_eq_getElem lj) ?_
    refine hc.call _ _ _ _ ho.le ?_
    simp -dsimp only [hle, decide_true, B.gd_t, B.gdb_true, V.bin_lss, B.pick_t, B.pv_some]
    refine B.cond_bool (fun hd => ?_) (fun hd => ?_)
    · have hd' : c G[a] G[j'] < 0 := by simpa using hd
      have e1' : V.bin .sub (.int .i64 (j' : Int)) (.int .i64 1) = some (.int .i64 ((j' - 1 : Nat) : Int)) := subNN (a := j') (b := 1) (by omega) (by omega)
      simp -dsimp only [e1', B.pv_some]
      refine hY (j' - 1) _ _ (by omega) ⟨rfl, j' - 1, rfl, rfl, ⟨k4, k1, by omega, by omega, p.lo, fun k hk ha q1 q2 => ?_⟩, ?_⟩
      · by_cases e : k = j'
        · subst e; exact hd'
        · exact p.hi2 k hk ha (by omega) q2
      · rcases hi0 with h | h
        · omega
        · exact .inr h
    · have hd' : ¬ c G[a] G[j'] < 0 := by simpa using hd
      have hni : c G[a] G[i] < 0 := by
        rcases hi0 with h | h
        · omega
        · exact h li la
      simp -dsimp only [slices_partitionEqualCmpFuncG.k1, gtrN, show ¬ j' < i by omega, decide_false, B.cond_false, ho.idx lj, ho.idx li, B.pv_some]
      refine ho.ld S (List.getElem?_eq_getElem lj) ?_
      refine ho.ld S (List.getElem?_eq_getElem li) ?_
      refine ho.st S (t := G[j']) li fun h1 o1 => ?_
      refine o1.st S (t := G[i]) (by simpa using lj) fun h2 o2 => ?_
      have e1' : V.bin .sub (.int .i64 (j' : Int)) (.int .i64 1) = some (.int .i64 ((j' - 1 : Nat) : Int)) := subNN (a := j') (b := 1) (by omega) (by omega)
      simp -dsimp only [add1 (show i < 4611686018427387904 by omega), e1', B.pv_some]
      have hne : i ≠ j' := fun e => by subst e; exact hd' hni
      exact next h2 j' li lj (p.swap hle li lj la hni hd') (by omega) k3 o2
  · simp -dsimp only [hle, decide_false, B.gd_t, B.gdb_false, B.pick_f, B.cond_false, slices_partitionEqualCmpFuncG.k1, gtrN, show j' < i by omega, decide_true, B.cond_true, B.pv_some]
    exact done hh j' p (by omega) ho
theorem eq_i (S : SeqSpec E cs v) (hc : CmpSpec C v c f h0) (ho : Rw E cs h0 h x G R) (hl : G.length < 4611686018427387904) (hab : a < b) (p : EInv c a b G i j)
    (done : ∀ h' i' j', EInv c a b G i' j' → j' < i' → Rw E cs h0 h' x G R → Q (.int .i64 (i' : Int)) h')
    (next : ∀ h' i' j' (hi : i' < G.length) (hj : j' < G.length), EInv c a b (swp G i' j' hi hj) (i' + 1) (j' - 1) → a < i' → i ≤ i' → i' < j' → j' < b → Rw E cs h0 h' x (swp G i' j' hi hj) R → Y1 [.int .i64 ((i' + 1 : Nat) : Int), .int .i64 ((j' - 1 : Nat) : Int)] h') :
    LoopR (slices_partitionEqualCmpFuncG.l5 C E Q Y1 x (.int .i64 (a : Int)) f (.int .i64 (j : Int))) [.int .i64 (i : Int)] h := by
  refine LoopR.intro (fun t vs hh => hh = h ∧ ∃ i' : Nat, i' + t = b ∧ i ≤ i' ∧ vs = [.int .i64 (i' : Int)] ∧ EInv c a b G i' j) (b - i) ?_ ⟨rfl, i, by have := p.hij; have := p.hj; omega, Nat.le_refl _, rfl, p⟩
  rintro Y t vs hh ⟨rfl, i', hit, hii, rfl, p⟩ hY
  have k1 := p.hi; have k2 := p.hij; have k3 := p.hj; have k4 := p.hb
  have la : a < G.length := by omega
  simp -dsimp only [slices_partitionEqualCmpFuncG.l5, slices_partitionEqualCmpFuncG.k4, leqN, B.pv_some]
  by_cases hle : i' ≤ j
  · have li : i' < G.length := by omega
    simp -dsimp only [hle, decide_true, B.gd_t, B.gdb_true, ho.idx li, ho.idx la, B.pv_some]
    refine ho.ld S (List.getElem?_eq_getElem la) ?_
    refine ho.ld S (List.getElem?_eq_getElem li) ?_
    refine hc.call _ _ _ _ ho.le ?_
    simp -dsimp only [hle, decide_true, B.gd_t, B.gdb_true, V.bin_lss, V.un_not, B.pick_t, B.pv_some]
    refine B.cond_bool (fun hd => ?_) (fun hd => ?_)
    · have hd' : ¬ c G[a] G[i'] < 0 := by simpa using hd
      simp -dsimp only [add1 (show i' < 4611686018427387904 by omega), B.pv_some]
      refine hY (b - (i' + 1)) _ _ (by omega) ⟨rfl, i' + 1, by omega, by omega, rfl, ⟨k4, by omega, k3, by omega, fun k hk ha q1 q2 => ?_, p.hi2⟩⟩
      by_cases e : k = i'
      · subst e; exact hd'
      · exact p.lo k hk ha q1 (by omega)
    · have hd' : c G[a] G[i'] < 0 := by simpa using hd
      exact eq_j S hc ho hl hab p (.inr fun _ _ => hd') (fun h' j' p' hlt o' => done h' i' j' p' hlt o') fun h' j' hi hj p' h1 h2 o' => next h' i' j' hi hj p' k1 hii h1 h2 o'
  · simp -dsimp only [hle, decide_false, B.gd_t, B.gdb_false, B.pick_f, B.cond_false]
    exact eq_j S hc ho hl hab p (.inl (by omega)) (fun h' j' p' hlt o' => done h' i' j' p' hlt o') fun h' j' hi hj p' h1 h2 o' => next h' i' j' hi hj p' k1 hii h1 h2 o'
theorem eq_main (S : SeqSpec E cs v) (hc : CmpSpec C v c f h0) (ho : Rw E cs h0 h x G R) (hl : G.length < 4611686018427387904) (hab : a < b) (p : EInv c a b G i j)
    (hq : ∀ h' i' j' G', EInv c a b G' i' j' → j' < i' → Within (a + 1) b G G' → Rw E cs h0 h' x G' R → Q (.int .i64 (i' : Int)) h') :
    LoopR (slices_partitionEqualCmpFuncG.l6 C E Q x (.int .i64 (a : Int)) f) [.int .i64 (i : Int), .int .i64 (j : Int)] h := by
  refine LoopR.intro (fun t vs hh => ∃ (i' j' : Nat) (G' : List X), i' + t = b ∧ vs = [.int .i64 (i' : Int), .int .i64 (j' : Int)] ∧ Within (a + 1) b G G' ∧ EInv c a b G' i' j' ∧ Rw E cs h0 hh x G' R) (b - i) ?_ ⟨i, j, G, by have := p.hij; have := p.hj; omega, rfl, Within.refl _ _ _, p, ho⟩
  rintro Y t vs hh ⟨i', j', G', hit, rfl, W, p, o⟩ hY
  have hlen := W.len
  simp -dsimp only [slices_partitionEqualCmpFuncG.l6]
  refine eq_i S hc o (by omega) hab p (fun h' i2 j2 p2 hlt o2 => hq h' i2 j2 G' p2 hlt W o2) fun h' i2 j2 hi hj p2 h1 h2 h3 h4 o2 => ?_
  exact hY (b - (i2 + 1)) _ _ (by omega) ⟨i2 + 1, j2 - 1, _, by omega, rfl, W.trans (swp_within hi hj (by omega) (by omega) (by omega) h4), p2, o2⟩
/-- Those that are not above the pivot come first. -/
theorem partitionEqual_spec (S : SeqSpec E cs v) (hc : CmpSpec C v c f h0) (ho : Rw E cs h0 h x G R) (hl : G.length < 4611686018427387904) {pv : Nat} (hp1 : a ≤ pv) (hp2 : pv < b) (hb : b ≤ G.length)
    (hq : ∀ h' i' j' G', EInv c a b G' i' j' → j' < i' → Within a b G G' → (∀ (h1 : a < G'.length) (h2 : pv < G.length), G'[a] = G[pv]) → Rw E cs h0 h' x G' R → Q (.int .i64 (i' : Int)) h') :
    slices_partitionEqualCmpFuncG.cps C E x (.int .i64 (a : Int)) (.int .i64 (b : Int)) (.int .i64 (pv : Int)) f h Q := by
  have la : a < G.length := by omega
  have lp : pv < G.length := by omega
  simp -dsimp only [slices_partitionEqualCmpFuncG.cps, slices_partitionEqualCmpFuncG.k8, ho.idx lp, ho.idx la, B.pv_some]
  refine ho.ld S (List.getElem?_eq_getElem lp) ?_
  refine ho.ld S (List.getElem?_eq_getElem la) ?_
  refine ho.st S (t := G[pv]) la fun h1 o1 => ?_
  refine o1.st S (t := G[a]) (by simpa using lp) fun h2 o2 => ?_
  have e1' : V.bin .sub (.int .i64 (b : Int)) (.int .i64 1) = some (.int .i64 ((b - 1 : Nat) : Int)) := subNN (a := b) (b := 1) (by omega) (by omega)
  simp -dsimp only [slices_partitionEqualCmpFuncG.k7, add1 (show a < 4611686018427387904 by omega), e1', B.pv_some]
  have W := swp_within la lp (Nat.le_refl _) (by omega) hp1 hp2
  have hsl := swp_len la lp
  refine eq_main S hc (G := swp G a pv la lp) o2 (by omega) (by omega) ⟨by omega, by omega, by omega, by omega, fun k _ _ q1 q2 => by omega, fun k _ _ q1 q2 => by omega⟩ fun h' i' j' G' p' hlt W' o' => hq h' i' j' G' p' hlt (W.trans (W'.mono (by omega) (Nat.le_refl _))) (fun h1 h2 => ?_) o'
  rw [W'.same (.inl (by omega)) h1 (by omega), swp_at la lp (by omega) la]
  split
  · rename_i e; simp only [e]
  · rw [if_pos rfl]
end
end Go.Ab

/- What is proved: the library's quick sort, generic: heaps, plain. No conditions. -/
set_option linter.unusedVariables false
set_option linter.unusedSimpArgs false
namespace Go.Ab
/-- A heap of n places from a on, below every parent from lo on, but for r. -/
structure SInv {X : Type} (c : X → X → Int) (a n lo r : Nat) (G : List X) : Prop where
  len : a + n ≤ G.length
  heap : ∀ k, 0 < k → (hk : k < n) → lo ≤ (k - 1) / 2 → (k - 1) / 2 ≠ r → (h1 : a + (k - 1) / 2 < G.length) → (h2 : a + k < G.length) → ¬ c G[a + (k - 1) / 2] G[a + k] < 0
  grand : lo ≤ (r - 1) / 2 → 0 < r → ∀ k, 0 < k → (hk : k < n) → (k - 1) / 2 = r → (h1 : a + (r - 1) / 2 < G.length) → (h2 : a + k < G.length) → ¬ c G[a + (r - 1) / 2] G[a + k] < 0
/-- A heap. -/
def Heap {X : Type} (c : X → X → Int) (a n lo : Nat) (G : List X) : Prop := ∀ k, 0 < k → (hk : k < n) → lo ≤ (k - 1) / 2 → (h1 : a + (k - 1) / 2 < G.length) → (h2 : a + k < G.length) → ¬ c G[a + (k - 1) / 2] G[a + k] < 0
section
variable {X : Type} {c : X → X → Int} {a n lo r ch : Nat} {G : List X}
theorem SInv.done (p : SInv c a n lo r G) (hr : ∀ k, 0 < k → k < n → (k - 1) / 2 = r → (h1 : a + r < G.length) → (h2 : a + k < G.length) → ¬ c G[a + r] G[a + k] < 0) : Heap c a n lo G := fun k h0 hk hl h1 h2 => by
  by_cases e : (k - 1) / 2 = r
  · have := hr k h0 hk e (by rw [← e]; exact h1) h2
    simp only [e]; exact this
  · exact p.heap k h0 hk hl e h1 h2
theorem SInv.step (W : Weak (lessC c)) (p : SInv c a n lo r G) (hlo : lo ≤ r) (hch : ch < n) (hp : (ch - 1) / 2 = r) (h0 : 0 < ch) (hr : a + r < G.length) (hc : a + ch < G.length) (hlt : c G[a + r] G[a + ch] < 0)
    (hmax : ∀ k, 0 < k → k < n → (k - 1) / 2 = r → (h2 : a + k < G.length) → ¬ c G[a + ch] G[a + k] < 0) : SInv c a n lo ch (swp G (a + r) (a + ch) hr hc) := by
  have hl := swp_len hr hc
  have hrc : r < ch := by omega
  have asym : ¬ c G[a + ch] G[a + r] < 0 := by
    have := W.asym (a := G[a + r]) (b := G[a + ch]) (by unfold lessC; exact decide_eq_true hlt)
    unfold lessC at this; exact of_decide_eq_false this
  refine ⟨by rw [hl]; exact p.len, fun k k0 hk hlk hne h1 h2 => ?_, fun _ _ k k0 hk hkp h1 h2 => ?_⟩
  · have g1 : a + (k - 1) / 2 < G.length := by omega
    have g2 : a + k < G.length := by omega
    rw [swp_at hr hc h1 g1, swp_at hr hc h2 g2, if_neg (by omega : ¬ a + (k - 1) / 2 = a + ch)]
    by_cases e1 : (k - 1) / 2 = r
    · rw [if_pos (by omega)]
      by_cases e2 : k = ch
      · rw [if_pos (by omega)]; exact asym
      · rw [if_neg (by omega), if_neg (by omega)]; exact hmax k k0 hk e1 g2
    · rw [if_neg (by omega)]
      by_cases e2 : k = r
      · rw [if_neg (by omega), if_pos (by omega)]
        subst e2
        exact p.grand hlk k0 ch h0 hch hp g1 hc
      · rw [if_neg (by omega), if_neg (by omega)]; exact p.heap k k0 hk hlk e1 g1 g2
  · have g1 : a + (ch - 1) / 2 < G.length := by omega
    have g2 : a + k < G.length := by omega
    rw [swp_at hr hc h1 g1, swp_at hr hc h2 g2, if_neg (by omega), if_pos (by omega), if_neg (by omega), if_neg (by omega)]
    have := p.heap k k0 hk (by omega) (by omega) (by omega) g2
    simp only [hkp] at this
    exact this
end
end Go.Ab

/- What is proved: the library's quick sort, generic: siftDown. No conditions. -/
set_option linter.unusedVariables false
set_option linter.unusedSimpArgs false
namespace Go.Ab
variable {C : CSem}
section
variable {E : ElOps} {X : Type} {cs : X → List AVal} {v : X → AVal} {h0 h : AHeap} {x f : AVal} {G : List X} {R : List (List AVal)} {c : X → X → Int} {Q : AVal → AHeap → Prop} {Y1 : List AVal → AHeap → Prop} {a n lo r ch : Nat}
/-- The greater child is known. -/
theorem sift_k1 (S : SeqSpec E cs v) (W : Weak (lessC c)) (hc : CmpSpec C v c f h0) (ho : Rw E cs h0 h x G R) (hl : G.length < 1000000000) (p : SInv c a n lo r G) (hlo : lo ≤ r) (hch : ch < n) (hp : (ch - 1) / 2 = r) (hc0 : 0 < ch)
    (hmax : ∀ k, 0 < k → k < n → (k - 1) / 2 = r → (h1 : a + ch < G.length) → (h2 : a + k < G.length) → ¬ c G[a + ch] G[a + k] < 0)
    (done : ∀ h', Heap c a n lo G → Rw E cs h0 h' x G R → Q (.tup []) h')
    (next : ∀ h' (hr : a + r < G.length) (hcl : a + ch < G.length), SInv c a n lo ch (swp G (a + r) (a + ch) hr hcl) → Rw E cs h0 h' x (swp G (a + r) (a + ch) hr hcl) R → Y1 [.int .i64 (ch : Int)] h') :
    slices_siftDownCmpFuncG.k1 C E Q Y1 x (.int .i64 (n : Int)) (.int .i64 (a : Int)) f (.int .i64 (r : Int)) (.int .i64 (ch : Int)) h := by
  have hlen := p.len
  have lr : a + r < G.length := by omega
  have lc : a + ch < G.length := by omega
  have ar := addNN (a := a) (b := r) (by omega)
  have ac := addNN (a := a) (b := ch) (by omega)
  simp -dsimp only [slices_siftDownCmpFuncG.k1, ar, ac, ho.idx lr, ho.idx lc, B.pv_some]
  refine ho.ld S (List.getElem?_eq_getElem lr) ?_
  refine ho.ld S (List.getElem?_eq_getElem lc) ?_
  refine hc.call _ _ _ _ ho.le ?_
  simp -dsimp only [V.bin_lss, V.un_not, B.pv_some]
  refine B.cond_bool (fun hd => ?_) (fun hd => ?_)
  · have hd' : ¬ c G[a + r] G[a + ch] < 0 := by simpa using hd
    refine done h (p.done fun k k0 hk hkp h1 h2 => ?_) ho
    have := W.ntrans (a := G[a + r]) (b := G[a + ch]) (c := G[a + k]) (by unfold lessC; exact decide_eq_false hd') (by unfold lessC; exact decide_eq_false (hmax k k0 hk hkp lc h2))
    unfold lessC at this; exact of_decide_eq_false this
  · have hd' : c G[a + r] G[a + ch] < 0 := by simpa using hd
    simp -dsimp only [ar, ac, ho.idx lr, ho.idx lc, B.pv_some]
    refine ho.ld S (List.getElem?_eq_getElem lc) ?_
    refine ho.ld S (List.getElem?_eq_getElem lr) ?_
    refine ho.st S (t := G[a + ch]) lr fun h1 o1 => ?_
    refine o1.st S (t := G[a + r]) (by simpa using lc) fun h2 o2 => ?_
    exact next h2 lr lc (p.step W hlo hch hp hc0 lr lc hd' fun k k0 hk hkp h2 => hmax k k0 hk hkp lc h2) o2
/-- One comes down to its place. -/
theorem siftDown_spec (S : SeqSpec E cs v) (W : Weak (lessC c)) (hc : CmpSpec C v c f h0) (ho : Rw E cs h0 h x G R) (hl : G.length < 1000000000) (p : SInv c a n lo r G) (hlo : lo ≤ r) (hrn : r ≤ n) {b : Nat} (hb : a + n ≤ b)
    (hq : ∀ h' G', Heap c a n lo G' → Within a b G G' → Rw E cs h0 h' x G' R → Q (.tup []) h') :
    slices_siftDownCmpFuncG.cps C E x (.int .i64 (r : Int)) (.int .i64 (n : Int)) (.int .i64 (a : Int)) f h Q := by
  simp -dsimp only [slices_siftDownCmpFuncG.cps]
  refine LoopR.intro (fun t vs hh => ∃ (r' : Nat) (G' : List X), r' + t = n ∧ vs = [.int .i64 (r' : Int)] ∧ lo ≤ r' ∧ SInv c a n lo r' G' ∧ Within a b G G' ∧ Rw E cs h0 hh x G' R) (n - r) ?_ ⟨r, G, by omega, rfl, hlo, p, Within.refl _ _ _, ho⟩
  rintro Y t vs hh ⟨r', G', hrt, rfl, hlo', p', W', o⟩ hY
  have hlen := W'.len
  have pl := p'.len
  have e1 : V.bin .mul (.int .i64 2) (.int .i64 (r' : Int)) = some (.int .i64 ((2 * r' : Nat) : Int)) := mulN (a := 2) (b := r') (by omega)
  simp -dsimp only [slices_siftDownCmpFuncG.l4, slices_siftDownCmpFuncG.k3, e1, add1 (show 2 * r' < 4611686018427387904 by omega), geqN, B.pv_some]
  refine B.cond_bool (fun hd => ?_) (fun hd => ?_)
  · rw [decide_eq_true_eq] at hd
    exact hq hh G' (p'.done fun k k0 hk hkp _ _ => by omega) W' o
  · rw [decide_eq_false_iff_not] at hd
    have fin : ∀ ch, ch < n → (ch - 1) / 2 = r' → 0 < ch → (∀ k, 0 < k → k < n → (k - 1) / 2 = r' → (h1 : a + ch < G'.length) → (h2 : a + k < G'.length) → ¬ c G'[a + ch] G'[a + k] < 0) → slices_siftDownCmpFuncG.k1 C E Q Y x (.int .i64 (n : Int)) (.int .i64 (a : Int)) f (.int .i64 (r' : Int)) (.int .i64 (ch : Int)) hh := fun ch c1 c2 c3 c4 =>
      sift_k1 S W hc o (by omega) p' hlo' c1 c2 c3 c4 (fun h' hp o' => hq h' G' hp W' o') fun h' hr hcl p2 o2 => hY (n - ch) _ _ (by omega) ⟨ch, _, by omega, rfl, by omega, p2, W'.trans (swp_within hr hcl (by omega) (by omega) (by omega) (by omega)), o2⟩
    have irr : ∀ t : X, ¬ c t t < 0 := fun t => by
      have := W.irr t; unfold lessC at this; exact of_decide_eq_false this
    have a1 := addNN (a := a) (b := 2 * r' + 1) (by omega)
    simp -dsimp only [slices_siftDownCmpFuncG.k2, add1 (show 2 * r' + 1 < 4611686018427387904 by omega), lssN, B.pv_some]
    by_cases h2 : 2 * r' + 1 + 1 < n
    · have l1 : a + (2 * r' + 1) < G'.length := by omega
      have l2 : a + (2 * r' + 1) + 1 < G'.length := by omega
      simp -dsimp only [h2, decide_true, B.gd_t, B.gdb_true, a1, add1 (show a + (2 * r' + 1) < 4611686018427387904 by omega), o.idx l1, o.idx l2, B.pv_some]
      refine o.ld S (List.getElem?_eq_getElem l1) ?_
      refine o.ld S (List.getElem?_eq_getElem l2) ?_
      refine hc.call _ _ _ _ o.le ?_
      simp -dsimp only [h2, decide_true, B.gd_t, B.gdb_true, V.bin_lss, B.pick_t, B.pv_some]
      refine B.cond_bool (fun hf => ?_) (fun hf => ?_)
      · have hf' : c G'[a + (2 * r' + 1)] G'[a + (2 * r' + 1) + 1] < 0 := by simpa using hf
        simp -dsimp only [add1 (show 2 * r' + 1 < 4611686018427387904 by omega), B.pv_some]
        refine fin (2 * r' + 1 + 1) h2 (by omega) (by omega) fun k k0 hk hkp h1 h3 => ?_
        rcases (show k = 2 * r' + 1 ∨ k = 2 * r' + 1 + 1 by omega) with rfl | rfl
        · have := W.asym (a := G'[a + (2 * r' + 1)]) (b := G'[a + (2 * r' + 1) + 1]) (by unfold lessC; exact decide_eq_true hf')
          unfold lessC at this; exact of_decide_eq_false this
        · exact irr _
      · have hf' : ¬ c G'[a + (2 * r' + 1)] G'[a + (2 * r' + 1) + 1] < 0 := by simpa using hf
        refine fin (2 * r' + 1) (by omega) (by omega) (by omega) fun k k0 hk hkp h1 h3 => ?_
        rcases (show k = 2 * r' + 1 ∨ k = 2 * r' + 1 + 1 by omega) with rfl | rfl
        · exact irr _
        · exact hf'
    · simp -dsimp only [h2, decide_false, B.gd_t, B.gdb_false, B.pick_f, B.cond_false]
      refine fin (2 * r' + 1) (by omega) (by omega) (by omega) fun k k0 hk hkp h1 h3 => ?_
      have : k = 2 * r' + 1 := by omega
      subst this; exact irr _
end
end Go.Ab
