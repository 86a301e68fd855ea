/- What is proved: a part of the way to the statement; each part is headed by what it proves. No conditions. -/
import Derived.Test.YtdbaofolnjnjkaaGreatQ3
import Derived.Test.YtdbaofolnjnjkaaGreatQ2

/- What is told: residuals: what each function does in the abstract memory, printed by a program of mine. Definitions alone. -/
set_option linter.unusedVariables false
namespace Go.Ab
@[simp] def kit_LentWindows.k3 (C : CSem) (N : Nat → Nat) (Q : AVal → AHeap → Prop) (v0 : AVal) (h : AHeap) : Prop :=
  B.pv (V.lenSl v0) fun v6 =>
    B.pv (V.bin .add v6 (.int .i64 12)) fun v7 =>
    0 < 2 ∧ B.mks h 16 (some [.int .i64 0, .int .i64 0]) (.int .i64 0) v7 fun v8 h =>
    B.appW h 2 16 v8 v0 fun v11 h =>
    LoopR (lentG.l4 C 2 16 (N 18) [.int .i64 0, .int .i64 0] 1 Q v0) [v11, (.int .i64 0)] h
/-- storeman/storemankit.LentWindows -/
def kit_LentWindows.cps (C : CSem) (N : Nat → Nat) (v0 : AVal) (h : AHeap) (Q : AVal → AHeap → Prop) : Prop :=
  kit_LentWindows.k3 C N Q v0 h
def kit_LentWindows.Imp (C : CSem) (N : Nat → Nat) : Prop := ∀ (v0 : AVal) (h : AHeap) (Q : AVal → AHeap → Prop), kit_LentWindows.cps C N v0 h (dn Q) → C (N 9) [v0] h Q
@[simp] def kit_SameWindows.k3 (C : CSem) (N : Nat → Nat) (Q : AVal → AHeap → Prop) (v0 v1 : AVal) (h : AHeap) : Prop :=
  B.pv (V.lenSl v0) fun v7 =>
    B.pv (V.lenSl v1) fun v9 =>
    B.pv (V.bin .neq v7 v9) fun v10 =>
    B.cond v10
    (Q (.bool false) h)
    (LoopR (sameG.l4 2 [.i .i64, .i .i64] Q v0 v1) [(.int .i64 0)] h)
/-- storeman/storemankit.SameWindows -/
def kit_SameWindows.cps (C : CSem) (N : Nat → Nat) (v0 v1 : AVal) (h : AHeap) (Q : AVal → AHeap → Prop) : Prop :=
  kit_SameWindows.k3 C N Q v0 v1 h
def kit_SameWindows.Imp (C : CSem) (N : Nat → Nat) : Prop := ∀ (v0 v1 : AVal) (h : AHeap) (Q : AVal → AHeap → Prop), kit_SameWindows.cps C N v0 v1 h (dn Q) → C (N 12) [v0, v1] h Q
@[simp] def kit_KeptWindows.k3 (C : CSem) (N : Nat → Nat) (Q : AVal → AHeap → Prop) (v0 v1 : AVal) (h : AHeap) : Prop :=
  B.pv (V.lenSl v1) fun v14 =>
    B.pv (V.bin .add v14 (.int .i64 12)) fun v15 =>
    B.pv (V.cutSl 2 v0 none (some v15)) fun v16 =>
    LoopR (keptG.l4 C 2 (N 18) [.i .i64, .i .i64] 1 Q v1 v16) [(.int .i64 0)] h
@[simp] def kit_KeptWindows.k4 (C : CSem) (N : Nat → Nat) (Q : AVal → AHeap → Prop) (v0 v1 : AVal) (h : AHeap) : Prop :=
  B.pv (V.lenSl v0) fun v8 =>
    B.pv (V.lenSl v1) fun v10 =>
    B.pv (V.bin .neq v8 v10) fun v11 =>
    B.cond v11
    (Q (.bool false) h)
    (kit_KeptWindows.k3 C N Q v0 v1 h)
/-- storeman/storemankit.KeptWindows -/
def kit_KeptWindows.cps (C : CSem) (N : Nat → Nat) (v0 v1 : AVal) (h : AHeap) (Q : AVal → AHeap → Prop) : Prop :=
  kit_KeptWindows.k4 C N Q v0 v1 h
def kit_KeptWindows.Imp (C : CSem) (N : Nat → Nat) : Prop := ∀ (v0 v1 : AVal) (h : AHeap) (Q : AVal → AHeap → Prop), kit_KeptWindows.cps C N v0 v1 h (dn Q) → C (N 15) [v0, v1] h Q
@[simp] def kit_markWindow.k1 (C : CSem) (N : Nat → Nat) (Q : AVal → AHeap → Prop) (v0 v1 : AVal) (h : AHeap) : Prop :=
  B.call C (N 20) [v0, v1] h fun v7 h =>
    B.pv (A.bld [(0, none, v7)] [.int .i64 0, .int .i64 0]) fun v8 =>
    B.pv (V.setN 0 2 v8 (.agg [.int .i64 0, .int .i64 0])) fun c4 =>
    B.pv (oneOf (joinV (V.fieldN 0 2 c4) (some []))) fun v => Q v h
/-- storeman/storemankit.markWindow -/
@[simp] def kit_markWindow.cps (C : CSem) (N : Nat → Nat) (v0 v1 : AVal) (h : AHeap) (Q : AVal → AHeap → Prop) : Prop :=
  kit_markWindow.k1 C N Q v0 v1 h
def kit_markWindow.Imp (C : CSem) (N : Nat → Nat) : Prop := ∀ (v0 v1 : AVal) (h : AHeap) (Q : AVal → AHeap → Prop), kit_markWindow.cps C N v0 v1 h (dn Q) → C (N 18) [v0, v1] h Q
/-- storeman/storemankit.mark -/
@[simp] def kit_mark.cps (C : CSem) (N : Nat → Nat) (v0 v1 : AVal) (h : AHeap) (Q : AVal → AHeap → Prop) : Prop :=
  B.pv (V.bin .add v0 (.int .i64 7)) fun v6 =>
    B.pv (V.bin .mul (.int .i64 1000003) v6) fun v7 =>
    B.pv (V.bin .add v7 v1) fun v9 =>
    Q v9 h
def kit_mark.Imp (C : CSem) (N : Nat → Nat) : Prop := ∀ (v0 v1 : AVal) (h : AHeap) (Q : AVal → AHeap → Prop), kit_mark.cps C N v0 v1 h (dn Q) → C (N 20) [v0, v1] h Q
@[simp] def kit_LentTell.k1 (C : CSem) (N : Nat → Nat) (Q : AVal → AHeap → Prop) (v0 : AVal) (h : AHeap) : Prop :=
  B.pv (A.boxN 7 v0) fun c1 =>
    B.al c1 (B.pv (V.field1 5 c1) fun v4 =>
    B.call C (N 48) [v4] h fun v5 h =>
    B.al c1 (B.pv (V.setF 5 v5 c1) fun c1 =>
    B.al c1 (B.pv (V.field1 6 c1) fun v8 =>
    B.call C (N 49) [v8] h fun v9 h =>
    B.al c1 (B.pv (V.setF 6 v9 c1) fun c1 =>
    B.pv (V.fieldN 0 7 c1) fun v11 =>
    B.pv (V.setN 0 7 v11 (.agg [.int .i64 0, .int .i64 0, .int .i64 0, .str [], .int .u8 0, .nils, .nils])) fun c2 =>
    B.pv (oneOf (joinV (V.fieldN 0 7 c2) (some []))) fun v => Q v h))))
/-- storeman/storemankit.LentTell -/
@[simp] def kit_LentTell.cps (C : CSem) (N : Nat → Nat) (v0 : AVal) (h : AHeap) (Q : AVal → AHeap → Prop) : Prop :=
  kit_LentTell.k1 C N Q v0 h
def kit_LentTell.Imp (C : CSem) (N : Nat → Nat) : Prop := ∀ (v0 : AVal) (h : AHeap) (Q : AVal → AHeap → Prop), kit_LentTell.cps C N v0 h (dn Q) → C (N 27) [v0] h Q
@[simp] def kit_KeptTell.k1 (C : CSem) (N : Nat → Nat) (Q : AVal → AHeap → Prop) (v0 v1 : AVal) (h : AHeap) : Prop :=
  B.pv (A.boxN 7 v0) fun c2 =>
    B.pv (A.boxN 7 v1) fun c3 =>
    B.pv (V.fieldN 0 7 c2) fun v5 =>
    B.pv (V.fieldN 0 7 c3) fun v6 =>
    B.call C (N 42) [v5, v6] h fun v7 h =>
    B.al c2 (B.gd h v7 true (fun K => K .undef h) fun _ h =>
    B.gd h v7 true (fun K => B.pv (V.field1 5 c2) fun v => K v h) fun v10 h =>
    B.al c3 (B.gd h v7 true (fun K => K .undef h) fun _ h =>
    B.gd h v7 true (fun K => B.pv (V.field1 5 c3) fun v => K v h) fun v12 h =>
    B.gd h v7 true (fun K => B.call C (N 54) [v10, v12] h K) fun v13 h =>
    B.pick v7 v13 (.bool false) fun v14 =>
    B.al c2 (B.gd h v14 true (fun K => K .undef h) fun _ h =>
    B.gd h v14 true (fun K => B.pv (V.field1 6 c2) fun v => K v h) fun v17 h =>
    B.al c3 (B.gd h v14 true (fun K => K .undef h) fun _ h =>
    B.gd h v14 true (fun K => B.pv (V.field1 6 c3) fun v => K v h) fun v19 h =>
    B.gd h v14 true (fun K => B.call C (N 55) [v17, v19] h K) fun v20 h =>
    B.pick v14 v20 (.bool false) fun v21 =>
    Q v21 h))))
/-- storeman/storemankit.KeptTell -/
@[simp] def kit_KeptTell.cps (C : CSem) (N : Nat → Nat) (v0 v1 : AVal) (h : AHeap) (Q : AVal → AHeap → Prop) : Prop :=
  kit_KeptTell.k1 C N Q v0 v1 h
def kit_KeptTell.Imp (C : CSem) (N : Nat → Nat) : Prop := ∀ (v0 v1 : AVal) (h : AHeap) (Q : AVal → AHeap → Prop), kit_KeptTell.cps C N v0 v1 h (dn Q) → C (N 30) [v0, v1] h Q
@[simp] def kit_OverTell.k1 (C : CSem) (N : Nat → Nat) (Q : AVal → AHeap → Prop) (v0 : AVal) (h : AHeap) : Prop :=
  B.pv (A.boxN 7 v0) fun c1 =>
    B.al c1 (B.pv (V.field1 5 c1) fun v3 =>
    B.call C (N 56) [v3] h fun v4 h =>
    B.al c1 (B.pv (V.field1 6 c1) fun v6 =>
    B.call C (N 57) [v6] h fun v7 h =>
    Q (.tup []) h))
/-- storeman/storemankit.OverTell -/
@[simp] def kit_OverTell.cps (C : CSem) (N : Nat → Nat) (v0 : AVal) (h : AHeap) (Q : AVal → AHeap → Prop) : Prop :=
  kit_OverTell.k1 C N Q v0 h
def kit_OverTell.Imp (C : CSem) (N : Nat → Nat) : Prop := ∀ (v0 : AVal) (h : AHeap) (Q : AVal → AHeap → Prop), kit_OverTell.cps C N v0 h (dn Q) → C (N 31) [v0] h Q
@[simp] def kit_SameBytes.k3 (C : CSem) (N : Nat → Nat) (Q : AVal → AHeap → Prop) (v0 v1 : AVal) (h : AHeap) : Prop :=
  B.pv (V.lenSl v0) fun v7 =>
    B.pv (V.lenSl v1) fun v9 =>
    B.pv (V.bin .neq v7 v9) fun v10 =>
    B.cond v10
    (Q (.bool false) h)
    (LoopR (sameS.l4  Q v0 v1) [(.int .i64 0)] h)
/-- storeman/storemankit.SameBytes -/
def kit_SameBytes.cps (C : CSem) (N : Nat → Nat) (v0 v1 : AVal) (h : AHeap) (Q : AVal → AHeap → Prop) : Prop :=
  kit_SameBytes.k3 C N Q v0 v1 h
def kit_SameBytes.Imp (C : CSem) (N : Nat → Nat) : Prop := ∀ (v0 v1 : AVal) (h : AHeap) (Q : AVal → AHeap → Prop), kit_SameBytes.cps C N v0 v1 h (dn Q) → C (N 34) [v0, v1] h Q
@[simp] def kit_ApartBytes.k1 (C : CSem) (N : Nat → Nat) (Q : AVal → AHeap → Prop) (Y1 : List AVal → AHeap → Prop) (v0 v3 v4 : AVal) (h : AHeap) : Prop :=
  B.pv (V.lenSl v0) fun v9 =>
    B.pv (V.bin .lss v4 v9) fun v10 =>
    B.cond v10
    (B.pv (V.idxS 1 v0 v4) fun v16 =>
    B.ld h v16 fun v17 =>
    B.call C (N 63) [v3, v17] h fun v18 h =>
    B.pv (V.bin .add v4 (.int .i64 1)) fun v12 =>
    Y1 [v12] h)
    (B.call C (N 62) [v3] h fun v20 h =>
    Q v20 h)
@[simp] def kit_ApartBytes.l2 (C : CSem) (N : Nat → Nat) (Q : AVal → AHeap → Prop) (v0 v3 : AVal) : List AVal → AHeap → (List AVal → AHeap → Prop) → Prop
  | [v4], h, Y1 => kit_ApartBytes.k1 C N Q Y1 v0 v3 v4 h
  | _, _, _ => False
@[simp] def kit_ApartBytes.k3 (C : CSem) (N : Nat → Nat) (Q : AVal → AHeap → Prop) (v0 : AVal) (h : AHeap) : Prop :=
  B.pv (A.bld [] [.nils, .nils, .nils, .nils, .nils, .nils, .nils, .nils, .nils, .nils, .nils, .nils, .nils, .nils, .nils, .nils, .nils, .nils, .nils, .nils, .nils, .nils, .nils]) fun v5 =>
    B.newO h (A.cellsN 23 v5) fun i6 h =>
    LoopR (kit_ApartBytes.l2 C N Q v0 (.ptr i6 0 0)) [(.int .i64 0)] h
/-- storeman/storemankit.ApartBytes -/
@[simp] def kit_ApartBytes.cps (C : CSem) (N : Nat → Nat) (v0 : AVal) (h : AHeap) (Q : AVal → AHeap → Prop) : Prop :=
  kit_ApartBytes.k3 C N Q v0 h
def kit_ApartBytes.Imp (C : CSem) (N : Nat → Nat) : Prop := ∀ (v0 : AVal) (h : AHeap) (Q : AVal → AHeap → Prop), kit_ApartBytes.cps C N v0 h (dn Q) → C (N 35) [v0] h Q
@[simp] def kit_LentBytes.k3 (C : CSem) (N : Nat → Nat) (Q : AVal → AHeap → Prop) (v0 : AVal) (h : AHeap) : Prop :=
  B.pv (V.lenSl v0) fun v6 =>
    B.pv (V.bin .add v6 (.int .i64 12)) fun v7 =>
    0 < 1 ∧ B.mks h 1 (some [.int .u8 0]) (.int .i64 0) v7 fun v8 h =>
    B.appW h 1 1 v8 v0 fun v11 h =>
    LoopR (lentS.l4 C 1 (N 64) (.int .u8 0) 1 Q v0) [v11, (.int .i64 0)] h
/-- storeman/storemankit.LentBytes -/
def kit_LentBytes.cps (C : CSem) (N : Nat → Nat) (v0 : AVal) (h : AHeap) (Q : AVal → AHeap → Prop) : Prop :=
  kit_LentBytes.k3 C N Q v0 h
def kit_LentBytes.Imp (C : CSem) (N : Nat → Nat) : Prop := ∀ (v0 : AVal) (h : AHeap) (Q : AVal → AHeap → Prop), kit_LentBytes.cps C N v0 h (dn Q) → C (N 37) [v0] h Q
@[simp] def kit_KeptBytes.k3 (C : CSem) (N : Nat → Nat) (Q : AVal → AHeap → Prop) (v0 v1 : AVal) (h : AHeap) : Prop :=
  B.pv (V.lenSl v1) fun v14 =>
    B.pv (V.bin .add v14 (.int .i64 12)) fun v15 =>
    B.pv (V.cutSl 1 v0 none (some v15)) fun v16 =>
    LoopR (keptS.l4 C (N 64) 1 Q v1 v16) [(.int .i64 0)] h
@[simp] def kit_KeptBytes.k4 (C : CSem) (N : Nat → Nat) (Q : AVal → AHeap → Prop) (v0 v1 : AVal) (h : AHeap) : Prop :=
  B.pv (V.lenSl v0) fun v8 =>
    B.pv (V.lenSl v1) fun v10 =>
    B.pv (V.bin .neq v8 v10) fun v11 =>
    B.cond v11
    (Q (.bool false) h)
    (kit_KeptBytes.k3 C N Q v0 v1 h)
/-- storeman/storemankit.KeptBytes -/
def kit_KeptBytes.cps (C : CSem) (N : Nat → Nat) (v0 v1 : AVal) (h : AHeap) (Q : AVal → AHeap → Prop) : Prop :=
  kit_KeptBytes.k4 C N Q v0 v1 h
def kit_KeptBytes.Imp (C : CSem) (N : Nat → Nat) : Prop := ∀ (v0 v1 : AVal) (h : AHeap) (Q : AVal → AHeap → Prop), kit_KeptBytes.cps C N v0 v1 h (dn Q) → C (N 39) [v0, v1] h Q
@[simp] def kit_OverBytes.k3 (C : CSem) (N : Nat → Nat) (Q : AVal → AHeap → Prop) (v0 : AVal) (h : AHeap) : Prop :=
  B.pv (V.lenSl v0) fun v6 =>
    B.pv (V.bin .add v6 (.int .i64 12)) fun v7 =>
    B.pv (V.cutSl 1 v0 none (some v7)) fun v8 =>
    LoopR (overG.l3 C 1 (N 64) (fun h p v K => B.st h p v K) 2 Q v8) [(.int .i64 0)] h
/-- storeman/storemankit.OverBytes -/
def kit_OverBytes.cps (C : CSem) (N : Nat → Nat) (v0 : AVal) (h : AHeap) (Q : AVal → AHeap → Prop) : Prop :=
  kit_OverBytes.k3 C N Q v0 h
def kit_OverBytes.Imp (C : CSem) (N : Nat → Nat) : Prop := ∀ (v0 : AVal) (h : AHeap) (Q : AVal → AHeap → Prop), kit_OverBytes.cps C N v0 h (dn Q) → C (N 40) [v0] h Q
@[simp] def kit_SameTell.k1 (C : CSem) (N : Nat → Nat) (Q : AVal → AHeap → Prop) (v0 v1 : AVal) (h : AHeap) : Prop :=
  B.pv (A.boxN 7 v0) fun c2 =>
    B.pv (A.boxN 7 v1) fun c3 =>
    B.al c2 (B.pv (V.field1 0 c2) fun v6 =>
    B.al c3 (B.pv (V.field1 0 c3) fun v8 =>
    B.pv (V.bin .eql v6 v8) fun v9 =>
    B.al c2 (B.gd h v9 true (fun K => K .undef h) fun _ h =>
    B.gd h v9 true (fun K => B.pv (V.field1 1 c2) fun v => K v h) fun v12 h =>
    B.al c3 (B.gd h v9 true (fun K => K .undef h) fun _ h =>
    B.gd h v9 true (fun K => B.pv (V.field1 1 c3) fun v => K v h) fun v14 h =>
    B.gd h v9 true (fun K => B.pv (V.bin .eql v12 v14) fun v => K v h) fun v15 h =>
    B.pick v9 v15 (.bool false) fun v16 =>
    B.al c2 (B.gd h v16 true (fun K => K .undef h) fun _ h =>
    B.gd h v16 true (fun K => B.pv (V.field1 2 c2) fun v => K v h) fun v19 h =>
    B.al c3 (B.gd h v16 true (fun K => K .undef h) fun _ h =>
    B.gd h v16 true (fun K => B.pv (V.field1 2 c3) fun v => K v h) fun v21 h =>
    B.gd h v16 true (fun K => B.pv (V.bin .eql v19 v21) fun v => K v h) fun v22 h =>
    B.pick v16 v22 (.bool false) fun v23 =>
    B.al c2 (B.gd h v23 true (fun K => K .undef h) fun _ h =>
    B.gd h v23 true (fun K => B.pv (V.field1 3 c2) fun v => K v h) fun v26 h =>
    B.al c3 (B.gd h v23 true (fun K => K .undef h) fun _ h =>
    B.gd h v23 true (fun K => B.pv (V.field1 3 c3) fun v => K v h) fun v28 h =>
    B.gd h v23 true (fun K => B.pv (V.bin .eql v26 v28) fun v => K v h) fun v29 h =>
    B.pick v23 v29 (.bool false) fun v30 =>
    B.al c2 (B.gd h v30 true (fun K => K .undef h) fun _ h =>
    B.gd h v30 true (fun K => B.pv (V.field1 4 c2) fun v => K v h) fun v33 h =>
    B.al c3 (B.gd h v30 true (fun K => K .undef h) fun _ h =>
    B.gd h v30 true (fun K => B.pv (V.field1 4 c3) fun v => K v h) fun v35 h =>
    B.gd h v30 true (fun K => B.pv (V.bin .eql v33 v35) fun v => K v h) fun v36 h =>
    B.pick v30 v36 (.bool false) fun v37 =>
    B.al c2 (B.gd h v37 true (fun K => K .undef h) fun _ h =>
    B.gd h v37 true (fun K => B.pv (V.field1 5 c2) fun v => K v h) fun v40 h =>
    B.al c3 (B.gd h v37 true (fun K => K .undef h) fun _ h =>
    B.gd h v37 true (fun K => B.pv (V.field1 5 c3) fun v => K v h) fun v42 h =>
    B.gd h v37 true (fun K => B.call C (N 74) [v40, v42] h K) fun v43 h =>
    B.pick v37 v43 (.bool false) fun v44 =>
    B.al c2 (B.gd h v44 true (fun K => K .undef h) fun _ h =>
    B.gd h v44 true (fun K => B.pv (V.field1 6 c2) fun v => K v h) fun v47 h =>
    B.al c3 (B.gd h v44 true (fun K => K .undef h) fun _ h =>
    B.gd h v44 true (fun K => B.pv (V.field1 6 c3) fun v => K v h) fun v49 h =>
    B.gd h v44 true (fun K => B.call C (N 75) [v47, v49] h K) fun v50 h =>
    B.pick v44 v50 (.bool false) fun v51 =>
    Q v51 h))))))))))))))
/-- storeman/storemankit.SameTell -/
@[simp] def kit_SameTell.cps (C : CSem) (N : Nat → Nat) (v0 v1 : AVal) (h : AHeap) (Q : AVal → AHeap → Prop) : Prop :=
  kit_SameTell.k1 C N Q v0 v1 h
def kit_SameTell.Imp (C : CSem) (N : Nat → Nat) : Prop := ∀ (v0 v1 : AVal) (h : AHeap) (Q : AVal → AHeap → Prop), kit_SameTell.cps C N v0 v1 h (dn Q) → C (N 42) [v0, v1] h Q
@[simp] def kit_ApartTells.k1 (C : CSem) (N : Nat → Nat) (Q : AVal → AHeap → Prop) (Y1 : List AVal → AHeap → Prop) (v0 v3 v4 : AVal) (h : AHeap) : Prop :=
  B.pv (V.lenSl v0) fun v9 =>
    B.pv (V.bin .lss v4 v9) fun v10 =>
    B.cond v10
    (B.pv (V.idxS 1 v0 v4) fun v16 =>
    B.ld h v16 fun v17 =>
    B.call C (N 76) [v3, v17] h fun v18 h =>
    B.pv (V.bin .add v4 (.int .i64 1)) fun v12 =>
    Y1 [v12] h)
    (B.call C (N 62) [v3] h fun v20 h =>
    Q v20 h)
@[simp] def kit_ApartTells.l2 (C : CSem) (N : Nat → Nat) (Q : AVal → AHeap → Prop) (v0 v3 : AVal) : List AVal → AHeap → (List AVal → AHeap → Prop) → Prop
  | [v4], h, Y1 => kit_ApartTells.k1 C N Q Y1 v0 v3 v4 h
  | _, _, _ => False
@[simp] def kit_ApartTells.k3 (C : CSem) (N : Nat → Nat) (Q : AVal → AHeap → Prop) (v0 : AVal) (h : AHeap) : Prop :=
  B.pv (A.bld [] [.nils, .nils, .nils, .nils, .nils, .nils, .nils, .nils, .nils, .nils, .nils, .nils, .nils, .nils, .nils, .nils, .nils, .nils, .nils, .nils, .nils, .nils, .nils]) fun v5 =>
    B.newO h (A.cellsN 23 v5) fun i6 h =>
    LoopR (kit_ApartTells.l2 C N Q v0 (.ptr i6 0 0)) [(.int .i64 0)] h
/-- storeman/storemankit.ApartTells -/
@[simp] def kit_ApartTells.cps (C : CSem) (N : Nat → Nat) (v0 : AVal) (h : AHeap) (Q : AVal → AHeap → Prop) : Prop :=
  kit_ApartTells.k3 C N Q v0 h
def kit_ApartTells.Imp (C : CSem) (N : Nat → Nat) : Prop := ∀ (v0 : AVal) (h : AHeap) (Q : AVal → AHeap → Prop), kit_ApartTells.cps C N v0 h (dn Q) → C (N 43) [v0] h Q
/-- storeman/storemankit.CopyBytes -/
@[simp] def kit_CopyBytes.cps (C : CSem) (N : Nat → Nat) (v0 : AVal) (h : AHeap) (Q : AVal → AHeap → Prop) : Prop :=
  B.appW h 1 1 .nils v0 fun v6 h =>
    Q v6 h
def kit_CopyBytes.Imp (C : CSem) (N : Nat → Nat) : Prop := ∀ (v0 : AVal) (h : AHeap) (Q : AVal → AHeap → Prop), kit_CopyBytes.cps C N v0 h (dn Q) → C (N 45) [v0] h Q
@[simp] def kit_LentLots.k3 (C : CSem) (N : Nat → Nat) (Q : AVal → AHeap → Prop) (v0 : AVal) (h : AHeap) : Prop :=
  B.pv (V.lenSl v0) fun v6 =>
    B.pv (V.bin .add v6 (.int .i64 12)) fun v7 =>
    0 < 6 ∧ B.mks h 56 (some [.int .i64 0, .str [], .int .i64 0, .int .i64 0, .int .i64 0, .bool false]) (.int .i64 0) v7 fun v8 h =>
    B.appW h 6 56 v8 v0 fun v11 h =>
    LoopR (lentG.l4 C 6 56 (N 77) [.int .i64 0, .str [], .int .i64 0, .int .i64 0, .int .i64 0, .bool false] 1 Q v0) [v11, (.int .i64 0)] h
/-- storeman/storemankit.LentLots -/
def kit_LentLots.cps (C : CSem) (N : Nat → Nat) (v0 : AVal) (h : AHeap) (Q : AVal → AHeap → Prop) : Prop :=
  kit_LentLots.k3 C N Q v0 h
def kit_LentLots.Imp (C : CSem) (N : Nat → Nat) : Prop := ∀ (v0 : AVal) (h : AHeap) (Q : AVal → AHeap → Prop), kit_LentLots.cps C N v0 h (dn Q) → C (N 48) [v0] h Q
@[simp] def kit_LentUses.k3 (C : CSem) (N : Nat → Nat) (Q : AVal → AHeap → Prop) (v0 : AVal) (h : AHeap) : Prop :=
  B.pv (V.lenSl v0) fun v6 =>
    B.pv (V.bin .add v6 (.int .i64 12)) fun v7 =>
    0 < 3 ∧ B.mks h 24 (some [.int .i64 0, .int .i64 0, .int .i64 0]) (.int .i64 0) v7 fun v8 h =>
    B.appW h 3 24 v8 v0 fun v11 h =>
    LoopR (lentG.l4 C 3 24 (N 78) [.int .i64 0, .int .i64 0, .int .i64 0] 1 Q v0) [v11, (.int .i64 0)] h
/-- storeman/storemankit.LentUses -/
def kit_LentUses.cps (C : CSem) (N : Nat → Nat) (v0 : AVal) (h : AHeap) (Q : AVal → AHeap → Prop) : Prop :=
  kit_LentUses.k3 C N Q v0 h
def kit_LentUses.Imp (C : CSem) (N : Nat → Nat) : Prop := ∀ (v0 : AVal) (h : AHeap) (Q : AVal → AHeap → Prop), kit_LentUses.cps C N v0 h (dn Q) → C (N 49) [v0] h Q
@[simp] def kit_KeptLots.k3 (C : CSem) (N : Nat → Nat) (Q : AVal → AHeap → Prop) (v0 v1 : AVal) (h : AHeap) : Prop :=
  B.pv (V.lenSl v1) fun v14 =>
    B.pv (V.bin .add v14 (.int .i64 12)) fun v15 =>
    B.pv (V.cutSl 6 v0 none (some v15)) fun v16 =>
    LoopR (keptG.l4 C 6 (N 77) [.i .i64, .s, .i .i64, .i .i64, .i .i64, .b] 1 Q v1 v16) [(.int .i64 0)] h
@[simp] def kit_KeptLots.k4 (C : CSem) (N : Nat → Nat) (Q : AVal → AHeap → Prop) (v0 v1 : AVal) (h : AHeap) : Prop :=
  B.pv (V.lenSl v0) fun v8 =>
    B.pv (V.lenSl v1) fun v10 =>
    B.pv (V.bin .neq v8 v10) fun v11 =>
    B.cond v11
    (Q (.bool false) h)
    (kit_KeptLots.k3 C N Q v0 v1 h)
/-- storeman/storemankit.KeptLots -/
def kit_KeptLots.cps (C : CSem) (N : Nat → Nat) (v0 v1 : AVal) (h : AHeap) (Q : AVal → AHeap → Prop) : Prop :=
  kit_KeptLots.k4 C N Q v0 v1 h
def kit_KeptLots.Imp (C : CSem) (N : Nat → Nat) : Prop := ∀ (v0 v1 : AVal) (h : AHeap) (Q : AVal → AHeap → Prop), kit_KeptLots.cps C N v0 v1 h (dn Q) → C (N 54) [v0, v1] h Q
@[simp] def kit_KeptUses.k3 (C : CSem) (N : Nat → Nat) (Q : AVal → AHeap → Prop) (v0 v1 : AVal) (h : AHeap) : Prop :=
  B.pv (V.lenSl v1) fun v14 =>
    B.pv (V.bin .add v14 (.int .i64 12)) fun v15 =>
    B.pv (V.cutSl 3 v0 none (some v15)) fun v16 =>
    LoopR (keptG.l4 C 3 (N 78) [.i .i64, .i .i64, .i .i64] 1 Q v1 v16) [(.int .i64 0)] h
@[simp] def kit_KeptUses.k4 (C : CSem) (N : Nat → Nat) (Q : AVal → AHeap → Prop) (v0 v1 : AVal) (h : AHeap) : Prop :=
  B.pv (V.lenSl v0) fun v8 =>
    B.pv (V.lenSl v1) fun v10 =>
    B.pv (V.bin .neq v8 v10) fun v11 =>
    B.cond v11
    (Q (.bool false) h)
    (kit_KeptUses.k3 C N Q v0 v1 h)
/-- storeman/storemankit.KeptUses -/
def kit_KeptUses.cps (C : CSem) (N : Nat → Nat) (v0 v1 : AVal) (h : AHeap) (Q : AVal → AHeap → Prop) : Prop :=
  kit_KeptUses.k4 C N Q v0 v1 h
def kit_KeptUses.Imp (C : CSem) (N : Nat → Nat) : Prop := ∀ (v0 v1 : AVal) (h : AHeap) (Q : AVal → AHeap → Prop), kit_KeptUses.cps C N v0 v1 h (dn Q) → C (N 55) [v0, v1] h Q
@[simp] def kit_OverLots.k3 (C : CSem) (N : Nat → Nat) (Q : AVal → AHeap → Prop) (v0 : AVal) (h : AHeap) : Prop :=
  B.pv (V.lenSl v0) fun v6 =>
    B.pv (V.bin .add v6 (.int .i64 12)) fun v7 =>
    B.pv (V.cutSl 6 v0 none (some v7)) fun v8 =>
    LoopR (overG.l3 C 6 (N 77) (fun h p v K => B.stn h p 6 v K) 2 Q v8) [(.int .i64 0)] h
/-- storeman/storemankit.OverLots -/
def kit_OverLots.cps (C : CSem) (N : Nat → Nat) (v0 : AVal) (h : AHeap) (Q : AVal → AHeap → Prop) : Prop :=
  kit_OverLots.k3 C N Q v0 h
def kit_OverLots.Imp (C : CSem) (N : Nat → Nat) : Prop := ∀ (v0 : AVal) (h : AHeap) (Q : AVal → AHeap → Prop), kit_OverLots.cps C N v0 h (dn Q) → C (N 56) [v0] h Q
@[simp] def kit_OverUses.k3 (C : CSem) (N : Nat → Nat) (Q : AVal → AHeap → Prop) (v0 : AVal) (h : AHeap) : Prop :=
  B.pv (V.lenSl v0) fun v6 =>
    B.pv (V.bin .add v6 (.int .i64 12)) fun v7 =>
    B.pv (V.cutSl 3 v0 none (some v7)) fun v8 =>
    LoopR (overG.l3 C 3 (N 78) (fun h p v K => B.stn h p 3 v K) 2 Q v8) [(.int .i64 0)] h
/-- storeman/storemankit.OverUses -/
def kit_OverUses.cps (C : CSem) (N : Nat → Nat) (v0 : AVal) (h : AHeap) (Q : AVal → AHeap → Prop) : Prop :=
  kit_OverUses.k3 C N Q v0 h
def kit_OverUses.Imp (C : CSem) (N : Nat → Nat) : Prop := ∀ (v0 : AVal) (h : AHeap) (Q : AVal → AHeap → Prop), kit_OverUses.cps C N v0 h (dn Q) → C (N 57) [v0] h Q
@[simp] def kit_bag_apart.k1 (C : CSem) (N : Nat → Nat) (Q : AVal → AHeap → Prop) (v0 : AVal) (h : AHeap) : Prop :=
  B.nilCheck v0 fun v4 =>
    B.pv (V.fieldAddr 0 v4) fun v5 =>
    B.ld h v5 fun v6 =>
    B.call C (N 80) [v6] h fun v7 h =>
    B.gd h v7 true (fun K => K v0 h) fun v9 h =>
    B.gd h v7 true (fun K => B.nilCheck v9 fun v => K v h) fun v10 h =>
    B.gd h v7 true (fun K => B.pv (V.fieldAddr 1 v10) fun v => K v h) fun v11 h =>
    B.gd h v7 true (fun K => B.ld h v11 fun v => K v h) fun v12 h =>
    B.gd h v7 true (fun K => B.call C (N 81) [v12] h K) fun v13 h =>
    B.pick v7 v13 (.bool false) fun v14 =>
    B.gd h v14 true (fun K => K v0 h) fun v16 h =>
    B.gd h v14 true (fun K => B.nilCheck v16 fun v => K v h) fun v17 h =>
    B.gd h v14 true (fun K => B.pv (V.fieldAddr 2 v17) fun v => K v h) fun v18 h =>
    B.gd h v14 true (fun K => B.ld h v18 fun v => K v h) fun v19 h =>
    B.gd h v14 true (fun K => B.call C (N 82) [v19] h K) fun v20 h =>
    B.pick v14 v20 (.bool false) fun v21 =>
    B.gd h v21 true (fun K => K v0 h) fun v23 h =>
    B.gd h v21 true (fun K => B.nilCheck v23 fun v => K v h) fun v24 h =>
    B.gd h v21 true (fun K => B.pv (V.fieldAddr 3 v24) fun v => K v h) fun v25 h =>
    B.gd h v21 true (fun K => B.ld h v25 fun v => K v h) fun v26 h =>
    B.gd h v21 true (fun K => B.call C (N 83) [v26] h K) fun v27 h =>
    B.pick v21 v27 (.bool false) fun v28 =>
    B.gd h v28 true (fun K => K v0 h) fun v30 h =>
    B.gd h v28 true (fun K => B.nilCheck v30 fun v => K v h) fun v31 h =>
    B.gd h v28 true (fun K => B.pv (V.fieldAddr 4 v31) fun v => K v h) fun v32 h =>
    B.gd h v28 true (fun K => B.ld h v32 fun v => K v h) fun v33 h =>
    B.gd h v28 true (fun K => B.call C (N 84) [v33] h K) fun v34 h =>
    B.pick v28 v34 (.bool false) fun v35 =>
    B.gd h v35 true (fun K => K v0 h) fun v37 h =>
    B.gd h v35 true (fun K => B.nilCheck v37 fun v => K v h) fun v38 h =>
    B.gd h v35 true (fun K => B.pv (V.fieldAddr 5 v38) fun v => K v h) fun v39 h =>
    B.gd h v35 true (fun K => B.ld h v39 fun v => K v h) fun v40 h =>
    B.gd h v35 true (fun K => B.call C (N 85) [v40] h K) fun v41 h =>
    B.pick v35 v41 (.bool false) fun v42 =>
    B.gd h v42 true (fun K => K v0 h) fun v44 h =>
    B.gd h v42 true (fun K => B.nilCheck v44 fun v => K v h) fun v45 h =>
    B.gd h v42 true (fun K => B.pv (V.fieldAddr 6 v45) fun v => K v h) fun v46 h =>
    B.gd h v42 true (fun K => B.ld h v46 fun v => K v h) fun v47 h =>
    B.gd h v42 true (fun K => B.call C (N 86) [v47] h K) fun v48 h =>
    B.pick v42 v48 (.bool false) fun v49 =>
    B.gd h v49 true (fun K => K v0 h) fun v51 h =>
    B.gd h v49 true (fun K => B.nilCheck v51 fun v => K v h) fun v52 h =>
    B.gd h v49 true (fun K => B.pv (V.fieldAddr 7 v52) fun v => K v h) fun v53 h =>
    B.gd h v49 true (fun K => B.ld h v53 fun v => K v h) fun v54 h =>
    B.gd h v49 true (fun K => B.call C (N 87) [v54] h K) fun v55 h =>
    B.pick v49 v55 (.bool false) fun v56 =>
    B.gd h v56 true (fun K => K v0 h) fun v58 h =>
    B.gd h v56 true (fun K => B.nilCheck v58 fun v => K v h) fun v59 h =>
    B.gd h v56 true (fun K => B.pv (V.fieldAddr 8 v59) fun v => K v h) fun v60 h =>
    B.gd h v56 true (fun K => B.ld h v60 fun v => K v h) fun v61 h =>
    B.gd h v56 true (fun K => B.call C (N 88) [v61] h K) fun v62 h =>
    B.pick v56 v62 (.bool false) fun v63 =>
    B.gd h v63 true (fun K => K v0 h) fun v65 h =>
    B.gd h v63 true (fun K => B.nilCheck v65 fun v => K v h) fun v66 h =>
    B.gd h v63 true (fun K => B.pv (V.fieldAddr 9 v66) fun v => K v h) fun v67 h =>
    B.gd h v63 true (fun K => B.ld h v67 fun v => K v h) fun v68 h =>
    B.gd h v63 true (fun K => B.call C (N 89) [v68] h K) fun v69 h =>
    B.pick v63 v69 (.bool false) fun v70 =>
    B.gd h v70 true (fun K => K v0 h) fun v72 h =>
    B.gd h v70 true (fun K => B.nilCheck v72 fun v => K v h) fun v73 h =>
    B.gd h v70 true (fun K => B.pv (V.fieldAddr 10 v73) fun v => K v h) fun v74 h =>
    B.gd h v70 true (fun K => B.ld h v74 fun v => K v h) fun v75 h =>
    B.gd h v70 true (fun K => B.call C (N 90) [v75] h K) fun v76 h =>
    B.pick v70 v76 (.bool false) fun v77 =>
    B.gd h v77 true (fun K => K v0 h) fun v79 h =>
    B.gd h v77 true (fun K => B.nilCheck v79 fun v => K v h) fun v80 h =>
    B.gd h v77 true (fun K => B.pv (V.fieldAddr 11 v80) fun v => K v h) fun v81 h =>
    B.gd h v77 true (fun K => B.ld h v81 fun v => K v h) fun v82 h =>
    B.gd h v77 true (fun K => B.call C (N 91) [v82] h K) fun v83 h =>
    B.pick v77 v83 (.bool false) fun v84 =>
    B.gd h v84 true (fun K => K v0 h) fun v86 h =>
    B.gd h v84 true (fun K => B.nilCheck v86 fun v => K v h) fun v87 h =>
    B.gd h v84 true (fun K => B.pv (V.fieldAddr 12 v87) fun v => K v h) fun v88 h =>
    B.gd h v84 true (fun K => B.ld h v88 fun v => K v h) fun v89 h =>
    B.gd h v84 true (fun K => B.call C (N 92) [v89] h K) fun v90 h =>
    B.pick v84 v90 (.bool false) fun v91 =>
    B.gd h v91 true (fun K => K v0 h) fun v93 h =>
    B.gd h v91 true (fun K => B.nilCheck v93 fun v => K v h) fun v94 h =>
    B.gd h v91 true (fun K => B.pv (V.fieldAddr 13 v94) fun v => K v h) fun v95 h =>
    B.gd h v91 true (fun K => B.ld h v95 fun v => K v h) fun v96 h =>
    B.gd h v91 true (fun K => B.call C (N 93) [v96] h K) fun v97 h =>
    B.pick v91 v97 (.bool false) fun v98 =>
    B.gd h v98 true (fun K => K v0 h) fun v100 h =>
    B.gd h v98 true (fun K => B.nilCheck v100 fun v => K v h) fun v101 h =>
    B.gd h v98 true (fun K => B.pv (V.fieldAddr 14 v101) fun v => K v h) fun v102 h =>
    B.gd h v98 true (fun K => B.ld h v102 fun v => K v h) fun v103 h =>
    B.gd h v98 true (fun K => B.call C (N 94) [v103] h K) fun v104 h =>
    B.pick v98 v104 (.bool false) fun v105 =>
    B.gd h v105 true (fun K => K v0 h) fun v107 h =>
    B.gd h v105 true (fun K => B.nilCheck v107 fun v => K v h) fun v108 h =>
    B.gd h v105 true (fun K => B.pv (V.fieldAddr 15 v108) fun v => K v h) fun v109 h =>
    B.gd h v105 true (fun K => B.ld h v109 fun v => K v h) fun v110 h =>
    B.gd h v105 true (fun K => B.call C (N 95) [v110] h K) fun v111 h =>
    B.pick v105 v111 (.bool false) fun v112 =>
    B.gd h v112 true (fun K => K v0 h) fun v114 h =>
    B.gd h v112 true (fun K => B.nilCheck v114 fun v => K v h) fun v115 h =>
    B.gd h v112 true (fun K => B.pv (V.fieldAddr 16 v115) fun v => K v h) fun v116 h =>
    B.gd h v112 true (fun K => B.ld h v116 fun v => K v h) fun v117 h =>
    B.gd h v112 true (fun K => B.call C (N 96) [v117] h K) fun v118 h =>
    B.pick v112 v118 (.bool false) fun v119 =>
    B.gd h v119 true (fun K => K v0 h) fun v121 h =>
    B.gd h v119 true (fun K => B.nilCheck v121 fun v => K v h) fun v122 h =>
    B.gd h v119 true (fun K => B.pv (V.fieldAddr 17 v122) fun v => K v h) fun v123 h =>
    B.gd h v119 true (fun K => B.ld h v123 fun v => K v h) fun v124 h =>
    B.gd h v119 true (fun K => B.call C (N 97) [v124] h K) fun v125 h =>
    B.pick v119 v125 (.bool false) fun v126 =>
    B.gd h v126 true (fun K => K v0 h) fun v128 h =>
    B.gd h v126 true (fun K => B.nilCheck v128 fun v => K v h) fun v129 h =>
    B.gd h v126 true (fun K => B.pv (V.fieldAddr 18 v129) fun v => K v h) fun v130 h =>
    B.gd h v126 true (fun K => B.ld h v130 fun v => K v h) fun v131 h =>
    B.gd h v126 true (fun K => B.call C (N 98) [v131] h K) fun v132 h =>
    B.pick v126 v132 (.bool false) fun v133 =>
    B.gd h v133 true (fun K => K v0 h) fun v135 h =>
    B.gd h v133 true (fun K => B.nilCheck v135 fun v => K v h) fun v136 h =>
    B.gd h v133 true (fun K => B.pv (V.fieldAddr 19 v136) fun v => K v h) fun v137 h =>
    B.gd h v133 true (fun K => B.ld h v137 fun v => K v h) fun v138 h =>
    B.gd h v133 true (fun K => B.call C (N 99) [v138] h K) fun v139 h =>
    B.pick v133 v139 (.bool false) fun v140 =>
    B.gd h v140 true (fun K => K v0 h) fun v142 h =>
    B.gd h v140 true (fun K => B.nilCheck v142 fun v => K v h) fun v143 h =>
    B.gd h v140 true (fun K => B.pv (V.fieldAddr 20 v143) fun v => K v h) fun v144 h =>
    B.gd h v140 true (fun K => B.ld h v144 fun v => K v h) fun v145 h =>
    B.gd h v140 true (fun K => B.call C (N 100) [v145] h K) fun v146 h =>
    B.pick v140 v146 (.bool false) fun v147 =>
    B.gd h v147 true (fun K => K v0 h) fun v149 h =>
    B.gd h v147 true (fun K => B.nilCheck v149 fun v => K v h) fun v150 h =>
    B.gd h v147 true (fun K => B.pv (V.fieldAddr 21 v150) fun v => K v h) fun v151 h =>
    B.gd h v147 true (fun K => B.ld h v151 fun v => K v h) fun v152 h =>
    B.gd h v147 true (fun K => B.call C (N 101) [v152] h K) fun v153 h =>
    B.pick v147 v153 (.bool false) fun v154 =>
    B.gd h v154 true (fun K => K v0 h) fun v156 h =>
    B.gd h v154 true (fun K => B.nilCheck v156 fun v => K v h) fun v157 h =>
    B.gd h v154 true (fun K => B.pv (V.fieldAddr 22 v157) fun v => K v h) fun v158 h =>
    B.gd h v154 true (fun K => B.ld h v158 fun v => K v h) fun v159 h =>
    B.gd h v154 true (fun K => B.call C (N 102) [v159] h K) fun v160 h =>
    B.pick v154 v160 (.bool false) fun v161 =>
    Q v161 h
/-- (ptr storeman/storemankit.bag).apart -/
@[simp] def kit_bag_apart.cps (C : CSem) (N : Nat → Nat) (v0 : AVal) (h : AHeap) (Q : AVal → AHeap → Prop) : Prop :=
  kit_bag_apart.k1 C N Q v0 h
def kit_bag_apart.Imp (C : CSem) (N : Nat → Nat) : Prop := ∀ (v0 : AVal) (h : AHeap) (Q : AVal → AHeap → Prop), kit_bag_apart.cps C N v0 h (dn Q) → C (N 62) [v0] h Q
@[simp] def kit_bag_putBytes.k1 (C : CSem) (N : Nat → Nat) (Q : AVal → AHeap → Prop) (v0 v1 : AVal) (h : AHeap) : Prop :=
  B.nilCheck v0 fun v6 =>
    B.pv (V.fieldAddr 4 v6) fun v7 =>
    B.ld h v7 fun v8 =>
    B.newO h (fillL [(0, none, v1)] (repL 1 [.nils])) fun i10 h =>
    B.appW h 1 24 v8 (.sl i10 0 0 1 1 1) fun v11 h =>
    B.nilCheck v0 fun v12 =>
    B.pv (V.fieldAddr 4 v12) fun v13 =>
    B.st h v13 v11 fun h =>
    Q (.tup []) h
/-- (ptr storeman/storemankit.bag).putBytes -/
@[simp] def kit_bag_putBytes.cps (C : CSem) (N : Nat → Nat) (v0 v1 : AVal) (h : AHeap) (Q : AVal → AHeap → Prop) : Prop :=
  kit_bag_putBytes.k1 C N Q v0 v1 h
def kit_bag_putBytes.Imp (C : CSem) (N : Nat → Nat) : Prop := ∀ (v0 v1 : AVal) (h : AHeap) (Q : AVal → AHeap → Prop), kit_bag_putBytes.cps C N v0 v1 h (dn Q) → C (N 63) [v0, v1] h Q
@[simp] def kit_markByte.k1 (C : CSem) (N : Nat → Nat) (Q : AVal → AHeap → Prop) (v0 v1 : AVal) (h : AHeap) : Prop :=
  B.call C (N 20) [v0, v1] h fun v7 h =>
    B.pv (V.toInt .u64 v7) fun v8 =>
    B.pv (V.bin .mul v8 (.int .u64 11400714819323198485)) fun v9 =>
    B.pv (V.bin .shr v9 (.int .u64 56)) fun v10 =>
    B.pv (V.toInt .u8 v10) fun v11 =>
    Q v11 h
/-- storeman/storemankit.markByte -/
@[simp] def kit_markByte.cps (C : CSem) (N : Nat → Nat) (v0 v1 : AVal) (h : AHeap) (Q : AVal → AHeap → Prop) : Prop :=
  kit_markByte.k1 C N Q v0 v1 h
def kit_markByte.Imp (C : CSem) (N : Nat → Nat) : Prop := ∀ (v0 v1 : AVal) (h : AHeap) (Q : AVal → AHeap → Prop), kit_markByte.cps C N v0 v1 h (dn Q) → C (N 64) [v0, v1] h Q
@[simp] def kit_SameLots.k3 (C : CSem) (N : Nat → Nat) (Q : AVal → AHeap → Prop) (v0 v1 : AVal) (h : AHeap) : Prop :=
  B.pv (V.lenSl v0) fun v7 =>
    B.pv (V.lenSl v1) fun v9 =>
    B.pv (V.bin .neq v7 v9) fun v10 =>
    B.cond v10
    (Q (.bool false) h)
    (LoopR (sameG.l4 6 [.i .i64, .s, .i .i64, .i .i64, .i .i64, .b] Q v0 v1) [(.int .i64 0)] h)
/-- storeman/storemankit.SameLots -/
def kit_SameLots.cps (C : CSem) (N : Nat → Nat) (v0 v1 : AVal) (h : AHeap) (Q : AVal → AHeap → Prop) : Prop :=
  kit_SameLots.k3 C N Q v0 v1 h
def kit_SameLots.Imp (C : CSem) (N : Nat → Nat) : Prop := ∀ (v0 v1 : AVal) (h : AHeap) (Q : AVal → AHeap → Prop), kit_SameLots.cps C N v0 v1 h (dn Q) → C (N 74) [v0, v1] h Q
@[simp] def kit_SameUses.k3 (C : CSem) (N : Nat → Nat) (Q : AVal → AHeap → Prop) (v0 v1 : AVal) (h : AHeap) : Prop :=
  B.pv (V.lenSl v0) fun v7 =>
    B.pv (V.lenSl v1) fun v9 =>
    B.pv (V.bin .neq v7 v9) fun v10 =>
    B.cond v10
    (Q (.bool false) h)
    (LoopR (sameG.l4 3 [.i .i64, .i .i64, .i .i64] Q v0 v1) [(.int .i64 0)] h)
/-- storeman/storemankit.SameUses -/
def kit_SameUses.cps (C : CSem) (N : Nat → Nat) (v0 v1 : AVal) (h : AHeap) (Q : AVal → AHeap → Prop) : Prop :=
  kit_SameUses.k3 C N Q v0 v1 h
def kit_SameUses.Imp (C : CSem) (N : Nat → Nat) : Prop := ∀ (v0 v1 : AVal) (h : AHeap) (Q : AVal → AHeap → Prop), kit_SameUses.cps C N v0 v1 h (dn Q) → C (N 75) [v0, v1] h Q
@[simp] def kit_bag_putTells.k1 (C : CSem) (N : Nat → Nat) (Q : AVal → AHeap → Prop) (Y1 : List AVal → AHeap → Prop) (v0 v1 v4 : AVal) (h : AHeap) : Prop :=
  B.pv (V.lenSl v1) fun v17 =>
    B.pv (V.bin .lss v4 v17) fun v18 =>
    B.cond v18
    (B.pv (V.idxS 7 v1 v4) fun v24 =>
    B.ldn h v24 7 fun v25 =>
    B.call C (N 105) [v0, v25] h fun v26 h =>
    B.pv (V.bin .add v4 (.int .i64 1)) fun v20 =>
    Y1 [v20] h)
    (Q (.tup []) h)
@[simp] def kit_bag_putTells.l2 (C : CSem) (N : Nat → Nat) (Q : AVal → AHeap → Prop) (v0 v1 : AVal) : List AVal → AHeap → (List AVal → AHeap → Prop) → Prop
  | [v4], h, Y1 => kit_bag_putTells.k1 C N Q Y1 v0 v1 v4 h
  | _, _, _ => False
@[simp] def kit_bag_putTells.k3 (C : CSem) (N : Nat → Nat) (Q : AVal → AHeap → Prop) (v0 v1 : AVal) (h : AHeap) : Prop :=
  B.nilCheck v0 fun v7 =>
    B.pv (V.fieldAddr 13 v7) fun v8 =>
    B.ld h v8 fun v9 =>
    B.newO h (fillL [(0, none, v1)] (repL 1 [.nils])) fun i11 h =>
    B.appW h 1 24 v9 (.sl i11 0 0 1 1 1) fun v12 h =>
    B.nilCheck v0 fun v13 =>
    B.pv (V.fieldAddr 13 v13) fun v14 =>
    B.st h v14 v12 fun h =>
    LoopR (kit_bag_putTells.l2 C N Q v0 v1) [(.int .i64 0)] h
/-- (ptr storeman/storemankit.bag).putTells -/
@[simp] def kit_bag_putTells.cps (C : CSem) (N : Nat → Nat) (v0 v1 : AVal) (h : AHeap) (Q : AVal → AHeap → Prop) : Prop :=
  kit_bag_putTells.k3 C N Q v0 v1 h
def kit_bag_putTells.Imp (C : CSem) (N : Nat → Nat) : Prop := ∀ (v0 v1 : AVal) (h : AHeap) (Q : AVal → AHeap → Prop), kit_bag_putTells.cps C N v0 v1 h (dn Q) → C (N 76) [v0, v1] h Q
@[simp] def kit_markLot.k1 (C : CSem) (N : Nat → Nat) (Q : AVal → AHeap → Prop) (v0 v1 : AVal) (h : AHeap) : Prop :=
  B.call C (N 20) [v0, v1] h fun v7 h =>
    B.pv (A.bld [(0, none, v7)] [.int .i64 0, .str [], .int .i64 0, .int .i64 0, .int .i64 0, .bool false]) fun v8 =>
    B.pv (V.setN 0 6 v8 (.agg [.int .i64 0, .str [], .int .i64 0, .int .i64 0, .int .i64 0, .bool false])) fun c4 =>
    B.pv (oneOf (joinV (V.fieldN 0 6 c4) (some []))) fun v => Q v h
/-- storeman/storemankit.markLot -/
@[simp] def kit_markLot.cps (C : CSem) (N : Nat → Nat) (v0 v1 : AVal) (h : AHeap) (Q : AVal → AHeap → Prop) : Prop :=
  kit_markLot.k1 C N Q v0 v1 h
def kit_markLot.Imp (C : CSem) (N : Nat → Nat) : Prop := ∀ (v0 v1 : AVal) (h : AHeap) (Q : AVal → AHeap → Prop), kit_markLot.cps C N v0 v1 h (dn Q) → C (N 77) [v0, v1] h Q
@[simp] def kit_markUse.k1 (C : CSem) (N : Nat → Nat) (Q : AVal → AHeap → Prop) (v0 v1 : AVal) (h : AHeap) : Prop :=
  B.call C (N 20) [v0, v1] h fun v7 h =>
    B.pv (A.bld [(1, none, v7)] [.int .i64 0, .int .i64 0, .int .i64 0]) fun v8 =>
    B.pv (V.setN 0 3 v8 (.agg [.int .i64 0, .int .i64 0, .int .i64 0])) fun c4 =>
    B.pv (oneOf (joinV (V.fieldN 0 3 c4) (some []))) fun v => Q v h
/-- storeman/storemankit.markUse -/
@[simp] def kit_markUse.cps (C : CSem) (N : Nat → Nat) (v0 v1 : AVal) (h : AHeap) (Q : AVal → AHeap → Prop) : Prop :=
  kit_markUse.k1 C N Q v0 v1 h
def kit_markUse.Imp (C : CSem) (N : Nat → Nat) : Prop := ∀ (v0 v1 : AVal) (h : AHeap) (Q : AVal → AHeap → Prop), kit_markUse.cps C N v0 v1 h (dn Q) → C (N 78) [v0, v1] h Q
@[simp] def kit_flatWords.k1 (C : CSem) (N : Nat → Nat) (Q : AVal → AHeap → Prop) (Y1 : List AVal → AHeap → Prop) (Y2 : List AVal → AHeap → Prop) (v0 v5 v14 v15 : AVal) (h : AHeap) : Prop :=
  B.pv (V.idxS 1 v0 v14) fun v166 =>
    B.ld h v166 fun v167 =>
    B.pv (V.lenSl v167) fun v168 =>
    B.pv (V.bin .lss v15 v168) fun v169 =>
    B.cond v169
    (B.pv (V.idxS 1 v0 v14) fun v174 =>
    B.ld h v174 fun v175 =>
    B.pv (V.idxS 1 v175 v15) fun v177 =>
    B.ld h v177 fun v178 =>
    B.call C (N 20) [v14, v15] h (B.keepS h [(v174, none), (v177, none)] (fun v181 h => B.pv (V.toInt .u64 v181) fun v182 =>
    B.pv (V.bin .eql v178 v182) fun v183 =>
    B.pv (V.un .not v183) fun v184 =>
    B.gd h v184 false (fun K => K v5 h) fun v186 h =>
    B.gd h v184 false (fun K => K v14 h) fun v187 h =>
    B.gd h v184 false (fun K => B.pv (V.idxS 1 v186 v187) fun v => K v h) fun v188 h =>
    B.gd h v184 false (fun K => B.ld h v188 fun v => K v h) fun v189 h =>
    B.gd h v184 false (fun K => K v15 h) fun v190 h =>
    B.gd h v184 false (fun K => B.pv (V.idxS 1 v189 v190) fun v => K v h) fun v191 h =>
    B.gd h v184 false (fun K => B.ld h v191 fun v => K v h) fun v192 h =>
    B.gd h v184 false (fun K => K v14 h) fun v193 h =>
    B.gd h v184 false (fun K => K v15 h) fun v194 h =>
    B.gd h v184 false (fun K => B.call C (N 20) [v193, v194] h (B.keepS h [(v188, none), (v191, none)] K)) fun v195 h =>
    B.gd h v184 false (fun K => B.pv (V.toInt .u64 v195) fun v => K v h) fun v196 h =>
    B.gd h v184 false (fun K => B.pv (V.bin .eql v192 v196) fun v => K v h) fun v197 h =>
    B.gd h v184 false (fun K => B.pv (V.un .not v197) fun v => K v h) fun v198 h =>
    B.pick v184 (.bool true) v198 fun v199 =>
    B.cond v199
    (Q (.bool false) h)
    (B.pv (V.bin .add v15 (.int .i64 1)) fun v171 =>
    Y2 [v171] h))))
    (B.pv (V.bin .add v14 (.int .i64 1)) fun v162 =>
    Y1 [v162] h)
@[simp] def kit_flatWords.l2 (C : CSem) (N : Nat → Nat) (Q : AVal → AHeap → Prop) (Y1 : List AVal → AHeap → Prop) (v0 v5 v14 : AVal) : List AVal → AHeap → (List AVal → AHeap → Prop) → Prop
  | [v15], h, Y2 => kit_flatWords.k1 C N Q Y1 Y2 v0 v5 v14 v15 h
  | _, _, _ => False
@[simp] def kit_flatWords.k3 (C : CSem) (N : Nat → Nat) (Q : AVal → AHeap → Prop) (Y1 : List AVal → AHeap → Prop) (v0 v5 v14 : AVal) (h : AHeap) : Prop :=
  B.pv (V.lenSl v0) fun v159 =>
    B.pv (V.bin .lss v14 v159) fun v160 =>
    B.cond v160
    (LoopR (kit_flatWords.l2 C N Q Y1 v0 v5 v14) [(.int .i64 0)] h)
    (Q (.bool true) h)
@[simp] def kit_flatWords.l4 (C : CSem) (N : Nat → Nat) (Q : AVal → AHeap → Prop) (v0 v5 : AVal) : List AVal → AHeap → (List AVal → AHeap → Prop) → Prop
  | [v14], h, Y1 => kit_flatWords.k3 C N Q Y1 v0 v5 v14 h
  | _, _, _ => False
@[simp] def kit_flatWords.k5 (C : CSem) (N : Nat → Nat) (Q : AVal → AHeap → Prop) (Y3 : List AVal → AHeap → Prop) (v0 v5 v11 v12 : AVal) (h : AHeap) : Prop :=
  B.pv (V.idxS 1 v0 v11) fun v152 =>
    B.ld h v152 fun v153 =>
    B.appW h 1 8 v153 v12 fun v155 h =>
    B.pv (V.idxS 1 v5 v11) fun v156 =>
    B.st h v156 v155 fun h =>
    B.pv (V.bin .add v11 (.int .i64 1)) fun v132 =>
    Y3 [v132] h
@[simp] def kit_flatWords.k6 (C : CSem) (N : Nat → Nat) (Q : AVal → AHeap → Prop) (Y3 : List AVal → AHeap → Prop) (Y4 : List AVal → AHeap → Prop) (v0 v5 v11 v12 v13 : AVal) (h : AHeap) : Prop :=
  B.pv (V.bin .lss v13 (.int .i64 64)) fun v135 =>
    B.cond v135
    (B.pv (V.lenSl v0) fun v142 =>
    B.pv (V.bin .add v11 v142) fun v143 =>
    B.call C (N 20) [v143, v13] h fun v145 h =>
    B.pv (V.toInt .u64 v145) fun v146 =>
    B.pv (V.idxS 1 v12 v13) fun v147 =>
    B.st h v147 v146 fun h =>
    B.pv (V.bin .add v13 (.int .i64 1)) fun v137 =>
    Y4 [v137] h)
    (kit_flatWords.k5 C N Q Y3 v0 v5 v11 v12 h)
@[simp] def kit_flatWords.l7 (C : CSem) (N : Nat → Nat) (Q : AVal → AHeap → Prop) (Y3 : List AVal → AHeap → Prop) (v0 v5 v11 v12 : AVal) : List AVal → AHeap → (List AVal → AHeap → Prop) → Prop
  | [v13], h, Y4 => kit_flatWords.k6 C N Q Y3 Y4 v0 v5 v11 v12 v13 h
  | _, _, _ => False
@[simp] def kit_flatWords.k8 (C : CSem) (N : Nat → Nat) (Q : AVal → AHeap → Prop) (Y3 : List AVal → AHeap → Prop) (v0 v5 v11 : AVal) (h : AHeap) : Prop :=
  B.pv (V.lenSl v0) fun v129 =>
    B.pv (V.bin .lss v11 v129) fun v130 =>
    B.cond v130
    (0 < 1 ∧ B.mks h 8 (some [.int .u64 0]) (.int .i64 64) (.int .i64 64) fun v133 h =>
    LoopR (kit_flatWords.l7 C N Q Y3 v0 v5 v11 v133) [(.int .i64 0)] h)
    (LoopR (kit_flatWords.l4 C N Q v0 v5) [(.int .i64 0)] h)
@[simp] def kit_flatWords.l9 (C : CSem) (N : Nat → Nat) (Q : AVal → AHeap → Prop) (v0 v5 : AVal) : List AVal → AHeap → (List AVal → AHeap → Prop) → Prop
  | [v11], h, Y3 => kit_flatWords.k8 C N Q Y3 v0 v5 v11 h
  | _, _, _ => False
@[simp] def kit_flatWords.k10 (C : CSem) (N : Nat → Nat) (Q : AVal → AHeap → Prop) (Y5 : List AVal → AHeap → Prop) (Y6 : List AVal → AHeap → Prop) (v0 v5 v9 v10 : AVal) (h : AHeap) : Prop :=
  B.pv (V.idxS 1 v5 v9) fun v84 =>
    B.ld h v84 fun v85 =>
    B.pv (V.lenSl v85) fun v86 =>
    B.pv (V.bin .lss v10 v86) fun v87 =>
    B.cond v87
    (B.pv (V.idxS 1 v5 v9) fun v92 =>
    B.ld h v92 fun v93 =>
    B.pv (V.idxS 1 v93 v10) fun v95 =>
    B.ld h v95 fun v96 =>
    B.call C (N 20) [v9, v10] h (B.keepS h [(v92, none), (v95, none)] (fun v99 h => B.pv (V.toInt .u64 v99) fun v100 =>
    B.pv (V.bin .eql v96 v100) fun v101 =>
    B.pv (V.un .not v101) fun v102 =>
    B.gd h v102 false (fun K => K v10 h) fun v104 h =>
    B.gd h v102 false (fun K => K v0 h) fun v105 h =>
    B.gd h v102 false (fun K => K v9 h) fun v106 h =>
    B.gd h v102 false (fun K => B.pv (V.idxS 1 v105 v106) fun v => K v h) fun v107 h =>
    B.gd h v102 false (fun K => B.ld h v107 fun v => K v h) fun v108 h =>
    B.gd h v102 false (fun K => B.pv (V.lenSl v108) fun v => K v h) fun v109 h =>
    B.gd h v102 false (fun K => B.pv (V.bin .lss v104 v109) fun v => K v h) fun v110 h =>
    B.gd h v102 false (fun K => K v110 h) fun v111 h =>
    B.gd h v111 true (fun K => K v0 h) fun v112 h =>
    B.gd h v111 true (fun K => K v9 h) fun v113 h =>
    B.gd h v111 true (fun K => B.pv (V.idxS 1 v112 v113) fun v => K v h) fun v114 h =>
    B.gd h v111 true (fun K => B.ld h v114 fun v => K v h) fun v115 h =>
    B.gd h v111 true (fun K => K v10 h) fun v116 h =>
    B.gd h v111 true (fun K => B.pv (V.idxS 1 v115 v116) fun v => K v h) fun v117 h =>
    B.gd h v111 true (fun K => B.ld h v117 fun v => K v h) fun v118 h =>
    B.gd h v111 true (fun K => K v9 h) fun v119 h =>
    B.gd h v111 true (fun K => K v10 h) fun v120 h =>
    B.gd h v111 true (fun K => B.call C (N 20) [v119, v120] h (B.keepS h [(v114, none), (v117, none)] K)) fun v121 h =>
    B.gd h v111 true (fun K => B.pv (V.toInt .u64 v121) fun v => K v h) fun v122 h =>
    B.gd h v111 true (fun K => B.pv (V.bin .eql v118 v122) fun v => K v h) fun v123 h =>
    B.gd h v111 true (fun K => B.pv (V.un .not v123) fun v => K v h) fun v124 h =>
    B.gd h v102 false (fun K => B.pick v111 v124 (.bool false) fun v => K v h) fun v125 h =>
    B.pick v102 (.bool true) v125 fun v126 =>
    B.cond v126
    (Q (.bool false) h)
    (B.pv (V.bin .add v10 (.int .i64 1)) fun v89 =>
    Y6 [v89] h))))
    (B.pv (V.bin .add v9 (.int .i64 1)) fun v80 =>
    Y5 [v80] h)
@[simp] def kit_flatWords.l11 (C : CSem) (N : Nat → Nat) (Q : AVal → AHeap → Prop) (Y5 : List AVal → AHeap → Prop) (v0 v5 v9 : AVal) : List AVal → AHeap → (List AVal → AHeap → Prop) → Prop
  | [v10], h, Y6 => kit_flatWords.k10 C N Q Y5 Y6 v0 v5 v9 v10 h
  | _, _, _ => False
@[simp] def kit_flatWords.k12 (C : CSem) (N : Nat → Nat) (Q : AVal → AHeap → Prop) (Y5 : List AVal → AHeap → Prop) (v0 v5 v9 : AVal) (h : AHeap) : Prop :=
  B.pv (V.lenSl v0) fun v77 =>
    B.pv (V.bin .lss v9 v77) fun v78 =>
    B.cond v78
    (LoopR (kit_flatWords.l11 C N Q Y5 v0 v5 v9) [(.int .i64 0)] h)
    (LoopR (kit_flatWords.l9 C N Q v0 v5) [(.int .i64 0)] h)
@[simp] def kit_flatWords.l13 (C : CSem) (N : Nat → Nat) (Q : AVal → AHeap → Prop) (v0 v5 : AVal) : List AVal → AHeap → (List AVal → AHeap → Prop) → Prop
  | [v9], h, Y5 => kit_flatWords.k12 C N Q Y5 v0 v5 v9 h
  | _, _, _ => False
@[simp] def kit_flatWords.k14 (C : CSem) (N : Nat → Nat) (Q : AVal → AHeap → Prop) (Y7 : List AVal → AHeap → Prop) (Y8 : List AVal → AHeap → Prop) (v0 v5 v6 v7 v8 : AVal) (h : AHeap) : Prop :=
  B.pv (V.bin .lss v8 (.int .i64 64)) fun v55 =>
    B.cond v55
    (B.pv (V.idxS 1 v0 v6) fun v62 =>
    B.ld h v62 fun v63 =>
    B.pv (V.lenSl v63) fun v64 =>
    B.pv (V.bin .add v64 v8) fun v66 =>
    B.call C (N 20) [v6, v66] h fun v67 h =>
    B.pv (V.toInt .u64 v67) fun v68 =>
    B.newO h (fillL [(0, none, v68)] (repL 1 [.int .u64 0])) fun i69 h =>
    B.appW h 1 8 v7 (.sl i69 0 0 1 1 1) fun v70 h =>
    B.pv (V.bin .add v8 (.int .i64 1)) fun v57 =>
    Y8 [v70, v57] h)
    (B.pv (V.idxS 1 v5 v6) fun v74 =>
    B.st h v74 v7 fun h =>
    B.pv (V.bin .add v6 (.int .i64 1)) fun v49 =>
    Y7 [v49] h)
@[simp] def kit_flatWords.l15 (C : CSem) (N : Nat → Nat) (Q : AVal → AHeap → Prop) (Y7 : List AVal → AHeap → Prop) (v0 v5 v6 : AVal) : List AVal → AHeap → (List AVal → AHeap → Prop) → Prop
  | [v7, v8], h, Y8 => kit_flatWords.k14 C N Q Y7 Y8 v0 v5 v6 v7 v8 h
  | _, _, _ => False
@[simp] def kit_flatWords.k16 (C : CSem) (N : Nat → Nat) (Q : AVal → AHeap → Prop) (Y7 : List AVal → AHeap → Prop) (v0 v5 v6 : AVal) (h : AHeap) : Prop :=
  B.pv (V.lenSl v0) fun v46 =>
    B.pv (V.bin .lss v6 v46) fun v47 =>
    B.cond v47
    (B.pv (V.idxS 1 v0 v6) fun v52 =>
    B.ld h v52 fun v53 =>
    LoopR (kit_flatWords.l15 C N Q Y7 v0 v5 v6) [v53, (.int .i64 0)] h)
    (LoopR (kit_flatWords.l13 C N Q v0 v5) [(.int .i64 0)] h)
@[simp] def kit_flatWords.l17 (C : CSem) (N : Nat → Nat) (Q : AVal → AHeap → Prop) (v0 v5 : AVal) : List AVal → AHeap → (List AVal → AHeap → Prop) → Prop
  | [v6], h, Y7 => kit_flatWords.k16 C N Q Y7 v0 v5 v6 h
  | _, _, _ => False
@[simp] def kit_flatWords.k18 (C : CSem) (N : Nat → Nat) (Q : AVal → AHeap → Prop) (Y9 : List AVal → AHeap → Prop) (Y10 : List AVal → AHeap → Prop) (v0 v3 v4 : AVal) (h : AHeap) : Prop :=
  B.pv (V.idxS 1 v0 v3) fun v25 =>
    B.ld h v25 fun v26 =>
    B.pv (V.lenSl v26) fun v27 =>
    B.pv (V.bin .lss v4 v27) fun v28 =>
    B.cond v28
    (B.pv (V.idxS 1 v0 v3) fun v33 =>
    B.ld h v33 fun v34 =>
    B.call C (N 20) [v3, v4] h (B.keepS h [(v33, none)] (fun v38 h => B.pv (V.toInt .u64 v38) fun v39 =>
    B.pv (V.idxS 1 v34 v4) fun v40 =>
    B.st h v40 v39 fun h =>
    B.pv (V.bin .add v4 (.int .i64 1)) fun v30 =>
    Y10 [v30] h)))
    (B.pv (V.bin .add v3 (.int .i64 1)) fun v21 =>
    Y9 [v21] h)
@[simp] def kit_flatWords.l19 (C : CSem) (N : Nat → Nat) (Q : AVal → AHeap → Prop) (Y9 : List AVal → AHeap → Prop) (v0 v3 : AVal) : List AVal → AHeap → (List AVal → AHeap → Prop) → Prop
  | [v4], h, Y10 => kit_flatWords.k18 C N Q Y9 Y10 v0 v3 v4 h
  | _, _, _ => False
@[simp] def kit_flatWords.k20 (C : CSem) (N : Nat → Nat) (Q : AVal → AHeap → Prop) (Y9 : List AVal → AHeap → Prop) (v0 v3 : AVal) (h : AHeap) : Prop :=
  B.pv (V.lenSl v0) fun v18 =>
    B.pv (V.bin .lss v3 v18) fun v19 =>
    B.cond v19
    (LoopR (kit_flatWords.l19 C N Q Y9 v0 v3) [(.int .i64 0)] h)
    (B.pv (V.lenSl v0) fun v42 =>
    0 < 1 ∧ B.mks h 24 (some [.nils]) v42 v42 fun v43 h =>
    LoopR (kit_flatWords.l17 C N Q v0 v43) [(.int .i64 0)] h)
@[simp] def kit_flatWords.l21 (C : CSem) (N : Nat → Nat) (Q : AVal → AHeap → Prop) (v0 : AVal) : List AVal → AHeap → (List AVal → AHeap → Prop) → Prop
  | [v3], h, Y9 => kit_flatWords.k20 C N Q Y9 v0 v3 h
  | _, _, _ => False
/-- storeman/storemankit.flatWords -/
@[simp] def kit_flatWords.cps (C : CSem) (N : Nat → Nat) (v0 : AVal) (h : AHeap) (Q : AVal → AHeap → Prop) : Prop :=
  LoopR (kit_flatWords.l21 C N Q v0) [(.int .i64 0)] h
def kit_flatWords.Imp (C : CSem) (N : Nat → Nat) : Prop := ∀ (v0 : AVal) (h : AHeap) (Q : AVal → AHeap → Prop), kit_flatWords.cps C N v0 h (dn Q) → C (N 80) [v0] h Q
/-- storeman/storemankit.flatInts -/
def kit_flatInts.cps (C : CSem) (N : Nat → Nat) (v0 : AVal) (h : AHeap) (Q : AVal → AHeap → Prop) : Prop :=
  LoopR (flatG.l103 (opsS 8 (.int .i64 0) (N 20)) C Q v0) [(.int .i64 0)] h
def kit_flatInts.Imp (C : CSem) (N : Nat → Nat) : Prop := ∀ (v0 : AVal) (h : AHeap) (Q : AVal → AHeap → Prop), kit_flatInts.cps C N v0 h (dn Q) → C (N 81) [v0] h Q
@[simp] def kit_flatLongs.k1 (C : CSem) (N : Nat → Nat) (Q : AVal → AHeap → Prop) (Y1 : List AVal → AHeap → Prop) (Y2 : List AVal → AHeap → Prop) (v0 v5 v14 v15 : AVal) (h : AHeap) : Prop :=
  B.pv (V.idxS 1 v0 v14) fun v161 =>
    B.ld h v161 fun v162 =>
    B.pv (V.lenSl v162) fun v163 =>
    B.pv (V.bin .lss v15 v163) fun v164 =>
    B.cond v164
    (B.pv (V.idxS 1 v0 v14) fun v169 =>
    B.ld h v169 fun v170 =>
    B.pv (V.idxS 1 v170 v15) fun v172 =>
    B.ld h v172 fun v173 =>
    B.call C (N 20) [v14, v15] h (B.keepS h [(v169, none), (v172, none)] (fun v176 h => B.pv (V.bin .eql v173 v176) fun v177 =>
    B.pv (V.un .not v177) fun v178 =>
    B.gd h v178 false (fun K => K v5 h) fun v180 h =>
    B.gd h v178 false (fun K => K v14 h) fun v181 h =>
    B.gd h v178 false (fun K => B.pv (V.idxS 1 v180 v181) fun v => K v h) fun v182 h =>
    B.gd h v178 false (fun K => B.ld h v182 fun v => K v h) fun v183 h =>
    B.gd h v178 false (fun K => K v15 h) fun v184 h =>
    B.gd h v178 false (fun K => B.pv (V.idxS 1 v183 v184) fun v => K v h) fun v185 h =>
    B.gd h v178 false (fun K => B.ld h v185 fun v => K v h) fun v186 h =>
    B.gd h v178 false (fun K => K v14 h) fun v187 h =>
    B.gd h v178 false (fun K => K v15 h) fun v188 h =>
    B.gd h v178 false (fun K => B.call C (N 20) [v187, v188] h (B.keepS h [(v182, none), (v185, none)] K)) fun v189 h =>
    B.gd h v178 false (fun K => B.pv (V.bin .eql v186 v189) fun v => K v h) fun v190 h =>
    B.gd h v178 false (fun K => B.pv (V.un .not v190) fun v => K v h) fun v191 h =>
    B.pick v178 (.bool true) v191 fun v192 =>
    B.cond v192
    (Q (.bool false) h)
    (B.pv (V.bin .add v15 (.int .i64 1)) fun v166 =>
    Y2 [v166] h))))
    (B.pv (V.bin .add v14 (.int .i64 1)) fun v157 =>
    Y1 [v157] h)
@[simp] def kit_flatLongs.l2 (C : CSem) (N : Nat → Nat) (Q : AVal → AHeap → Prop) (Y1 : List AVal → AHeap → Prop) (v0 v5 v14 : AVal) : List AVal → AHeap → (List AVal → AHeap → Prop) → Prop
  | [v15], h, Y2 => kit_flatLongs.k1 C N Q Y1 Y2 v0 v5 v14 v15 h
  | _, _, _ => False
@[simp] def kit_flatLongs.k3 (C : CSem) (N : Nat → Nat) (Q : AVal → AHeap → Prop) (Y1 : List AVal → AHeap → Prop) (v0 v5 v14 : AVal) (h : AHeap) : Prop :=
  B.pv (V.lenSl v0) fun v154 =>
    B.pv (V.bin .lss v14 v154) fun v155 =>
    B.cond v155
    (LoopR (kit_flatLongs.l2 C N Q Y1 v0 v5 v14) [(.int .i64 0)] h)
    (Q (.bool true) h)
@[simp] def kit_flatLongs.l4 (C : CSem) (N : Nat → Nat) (Q : AVal → AHeap → Prop) (v0 v5 : AVal) : List AVal → AHeap → (List AVal → AHeap → Prop) → Prop
  | [v14], h, Y1 => kit_flatLongs.k3 C N Q Y1 v0 v5 v14 h
  | _, _, _ => False
@[simp] def kit_flatLongs.k5 (C : CSem) (N : Nat → Nat) (Q : AVal → AHeap → Prop) (Y3 : List AVal → AHeap → Prop) (v0 v5 v11 v12 : AVal) (h : AHeap) : Prop :=
  B.pv (V.idxS 1 v0 v11) fun v147 =>
    B.ld h v147 fun v148 =>
    B.appW h 1 8 v148 v12 fun v150 h =>
    B.pv (V.idxS 1 v5 v11) fun v151 =>
    B.st h v151 v150 fun h =>
    B.pv (V.bin .add v11 (.int .i64 1)) fun v128 =>
    Y3 [v128] h
@[simp] def kit_flatLongs.k6 (C : CSem) (N : Nat → Nat) (Q : AVal → AHeap → Prop) (Y3 : List AVal → AHeap → Prop) (Y4 : List AVal → AHeap → Prop) (v0 v5 v11 v12 v13 : AVal) (h : AHeap) : Prop :=
  B.pv (V.bin .lss v13 (.int .i64 64)) fun v131 =>
    B.cond v131
    (B.pv (V.lenSl v0) fun v138 =>
    B.pv (V.bin .add v11 v138) fun v139 =>
    B.call C (N 20) [v139, v13] h fun v141 h =>
    B.pv (V.idxS 1 v12 v13) fun v142 =>
    B.st h v142 v141 fun h =>
    B.pv (V.bin .add v13 (.int .i64 1)) fun v133 =>
    Y4 [v133] h)
    (kit_flatLongs.k5 C N Q Y3 v0 v5 v11 v12 h)
@[simp] def kit_flatLongs.l7 (C : CSem) (N : Nat → Nat) (Q : AVal → AHeap → Prop) (Y3 : List AVal → AHeap → Prop) (v0 v5 v11 v12 : AVal) : List AVal → AHeap → (List AVal → AHeap → Prop) → Prop
  | [v13], h, Y4 => kit_flatLongs.k6 C N Q Y3 Y4 v0 v5 v11 v12 v13 h
  | _, _, _ => False
@[simp] def kit_flatLongs.k8 (C : CSem) (N : Nat → Nat) (Q : AVal → AHeap → Prop) (Y3 : List AVal → AHeap → Prop) (v0 v5 v11 : AVal) (h : AHeap) : Prop :=
  B.pv (V.lenSl v0) fun v125 =>
    B.pv (V.bin .lss v11 v125) fun v126 =>
    B.cond v126
    (0 < 1 ∧ B.mks h 8 (some [.int .i64 0]) (.int .i64 64) (.int .i64 64) fun v129 h =>
    LoopR (kit_flatLongs.l7 C N Q Y3 v0 v5 v11 v129) [(.int .i64 0)] h)
    (LoopR (kit_flatLongs.l4 C N Q v0 v5) [(.int .i64 0)] h)
@[simp] def kit_flatLongs.l9 (C : CSem) (N : Nat → Nat) (Q : AVal → AHeap → Prop) (v0 v5 : AVal) : List AVal → AHeap → (List AVal → AHeap → Prop) → Prop
  | [v11], h, Y3 => kit_flatLongs.k8 C N Q Y3 v0 v5 v11 h
  | _, _, _ => False
@[simp] def kit_flatLongs.k10 (C : CSem) (N : Nat → Nat) (Q : AVal → AHeap → Prop) (Y5 : List AVal → AHeap → Prop) (Y6 : List AVal → AHeap → Prop) (v0 v5 v9 v10 : AVal) (h : AHeap) : Prop :=
  B.pv (V.idxS 1 v5 v9) fun v82 =>
    B.ld h v82 fun v83 =>
    B.pv (V.lenSl v83) fun v84 =>
    B.pv (V.bin .lss v10 v84) fun v85 =>
    B.cond v85
    (B.pv (V.idxS 1 v5 v9) fun v90 =>
    B.ld h v90 fun v91 =>
    B.pv (V.idxS 1 v91 v10) fun v93 =>
    B.ld h v93 fun v94 =>
    B.call C (N 20) [v9, v10] h (B.keepS h [(v90, none), (v93, none)] (fun v97 h => B.pv (V.bin .eql v94 v97) fun v98 =>
    B.pv (V.un .not v98) fun v99 =>
    B.gd h v99 false (fun K => K v10 h) fun v101 h =>
    B.gd h v99 false (fun K => K v0 h) fun v102 h =>
    B.gd h v99 false (fun K => K v9 h) fun v103 h =>
    B.gd h v99 false (fun K => B.pv (V.idxS 1 v102 v103) fun v => K v h) fun v104 h =>
    B.gd h v99 false (fun K => B.ld h v104 fun v => K v h) fun v105 h =>
    B.gd h v99 false (fun K => B.pv (V.lenSl v105) fun v => K v h) fun v106 h =>
    B.gd h v99 false (fun K => B.pv (V.bin .lss v101 v106) fun v => K v h) fun v107 h =>
    B.gd h v99 false (fun K => K v107 h) fun v108 h =>
    B.gd h v108 true (fun K => K v0 h) fun v109 h =>
    B.gd h v108 true (fun K => K v9 h) fun v110 h =>
    B.gd h v108 true (fun K => B.pv (V.idxS 1 v109 v110) fun v => K v h) fun v111 h =>
    B.gd h v108 true (fun K => B.ld h v111 fun v => K v h) fun v112 h =>
    B.gd h v108 true (fun K => K v10 h) fun v113 h =>
    B.gd h v108 true (fun K => B.pv (V.idxS 1 v112 v113) fun v => K v h) fun v114 h =>
    B.gd h v108 true (fun K => B.ld h v114 fun v => K v h) fun v115 h =>
    B.gd h v108 true (fun K => K v9 h) fun v116 h =>
    B.gd h v108 true (fun K => K v10 h) fun v117 h =>
    B.gd h v108 true (fun K => B.call C (N 20) [v116, v117] h (B.keepS h [(v111, none), (v114, none)] K)) fun v118 h =>
    B.gd h v108 true (fun K => B.pv (V.bin .eql v115 v118) fun v => K v h) fun v119 h =>
    B.gd h v108 true (fun K => B.pv (V.un .not v119) fun v => K v h) fun v120 h =>
    B.gd h v99 false (fun K => B.pick v108 v120 (.bool false) fun v => K v h) fun v121 h =>
    B.pick v99 (.bool true) v121 fun v122 =>
    B.cond v122
    (Q (.bool false) h)
    (B.pv (V.bin .add v10 (.int .i64 1)) fun v87 =>
    Y6 [v87] h))))
    (B.pv (V.bin .add v9 (.int .i64 1)) fun v78 =>
    Y5 [v78] h)
@[simp] def kit_flatLongs.l11 (C : CSem) (N : Nat → Nat) (Q : AVal → AHeap → Prop) (Y5 : List AVal → AHeap → Prop) (v0 v5 v9 : AVal) : List AVal → AHeap → (List AVal → AHeap → Prop) → Prop
  | [v10], h, Y6 => kit_flatLongs.k10 C N Q Y5 Y6 v0 v5 v9 v10 h
  | _, _, _ => False
@[simp] def kit_flatLongs.k12 (C : CSem) (N : Nat → Nat) (Q : AVal → AHeap → Prop) (Y5 : List AVal → AHeap → Prop) (v0 v5 v9 : AVal) (h : AHeap) : Prop :=
  B.pv (V.lenSl v0) fun v75 =>
    B.pv (V.bin .lss v9 v75) fun v76 =>
    B.cond v76
    (LoopR (kit_flatLongs.l11 C N Q Y5 v0 v5 v9) [(.int .i64 0)] h)
    (LoopR (kit_flatLongs.l9 C N Q v0 v5) [(.int .i64 0)] h)
@[simp] def kit_flatLongs.l13 (C : CSem) (N : Nat → Nat) (Q : AVal → AHeap → Prop) (v0 v5 : AVal) : List AVal → AHeap → (List AVal → AHeap → Prop) → Prop
  | [v9], h, Y5 => kit_flatLongs.k12 C N Q Y5 v0 v5 v9 h
  | _, _, _ => False
@[simp] def kit_flatLongs.k14 (C : CSem) (N : Nat → Nat) (Q : AVal → AHeap → Prop) (Y7 : List AVal → AHeap → Prop) (Y8 : List AVal → AHeap → Prop) (v0 v5 v6 v7 v8 : AVal) (h : AHeap) : Prop :=
  B.pv (V.bin .lss v8 (.int .i64 64)) fun v54 =>
    B.cond v54
    (B.pv (V.idxS 1 v0 v6) fun v61 =>
    B.ld h v61 fun v62 =>
    B.pv (V.lenSl v62) fun v63 =>
    B.pv (V.bin .add v63 v8) fun v65 =>
    B.call C (N 20) [v6, v65] h fun v66 h =>
    B.newO h (fillL [(0, none, v66)] (repL 1 [.int .i64 0])) fun i67 h =>
    B.appW h 1 8 v7 (.sl i67 0 0 1 1 1) fun v68 h =>
    B.pv (V.bin .add v8 (.int .i64 1)) fun v56 =>
    Y8 [v68, v56] h)
    (B.pv (V.idxS 1 v5 v6) fun v72 =>
    B.st h v72 v7 fun h =>
    B.pv (V.bin .add v6 (.int .i64 1)) fun v48 =>
    Y7 [v48] h)
@[simp] def kit_flatLongs.l15 (C : CSem) (N : Nat → Nat) (Q : AVal → AHeap → Prop) (Y7 : List AVal → AHeap → Prop) (v0 v5 v6 : AVal) : List AVal → AHeap → (List AVal → AHeap → Prop) → Prop
  | [v7, v8], h, Y8 => kit_flatLongs.k14 C N Q Y7 Y8 v0 v5 v6 v7 v8 h
  | _, _, _ => False
@[simp] def kit_flatLongs.k16 (C : CSem) (N : Nat → Nat) (Q : AVal → AHeap → Prop) (Y7 : List AVal → AHeap → Prop) (v0 v5 v6 : AVal) (h : AHeap) : Prop :=
  B.pv (V.lenSl v0) fun v45 =>
    B.pv (V.bin .lss v6 v45) fun v46 =>
    B.cond v46
    (B.pv (V.idxS 1 v0 v6) fun v51 =>
    B.ld h v51 fun v52 =>
    LoopR (kit_flatLongs.l15 C N Q Y7 v0 v5 v6) [v52, (.int .i64 0)] h)
    (LoopR (kit_flatLongs.l13 C N Q v0 v5) [(.int .i64 0)] h)
@[simp] def kit_flatLongs.l17 (C : CSem) (N : Nat → Nat) (Q : AVal → AHeap → Prop) (v0 v5 : AVal) : List AVal → AHeap → (List AVal → AHeap → Prop) → Prop
  | [v6], h, Y7 => kit_flatLongs.k16 C N Q Y7 v0 v5 v6 h
  | _, _, _ => False
@[simp] def kit_flatLongs.k18 (C : CSem) (N : Nat → Nat) (Q : AVal → AHeap → Prop) (Y9 : List AVal → AHeap → Prop) (Y10 : List AVal → AHeap → Prop) (v0 v3 v4 : AVal) (h : AHeap) : Prop :=
  B.pv (V.idxS 1 v0 v3) fun v25 =>
    B.ld h v25 fun v26 =>
    B.pv (V.lenSl v26) fun v27 =>
    B.pv (V.bin .lss v4 v27) fun v28 =>
    B.cond v28
    (B.pv (V.idxS 1 v0 v3) fun v33 =>
    B.ld h v33 fun v34 =>
    B.call C (N 20) [v3, v4] h (B.keepS h [(v33, none)] (fun v38 h => B.pv (V.idxS 1 v34 v4) fun v39 =>
    B.st h v39 v38 fun h =>
    B.pv (V.bin .add v4 (.int .i64 1)) fun v30 =>
    Y10 [v30] h)))
    (B.pv (V.bin .add v3 (.int .i64 1)) fun v21 =>
    Y9 [v21] h)
@[simp] def kit_flatLongs.l19 (C : CSem) (N : Nat → Nat) (Q : AVal → AHeap → Prop) (Y9 : List AVal → AHeap → Prop) (v0 v3 : AVal) : List AVal → AHeap → (List AVal → AHeap → Prop) → Prop
  | [v4], h, Y10 => kit_flatLongs.k18 C N Q Y9 Y10 v0 v3 v4 h
  | _, _, _ => False
@[simp] def kit_flatLongs.k20 (C : CSem) (N : Nat → Nat) (Q : AVal → AHeap → Prop) (Y9 : List AVal → AHeap → Prop) (v0 v3 : AVal) (h : AHeap) : Prop :=
  B.pv (V.lenSl v0) fun v18 =>
    B.pv (V.bin .lss v3 v18) fun v19 =>
    B.cond v19
    (LoopR (kit_flatLongs.l19 C N Q Y9 v0 v3) [(.int .i64 0)] h)
    (B.pv (V.lenSl v0) fun v41 =>
    0 < 1 ∧ B.mks h 24 (some [.nils]) v41 v41 fun v42 h =>
    LoopR (kit_flatLongs.l17 C N Q v0 v42) [(.int .i64 0)] h)
@[simp] def kit_flatLongs.l21 (C : CSem) (N : Nat → Nat) (Q : AVal → AHeap → Prop) (v0 : AVal) : List AVal → AHeap → (List AVal → AHeap → Prop) → Prop
  | [v3], h, Y9 => kit_flatLongs.k20 C N Q Y9 v0 v3 h
  | _, _, _ => False
/-- storeman/storemankit.flatLongs -/
@[simp] def kit_flatLongs.cps (C : CSem) (N : Nat → Nat) (v0 : AVal) (h : AHeap) (Q : AVal → AHeap → Prop) : Prop :=
  LoopR (kit_flatLongs.l21 C N Q v0) [(.int .i64 0)] h
def kit_flatLongs.Imp (C : CSem) (N : Nat → Nat) : Prop := ∀ (v0 : AVal) (h : AHeap) (Q : AVal → AHeap → Prop), kit_flatLongs.cps C N v0 h (dn Q) → C (N 82) [v0] h Q
/-- storeman/storemankit.flatTexts -/
def kit_flatTexts.cps (C : CSem) (N : Nat → Nat) (v0 : AVal) (h : AHeap) (Q : AVal → AHeap → Prop) : Prop :=
  LoopR (flatG.l103 (opsS 16 (.str []) (N 106)) C Q v0) [(.int .i64 0)] h
def kit_flatTexts.Imp (C : CSem) (N : Nat → Nat) : Prop := ∀ (v0 : AVal) (h : AHeap) (Q : AVal → AHeap → Prop), kit_flatTexts.cps C N v0 h (dn Q) → C (N 83) [v0] h Q
/-- storeman/storemankit.flatBytes -/
def kit_flatBytes.cps (C : CSem) (N : Nat → Nat) (v0 : AVal) (h : AHeap) (Q : AVal → AHeap → Prop) : Prop :=
  LoopR (flatG.l103 (opsS 1 (.int .u8 0) (N 64)) C Q v0) [(.int .i64 0)] h
def kit_flatBytes.Imp (C : CSem) (N : Nat → Nat) : Prop := ∀ (v0 : AVal) (h : AHeap) (Q : AVal → AHeap → Prop), kit_flatBytes.cps C N v0 h (dn Q) → C (N 84) [v0] h Q
/-- storeman/storemankit.flatWindows -/
def kit_flatWindows.cps (C : CSem) (N : Nat → Nat) (v0 : AVal) (h : AHeap) (Q : AVal → AHeap → Prop) : Prop :=
  LoopR (flatG.l103 (opsF 2 16 [.int .i64 0, .int .i64 0] (N 18) [.i .i64, .i .i64]) C Q v0) [(.int .i64 0)] h
def kit_flatWindows.Imp (C : CSem) (N : Nat → Nat) : Prop := ∀ (v0 : AVal) (h : AHeap) (Q : AVal → AHeap → Prop), kit_flatWindows.cps C N v0 h (dn Q) → C (N 85) [v0] h Q
/-- storeman/storemankit.flatLots -/
def kit_flatLots.cps (C : CSem) (N : Nat → Nat) (v0 : AVal) (h : AHeap) (Q : AVal → AHeap → Prop) : Prop :=
  LoopR (flatG.l103 (opsF 6 56 [.int .i64 0, .str [], .int .i64 0, .int .i64 0, .int .i64 0, .bool false] (N 77) [.i .i64, .s, .i .i64, .i .i64, .i .i64, .b]) C Q v0) [(.int .i64 0)] h
def kit_flatLots.Imp (C : CSem) (N : Nat → Nat) : Prop := ∀ (v0 : AVal) (h : AHeap) (Q : AVal → AHeap → Prop), kit_flatLots.cps C N v0 h (dn Q) → C (N 86) [v0] h Q
/-- storeman/storemankit.flatWants -/
def kit_flatWants.cps (C : CSem) (N : Nat → Nat) (v0 : AVal) (h : AHeap) (Q : AVal → AHeap → Prop) : Prop :=
  LoopR (flatG.l103 (opsF 3 32 [.str [], .int .i64 0, .int .i64 0] (N 107) [.s, .i .i64, .i .i64]) C Q v0) [(.int .i64 0)] h
def kit_flatWants.Imp (C : CSem) (N : Nat → Nat) : Prop := ∀ (v0 : AVal) (h : AHeap) (Q : AVal → AHeap → Prop), kit_flatWants.cps C N v0 h (dn Q) → C (N 87) [v0] h Q
/-- storeman/storemankit.flatUses -/
def kit_flatUses.cps (C : CSem) (N : Nat → Nat) (v0 : AVal) (h : AHeap) (Q : AVal → AHeap → Prop) : Prop :=
  LoopR (flatG.l103 (opsF 3 24 [.int .i64 0, .int .i64 0, .int .i64 0] (N 78) [.i .i64, .i .i64, .i .i64]) C Q v0) [(.int .i64 0)] h
def kit_flatUses.Imp (C : CSem) (N : Nat → Nat) : Prop := ∀ (v0 : AVal) (h : AHeap) (Q : AVal → AHeap → Prop), kit_flatUses.cps C N v0 h (dn Q) → C (N 88) [v0] h Q
/-- storeman/storemankit.flatParts -/
def kit_flatParts.cps (C : CSem) (N : Nat → Nat) (v0 : AVal) (h : AHeap) (Q : AVal → AHeap → Prop) : Prop :=
  LoopR (flatG.l103 (opsF 2 24 [.str [], .int .i64 0] (N 108) [.s, .i .i64]) C Q v0) [(.int .i64 0)] h
def kit_flatParts.Imp (C : CSem) (N : Nat → Nat) : Prop := ∀ (v0 : AVal) (h : AHeap) (Q : AVal → AHeap → Prop), kit_flatParts.cps C N v0 h (dn Q) → C (N 89) [v0] h Q
/-- storeman/storemankit.flatItems -/
def kit_flatItems.cps (C : CSem) (N : Nat → Nat) (v0 : AVal) (h : AHeap) (Q : AVal → AHeap → Prop) : Prop :=
  LoopR (flatG.l103 (opsD C 4 72 [.str [], .int .i64 0, .nils, .nils] (N 109) (N 110)) C Q v0) [(.int .i64 0)] h
def kit_flatItems.Imp (C : CSem) (N : Nat → Nat) : Prop := ∀ (v0 : AVal) (h : AHeap) (Q : AVal → AHeap → Prop), kit_flatItems.cps C N v0 h (dn Q) → C (N 90) [v0] h Q
/-- storeman/storemankit.flatLines -/
def kit_flatLines.cps (C : CSem) (N : Nat → Nat) (v0 : AVal) (h : AHeap) (Q : AVal → AHeap → Prop) : Prop :=
  LoopR (flatG.l103 (opsF 8 80 [.int .i64 0, .str [], .int .i64 0, .int .i64 0, .int .i64 0, .int .u8 0, .int .i64 0, .str []] (N 111) [.i .i64, .s, .i .i64, .i .i64, .i .i64, .i .u8, .i .i64, .s]) C Q v0) [(.int .i64 0)] h
def kit_flatLines.Imp (C : CSem) (N : Nat → Nat) : Prop := ∀ (v0 : AVal) (h : AHeap) (Q : AVal → AHeap → Prop), kit_flatLines.cps C N v0 h (dn Q) → C (N 91) [v0] h Q
/-- storeman/storemankit.flatAsks -/
def kit_flatAsks.cps (C : CSem) (N : Nat → Nat) (v0 : AVal) (h : AHeap) (Q : AVal → AHeap → Prop) : Prop :=
  LoopR (flatG.l103 (opsD C 11 128 [.int .u8 0, .int .i64 0, .str [], .int .i64 0, .int .i64 0, .int .i64 0, .int .i64 0, .int .i64 0, .int .i64 0, .nils, .nils] (N 112) (N 113)) C Q v0) [(.int .i64 0)] h
def kit_flatAsks.Imp (C : CSem) (N : Nat → Nat) : Prop := ∀ (v0 : AVal) (h : AHeap) (Q : AVal → AHeap → Prop), kit_flatAsks.cps C N v0 h (dn Q) → C (N 92) [v0] h Q
/-- storeman/storemankit.flatTells -/
def kit_flatTells.cps (C : CSem) (N : Nat → Nat) (v0 : AVal) (h : AHeap) (Q : AVal → AHeap → Prop) : Prop :=
  LoopR (flatG.l103 (opsD C 7 96 [.int .i64 0, .int .i64 0, .int .i64 0, .str [], .int .u8 0, .nils, .nils] (N 114) (N 42)) C Q v0) [(.int .i64 0)] h
def kit_flatTells.Imp (C : CSem) (N : Nat → Nat) : Prop := ∀ (v0 : AVal) (h : AHeap) (Q : AVal → AHeap → Prop), kit_flatTells.cps C N v0 h (dn Q) → C (N 93) [v0] h Q
/-- storeman/storemankit.flatStates -/
def kit_flatStates.cps (C : CSem) (N : Nat → Nat) (v0 : AVal) (h : AHeap) (Q : AVal → AHeap → Prop) : Prop :=
  LoopR (flatG.l103 (opsD C 6 96 [.int .i64 0, .int .i64 0, .int .i64 0, .nils, .nils, .nils] (N 115) (N 116)) C Q v0) [(.int .i64 0)] h
def kit_flatStates.Imp (C : CSem) (N : Nat → Nat) : Prop := ∀ (v0 : AVal) (h : AHeap) (Q : AVal → AHeap → Prop), kit_flatStates.cps C N v0 h (dn Q) → C (N 94) [v0] h Q
/-- storeman/storemankit.flatRows -/
def kit_flatRows.cps (C : CSem) (N : Nat → Nat) (v0 : AVal) (h : AHeap) (Q : AVal → AHeap → Prop) : Prop :=
  LoopR (flatG.l103 (opsD C 2 48 [.nils, .nils] (N 117) (N 118)) C Q v0) [(.int .i64 0)] h
def kit_flatRows.Imp (C : CSem) (N : Nat → Nat) : Prop := ∀ (v0 : AVal) (h : AHeap) (Q : AVal → AHeap → Prop), kit_flatRows.cps C N v0 h (dn Q) → C (N 95) [v0] h Q
/-- storeman/storemankit.flatTurns -/
def kit_flatTurns.cps (C : CSem) (N : Nat → Nat) (v0 : AVal) (h : AHeap) (Q : AVal → AHeap → Prop) : Prop :=
  LoopR (flatG.l103 (opsD C 3 72 [.nils, .nils, .nils] (N 119) (N 120)) C Q v0) [(.int .i64 0)] h
def kit_flatTurns.Imp (C : CSem) (N : Nat → Nat) : Prop := ∀ (v0 : AVal) (h : AHeap) (Q : AVal → AHeap → Prop), kit_flatTurns.cps C N v0 h (dn Q) → C (N 96) [v0] h Q
/-- storeman/storemankit.flatFates -/
def kit_flatFates.cps (C : CSem) (N : Nat → Nat) (v0 : AVal) (h : AHeap) (Q : AVal → AHeap → Prop) : Prop :=
  LoopR (flatG.l103 (opsF 1 8 [.int .i64 0] (N 121) [.i .i64]) C Q v0) [(.int .i64 0)] h
def kit_flatFates.Imp (C : CSem) (N : Nat → Nat) : Prop := ∀ (v0 : AVal) (h : AHeap) (Q : AVal → AHeap → Prop), kit_flatFates.cps C N v0 h (dn Q) → C (N 97) [v0] h Q
/-- storeman/storemankit.flatDirties -/
def kit_flatDirties.cps (C : CSem) (N : Nat → Nat) (v0 : AVal) (h : AHeap) (Q : AVal → AHeap → Prop) : Prop :=
  LoopR (flatG.l103 (opsF 2 16 [.int .i64 0, .int .i64 0] (N 122) [.i .i64, .i .i64]) C Q v0) [(.int .i64 0)] h
def kit_flatDirties.Imp (C : CSem) (N : Nat → Nat) : Prop := ∀ (v0 : AVal) (h : AHeap) (Q : AVal → AHeap → Prop), kit_flatDirties.cps C N v0 h (dn Q) → C (N 98) [v0] h Q
/-- storeman/storemankit.flatOpens -/
def kit_flatOpens.cps (C : CSem) (N : Nat → Nat) (v0 : AVal) (h : AHeap) (Q : AVal → AHeap → Prop) : Prop :=
  LoopR (flatG.l103 (opsF 2 16 [.int .i64 0, .int .i64 0] (N 123) [.i .i64, .i .i64]) C Q v0) [(.int .i64 0)] h
def kit_flatOpens.Imp (C : CSem) (N : Nat → Nat) : Prop := ∀ (v0 : AVal) (h : AHeap) (Q : AVal → AHeap → Prop), kit_flatOpens.cps C N v0 h (dn Q) → C (N 99) [v0] h Q
/-- storeman/storemankit.flatRecords -/
def kit_flatRecords.cps (C : CSem) (N : Nat → Nat) (v0 : AVal) (h : AHeap) (Q : AVal → AHeap → Prop) : Prop :=
  LoopR (flatG.l103 (opsD C 11 168 [.int .i64 0, .int .i64 0, .int .i64 0, .int .i64 0, .int .u8 0, .int .i64 0, .nils, .nils, .nils, .nils, .nils] (N 124) (N 125)) C Q v0) [(.int .i64 0)] h
def kit_flatRecords.Imp (C : CSem) (N : Nat → Nat) : Prop := ∀ (v0 : AVal) (h : AHeap) (Q : AVal → AHeap → Prop), kit_flatRecords.cps C N v0 h (dn Q) → C (N 100) [v0] h Q
/-- storeman/storemankit.flatSteps -/
def kit_flatSteps.cps (C : CSem) (N : Nat → Nat) (v0 : AVal) (h : AHeap) (Q : AVal → AHeap → Prop) : Prop :=
  LoopR (flatG.l103 (opsD C 15 176 [.int .u8 0, .int .i64 0, .int .i64 0, .int .u8 0, .int .i64 0, .str [], .int .i64 0, .int .i64 0, .int .i64 0, .int .i64 0, .int .i64 0, .int .i64 0, .nils, .nils, .nils] (N 126) (N 127)) C Q v0) [(.int .i64 0)] h
def kit_flatSteps.Imp (C : CSem) (N : Nat → Nat) : Prop := ∀ (v0 : AVal) (h : AHeap) (Q : AVal → AHeap → Prop), kit_flatSteps.cps C N v0 h (dn Q) → C (N 101) [v0] h Q
/-- storeman/storemankit.flatTales -/
def kit_flatTales.cps (C : CSem) (N : Nat → Nat) (v0 : AVal) (h : AHeap) (Q : AVal → AHeap → Prop) : Prop :=
  LoopR (flatG.l103 (opsD C 21 248 [.int .u8 0, .int .i64 0, .int .i64 0, .int .u8 0, .int .i64 0, .str [], .int .i64 0, .int .i64 0, .int .i64 0, .int .i64 0, .int .i64 0, .int .i64 0, .nils, .nils, .int .i64 0, .int .i64 0, .int .i64 0, .str [], .int .u8 0, .nils, .nils] (N 128) (N 129)) C Q v0) [(.int .i64 0)] h
def kit_flatTales.Imp (C : CSem) (N : Nat → Nat) : Prop := ∀ (v0 : AVal) (h : AHeap) (Q : AVal → AHeap → Prop), kit_flatTales.cps C N v0 h (dn Q) → C (N 102) [v0] h Q
@[simp] def kit_bag_oneTell.k1 (C : CSem) (N : Nat → Nat) (Q : AVal → AHeap → Prop) (v0 v1 : AVal) (h : AHeap) : Prop :=
  B.pv (A.boxN 7 v1) fun c3 =>
    B.al c3 (B.pv (V.field1 5 c3) fun v6 =>
    B.call C (N 130) [v0, v6] h fun v7 h =>
    B.al c3 (B.pv (V.field1 6 c3) fun v10 =>
    B.call C (N 131) [v0, v10] h fun v11 h =>
    Q (.tup []) h))
/-- (ptr storeman/storemankit.bag).oneTell -/
@[simp] def kit_bag_oneTell.cps (C : CSem) (N : Nat → Nat) (v0 v1 : AVal) (h : AHeap) (Q : AVal → AHeap → Prop) : Prop :=
  kit_bag_oneTell.k1 C N Q v0 v1 h
def kit_bag_oneTell.Imp (C : CSem) (N : Nat → Nat) : Prop := ∀ (v0 v1 : AVal) (h : AHeap) (Q : AVal → AHeap → Prop), kit_bag_oneTell.cps C N v0 v1 h (dn Q) → C (N 105) [v0, v1] h Q
@[simp] def kit_markText.k1 (C : CSem) (N : Nat → Nat) (Q : AVal → AHeap → Prop) (v0 v1 : AVal) (h : AHeap) : Prop :=
  B.pv (V.toInt .u8 v0) fun v6 =>
    B.pv (V.bin .shr v0 (.int .u64 8)) fun v8 =>
    B.pv (V.toInt .u8 v8) fun v9 =>
    B.pv (V.bin .shr v0 (.int .u64 16)) fun v11 =>
    B.pv (V.toInt .u8 v11) fun v12 =>
    B.pv (V.toInt .u8 v1) fun v14 =>
    B.pv (V.bin .shr v1 (.int .u64 8)) fun v16 =>
    B.pv (V.toInt .u8 v16) fun v17 =>
    B.pv (V.bin .shr v1 (.int .u64 16)) fun v19 =>
    B.pv (V.toInt .u8 v19) fun v20 =>
    B.newO h (fillL [(0, none, (.int .u8 35)), (1, none, v6), (2, none, v9), (3, none, v12), (4, none, (.int .u8 47)), (5, none, v14), (6, none, v17), (7, none, v20)] (repL 8 [.int .u8 0])) fun i21 h =>
    B.bytesStr h (.sl i21 0 0 8 1 8) fun v22 =>
    Q v22 h
/-- storeman/storemankit.markText -/
@[simp] def kit_markText.cps (C : CSem) (N : Nat → Nat) (v0 v1 : AVal) (h : AHeap) (Q : AVal → AHeap → Prop) : Prop :=
  kit_markText.k1 C N Q v0 v1 h
def kit_markText.Imp (C : CSem) (N : Nat → Nat) : Prop := ∀ (v0 v1 : AVal) (h : AHeap) (Q : AVal → AHeap → Prop), kit_markText.cps C N v0 v1 h (dn Q) → C (N 106) [v0, v1] h Q
@[simp] def kit_markWant.k1 (C : CSem) (N : Nat → Nat) (Q : AVal → AHeap → Prop) (v0 v1 : AVal) (h : AHeap) : Prop :=
  B.call C (N 20) [v0, v1] h fun v7 h =>
    B.pv (A.bld [(1, none, v7)] [.str [], .int .i64 0, .int .i64 0]) fun v8 =>
    B.pv (V.setN 0 3 v8 (.agg [.str [], .int .i64 0, .int .i64 0])) fun c4 =>
    B.pv (oneOf (joinV (V.fieldN 0 3 c4) (some []))) fun v => Q v h
/-- storeman/storemankit.markWant -/
@[simp] def kit_markWant.cps (C : CSem) (N : Nat → Nat) (v0 v1 : AVal) (h : AHeap) (Q : AVal → AHeap → Prop) : Prop :=
  kit_markWant.k1 C N Q v0 v1 h
def kit_markWant.Imp (C : CSem) (N : Nat → Nat) : Prop := ∀ (v0 v1 : AVal) (h : AHeap) (Q : AVal → AHeap → Prop), kit_markWant.cps C N v0 v1 h (dn Q) → C (N 107) [v0, v1] h Q
@[simp] def kit_markPart.k1 (C : CSem) (N : Nat → Nat) (Q : AVal → AHeap → Prop) (v0 v1 : AVal) (h : AHeap) : Prop :=
  B.call C (N 20) [v0, v1] h fun v7 h =>
    B.pv (A.bld [(1, none, v7)] [.str [], .int .i64 0]) fun v8 =>
    B.pv (V.setN 0 2 v8 (.agg [.str [], .int .i64 0])) fun c4 =>
    B.pv (oneOf (joinV (V.fieldN 0 2 c4) (some []))) fun v => Q v h
/-- storeman/storemankit.markPart -/
@[simp] def kit_markPart.cps (C : CSem) (N : Nat → Nat) (v0 v1 : AVal) (h : AHeap) (Q : AVal → AHeap → Prop) : Prop :=
  kit_markPart.k1 C N Q v0 v1 h
def kit_markPart.Imp (C : CSem) (N : Nat → Nat) : Prop := ∀ (v0 v1 : AVal) (h : AHeap) (Q : AVal → AHeap → Prop), kit_markPart.cps C N v0 v1 h (dn Q) → C (N 108) [v0, v1] h Q
@[simp] def kit_markItem.k1 (C : CSem) (N : Nat → Nat) (Q : AVal → AHeap → Prop) (v0 v1 : AVal) (h : AHeap) : Prop :=
  B.call C (N 20) [v0, v1] h fun v7 h =>
    B.pv (A.bld [(1, none, v7)] [.str [], .int .i64 0, .nils, .nils]) fun v8 =>
    B.pv (V.setN 0 4 v8 (.agg [.str [], .int .i64 0, .nils, .nils])) fun c4 =>
    B.pv (oneOf (joinV (V.fieldN 0 4 c4) (some []))) fun v => Q v h
/-- storeman/storemankit.markItem -/
@[simp] def kit_markItem.cps (C : CSem) (N : Nat → Nat) (v0 v1 : AVal) (h : AHeap) (Q : AVal → AHeap → Prop) : Prop :=
  kit_markItem.k1 C N Q v0 v1 h
def kit_markItem.Imp (C : CSem) (N : Nat → Nat) : Prop := ∀ (v0 v1 : AVal) (h : AHeap) (Q : AVal → AHeap → Prop), kit_markItem.cps C N v0 v1 h (dn Q) → C (N 109) [v0, v1] h Q
@[simp] def kit_SameItem.k1 (C : CSem) (N : Nat → Nat) (Q : AVal → AHeap → Prop) (v0 v1 : AVal) (h : AHeap) : Prop :=
  B.pv (A.boxN 4 v0) fun c2 =>
    B.pv (A.boxN 4 v1) fun c3 =>
    B.al c2 (B.pv (V.field1 0 c2) fun v6 =>
    B.al c3 (B.pv (V.field1 0 c3) fun v8 =>
    B.pv (V.bin .eql v6 v8) fun v9 =>
    B.al c2 (B.gd h v9 true (fun K => K .undef h) fun _ h =>
    B.gd h v9 true (fun K => B.pv (V.field1 1 c2) fun v => K v h) fun v12 h =>
    B.al c3 (B.gd h v9 true (fun K => K .undef h) fun _ h =>
    B.gd h v9 true (fun K => B.pv (V.field1 1 c3) fun v => K v h) fun v14 h =>
    B.gd h v9 true (fun K => B.pv (V.bin .eql v12 v14) fun v => K v h) fun v15 h =>
    B.pick v9 v15 (.bool false) fun v16 =>
    B.al c2 (B.gd h v16 true (fun K => K .undef h) fun _ h =>
    B.gd h v16 true (fun K => B.pv (V.field1 2 c2) fun v => K v h) fun v19 h =>
    B.al c3 (B.gd h v16 true (fun K => K .undef h) fun _ h =>
    B.gd h v16 true (fun K => B.pv (V.field1 2 c3) fun v => K v h) fun v21 h =>
    B.gd h v16 true (fun K => B.call C (N 132) [v19, v21] h K) fun v22 h =>
    B.pick v16 v22 (.bool false) fun v23 =>
    B.al c2 (B.gd h v23 true (fun K => K .undef h) fun _ h =>
    B.gd h v23 true (fun K => B.pv (V.field1 3 c2) fun v => K v h) fun v26 h =>
    B.al c3 (B.gd h v23 true (fun K => K .undef h) fun _ h =>
    B.gd h v23 true (fun K => B.pv (V.field1 3 c3) fun v => K v h) fun v28 h =>
    B.gd h v23 true (fun K => B.call C (N 133) [v26, v28] h K) fun v29 h =>
    B.pick v23 v29 (.bool false) fun v30 =>
    Q v30 h))))))))
/-- storeman/storemankit.SameItem -/
@[simp] def kit_SameItem.cps (C : CSem) (N : Nat → Nat) (v0 v1 : AVal) (h : AHeap) (Q : AVal → AHeap → Prop) : Prop :=
  kit_SameItem.k1 C N Q v0 v1 h
def kit_SameItem.Imp (C : CSem) (N : Nat → Nat) : Prop := ∀ (v0 v1 : AVal) (h : AHeap) (Q : AVal → AHeap → Prop), kit_SameItem.cps C N v0 v1 h (dn Q) → C (N 110) [v0, v1] h Q
@[simp] def kit_markLine.k1 (C : CSem) (N : Nat → Nat) (Q : AVal → AHeap → Prop) (v0 v1 : AVal) (h : AHeap) : Prop :=
  B.call C (N 20) [v0, v1] h fun v7 h =>
    B.pv (A.bld [(0, none, v7)] [.int .i64 0, .str [], .int .i64 0, .int .i64 0, .int .i64 0, .int .u8 0, .int .i64 0, .str []]) fun v8 =>
    B.pv (V.setN 0 8 v8 (.agg [.int .i64 0, .str [], .int .i64 0, .int .i64 0, .int .i64 0, .int .u8 0, .int .i64 0, .str []])) fun c4 =>
    B.pv (oneOf (joinV (V.fieldN 0 8 c4) (some []))) fun v => Q v h
/-- storeman/storemankit.markLine -/
@[simp] def kit_markLine.cps (C : CSem) (N : Nat → Nat) (v0 v1 : AVal) (h : AHeap) (Q : AVal → AHeap → Prop) : Prop :=
  kit_markLine.k1 C N Q v0 v1 h
def kit_markLine.Imp (C : CSem) (N : Nat → Nat) : Prop := ∀ (v0 v1 : AVal) (h : AHeap) (Q : AVal → AHeap → Prop), kit_markLine.cps C N v0 v1 h (dn Q) → C (N 111) [v0, v1] h Q
@[simp] def kit_markAsk.k1 (C : CSem) (N : Nat → Nat) (Q : AVal → AHeap → Prop) (v0 v1 : AVal) (h : AHeap) : Prop :=
  B.call C (N 20) [v0, v1] h fun v7 h =>
    B.pv (A.bld [(4, none, v7)] [.int .u8 0, .int .i64 0, .str [], .int .i64 0, .int .i64 0, .int .i64 0, .int .i64 0, .int .i64 0, .int .i64 0, .nils, .nils]) fun v8 =>
    B.pv (V.setN 0 11 v8 (.agg [.int .u8 0, .int .i64 0, .str [], .int .i64 0, .int .i64 0, .int .i64 0, .int .i64 0, .int .i64 0, .int .i64 0, .nils, .nils])) fun c4 =>
    B.pv (oneOf (joinV (V.fieldN 0 11 c4) (some []))) fun v => Q v h
/-- storeman/storemankit.markAsk -/
@[simp] def kit_markAsk.cps (C : CSem) (N : Nat → Nat) (v0 v1 : AVal) (h : AHeap) (Q : AVal → AHeap → Prop) : Prop :=
  kit_markAsk.k1 C N Q v0 v1 h
def kit_markAsk.Imp (C : CSem) (N : Nat → Nat) : Prop := ∀ (v0 v1 : AVal) (h : AHeap) (Q : AVal → AHeap → Prop), kit_markAsk.cps C N v0 v1 h (dn Q) → C (N 112) [v0, v1] h Q
@[simp] def kit_SameAsk.k1 (C : CSem) (N : Nat → Nat) (Q : AVal → AHeap → Prop) (v0 v1 : AVal) (h : AHeap) : Prop :=
  B.pv (A.boxN 11 v0) fun c2 =>
    B.pv (A.boxN 11 v1) fun c3 =>
    B.al c2 (B.pv (V.field1 0 c2) fun v6 =>
    B.al c3 (B.pv (V.field1 0 c3) fun v8 =>
    B.pv (V.bin .eql v6 v8) fun v9 =>
    B.al c2 (B.gd h v9 true (fun K => K .undef h) fun _ h =>
    B.gd h v9 true (fun K => B.pv (V.field1 1 c2) fun v => K v h) fun v12 h =>
    B.al c3 (B.gd h v9 true (fun K => K .undef h) fun _ h =>
    B.gd h v9 true (fun K => B.pv (V.field1 1 c3) fun v => K v h) fun v14 h =>
    B.gd h v9 true (fun K => B.pv (V.bin .eql v12 v14) fun v => K v h) fun v15 h =>
    B.pick v9 v15 (.bool false) fun v16 =>
    B.al c2 (B.gd h v16 true (fun K => K .undef h) fun _ h =>
    B.gd h v16 true (fun K => B.pv (V.field1 2 c2) fun v => K v h) fun v19 h =>
    B.al c3 (B.gd h v16 true (fun K => K .undef h) fun _ h =>
    B.gd h v16 true (fun K => B.pv (V.field1 2 c3) fun v => K v h) fun v21 h =>
    B.gd h v16 true (fun K => B.pv (V.bin .eql v19 v21) fun v => K v h) fun v22 h =>
    B.pick v16 v22 (.bool false) fun v23 =>
    B.al c2 (B.gd h v23 true (fun K => K .undef h) fun _ h =>
    B.gd h v23 true (fun K => B.pv (V.field1 3 c2) fun v => K v h) fun v26 h =>
    B.al c3 (B.gd h v23 true (fun K => K .undef h) fun _ h =>
    B.gd h v23 true (fun K => B.pv (V.field1 3 c3) fun v => K v h) fun v28 h =>
    B.gd h v23 true (fun K => B.pv (V.bin .eql v26 v28) fun v => K v h) fun v29 h =>
    B.pick v23 v29 (.bool false) fun v30 =>
    B.al c2 (B.gd h v30 true (fun K => K .undef h) fun _ h =>
    B.gd h v30 true (fun K => B.pv (V.field1 4 c2) fun v => K v h) fun v33 h =>
    B.al c3 (B.gd h v30 true (fun K => K .undef h) fun _ h =>
    B.gd h v30 true (fun K => B.pv (V.field1 4 c3) fun v => K v h) fun v35 h =>
    B.gd h v30 true (fun K => B.pv (V.bin .eql v33 v35) fun v => K v h) fun v36 h =>
    B.pick v30 v36 (.bool false) fun v37 =>
    B.al c2 (B.gd h v37 true (fun K => K .undef h) fun _ h =>
    B.gd h v37 true (fun K => B.pv (V.field1 5 c2) fun v => K v h) fun v40 h =>
    B.al c3 (B.gd h v37 true (fun K => K .undef h) fun _ h =>
    B.gd h v37 true (fun K => B.pv (V.field1 5 c3) fun v => K v h) fun v42 h =>
    B.gd h v37 true (fun K => B.pv (V.bin .eql v40 v42) fun v => K v h) fun v43 h =>
    B.pick v37 v43 (.bool false) fun v44 =>
    B.al c2 (B.gd h v44 true (fun K => K .undef h) fun _ h =>
    B.gd h v44 true (fun K => B.pv (V.field1 6 c2) fun v => K v h) fun v47 h =>
    B.al c3 (B.gd h v44 true (fun K => K .undef h) fun _ h =>
    B.gd h v44 true (fun K => B.pv (V.field1 6 c3) fun v => K v h) fun v49 h =>
    B.gd h v44 true (fun K => B.pv (V.bin .eql v47 v49) fun v => K v h) fun v50 h =>
    B.pick v44 v50 (.bool false) fun v51 =>
    B.al c2 (B.gd h v51 true (fun K => K .undef h) fun _ h =>
    B.gd h v51 true (fun K => B.pv (V.field1 7 c2) fun v => K v h) fun v54 h =>
    B.al c3 (B.gd h v51 true (fun K => K .undef h) fun _ h =>
    B.gd h v51 true (fun K => B.pv (V.field1 7 c3) fun v => K v h) fun v56 h =>
    B.gd h v51 true (fun K => B.pv (V.bin .eql v54 v56) fun v => K v h) fun v57 h =>
    B.pick v51 v57 (.bool false) fun v58 =>
    B.al c2 (B.gd h v58 true (fun K => K .undef h) fun _ h =>
    B.gd h v58 true (fun K => B.pv (V.field1 8 c2) fun v => K v h) fun v61 h =>
    B.al c3 (B.gd h v58 true (fun K => K .undef h) fun _ h =>
    B.gd h v58 true (fun K => B.pv (V.field1 8 c3) fun v => K v h) fun v63 h =>
    B.gd h v58 true (fun K => B.pv (V.bin .eql v61 v63) fun v => K v h) fun v64 h =>
    B.pick v58 v64 (.bool false) fun v65 =>
    B.al c2 (B.gd h v65 true (fun K => K .undef h) fun _ h =>
    B.gd h v65 true (fun K => B.pv (V.field1 9 c2) fun v => K v h) fun v68 h =>
    B.al c3 (B.gd h v65 true (fun K => K .undef h) fun _ h =>
    B.gd h v65 true (fun K => B.pv (V.field1 9 c3) fun v => K v h) fun v70 h =>
    B.gd h v65 true (fun K => B.call C (N 132) [v68, v70] h K) fun v71 h =>
    B.pick v65 v71 (.bool false) fun v72 =>
    B.al c2 (B.gd h v72 true (fun K => K .undef h) fun _ h =>
    B.gd h v72 true (fun K => B.pv (V.field1 10 c2) fun v => K v h) fun v75 h =>
    B.al c3 (B.gd h v72 true (fun K => K .undef h) fun _ h =>
    B.gd h v72 true (fun K => B.pv (V.field1 10 c3) fun v => K v h) fun v77 h =>
    B.gd h v72 true (fun K => B.call C (N 133) [v75, v77] h K) fun v78 h =>
    B.pick v72 v78 (.bool false) fun v79 =>
    Q v79 h))))))))))))))))))))))
/-- storeman/storemankit.SameAsk -/
@[simp] def kit_SameAsk.cps (C : CSem) (N : Nat → Nat) (v0 v1 : AVal) (h : AHeap) (Q : AVal → AHeap → Prop) : Prop :=
  kit_SameAsk.k1 C N Q v0 v1 h
def kit_SameAsk.Imp (C : CSem) (N : Nat → Nat) : Prop := ∀ (v0 v1 : AVal) (h : AHeap) (Q : AVal → AHeap → Prop), kit_SameAsk.cps C N v0 v1 h (dn Q) → C (N 113) [v0, v1] h Q
@[simp] def kit_markTell.k1 (C : CSem) (N : Nat → Nat) (Q : AVal → AHeap → Prop) (v0 v1 : AVal) (h : AHeap) : Prop :=
  B.call C (N 20) [v0, v1] h fun v7 h =>
    B.pv (A.bld [(1, none, v7)] [.int .i64 0, .int .i64 0, .int .i64 0, .str [], .int .u8 0, .nils, .nils]) fun v8 =>
    B.pv (V.setN 0 7 v8 (.agg [.int .i64 0, .int .i64 0, .int .i64 0, .str [], .int .u8 0, .nils, .nils])) fun c4 =>
    B.pv (oneOf (joinV (V.fieldN 0 7 c4) (some []))) fun v => Q v h
/-- storeman/storemankit.markTell -/
@[simp] def kit_markTell.cps (C : CSem) (N : Nat → Nat) (v0 v1 : AVal) (h : AHeap) (Q : AVal → AHeap → Prop) : Prop :=
  kit_markTell.k1 C N Q v0 v1 h
def kit_markTell.Imp (C : CSem) (N : Nat → Nat) : Prop := ∀ (v0 v1 : AVal) (h : AHeap) (Q : AVal → AHeap → Prop), kit_markTell.cps C N v0 v1 h (dn Q) → C (N 114) [v0, v1] h Q
@[simp] def kit_markState.k1 (C : CSem) (N : Nat → Nat) (Q : AVal → AHeap → Prop) (v0 v1 : AVal) (h : AHeap) : Prop :=
  B.call C (N 20) [v0, v1] h fun v7 h =>
    B.pv (A.bld [(0, none, v7)] [.int .i64 0, .int .i64 0, .int .i64 0, .nils, .nils, .nils]) fun v8 =>
    B.pv (V.setN 0 6 v8 (.agg [.int .i64 0, .int .i64 0, .int .i64 0, .nils, .nils, .nils])) fun c4 =>
    B.pv (oneOf (joinV (V.fieldN 0 6 c4) (some []))) fun v => Q v h
/-- storeman/storemankit.markState -/
@[simp] def kit_markState.cps (C : CSem) (N : Nat → Nat) (v0 v1 : AVal) (h : AHeap) (Q : AVal → AHeap → Prop) : Prop :=
  kit_markState.k1 C N Q v0 v1 h
def kit_markState.Imp (C : CSem) (N : Nat → Nat) : Prop := ∀ (v0 v1 : AVal) (h : AHeap) (Q : AVal → AHeap → Prop), kit_markState.cps C N v0 v1 h (dn Q) → C (N 115) [v0, v1] h Q
@[simp] def kit_SameState.k1 (C : CSem) (N : Nat → Nat) (Q : AVal → AHeap → Prop) (v0 v1 : AVal) (h : AHeap) : Prop :=
  B.pv (A.boxN 6 v0) fun c2 =>
    B.pv (A.boxN 6 v1) fun c3 =>
    B.al c2 (B.pv (V.field1 0 c2) fun v6 =>
    B.al c3 (B.pv (V.field1 0 c3) fun v8 =>
    B.pv (V.bin .eql v6 v8) fun v9 =>
    B.al c2 (B.gd h v9 true (fun K => K .undef h) fun _ h =>
    B.gd h v9 true (fun K => B.pv (V.field1 1 c2) fun v => K v h) fun v12 h =>
    B.al c3 (B.gd h v9 true (fun K => K .undef h) fun _ h =>
    B.gd h v9 true (fun K => B.pv (V.field1 1 c3) fun v => K v h) fun v14 h =>
    B.gd h v9 true (fun K => B.pv (V.bin .eql v12 v14) fun v => K v h) fun v15 h =>
    B.pick v9 v15 (.bool false) fun v16 =>
    B.al c2 (B.gd h v16 true (fun K => K .undef h) fun _ h =>
    B.gd h v16 true (fun K => B.pv (V.field1 2 c2) fun v => K v h) fun v19 h =>
    B.al c3 (B.gd h v16 true (fun K => K .undef h) fun _ h =>
    B.gd h v16 true (fun K => B.pv (V.field1 2 c3) fun v => K v h) fun v21 h =>
    B.gd h v16 true (fun K => B.pv (V.bin .eql v19 v21) fun v => K v h) fun v22 h =>
    B.pick v16 v22 (.bool false) fun v23 =>
    B.al c2 (B.gd h v23 true (fun K => K .undef h) fun _ h =>
    B.gd h v23 true (fun K => B.pv (V.field1 3 c2) fun v => K v h) fun v26 h =>
    B.al c3 (B.gd h v23 true (fun K => K .undef h) fun _ h =>
    B.gd h v23 true (fun K => B.pv (V.field1 3 c3) fun v => K v h) fun v28 h =>
    B.gd h v23 true (fun K => B.call C (N 134) [v26, v28] h K) fun v29 h =>
    B.pick v23 v29 (.bool false) fun v30 =>
    B.al c2 (B.gd h v30 true (fun K => K .undef h) fun _ h =>
    B.gd h v30 true (fun K => B.pv (V.field1 4 c2) fun v => K v h) fun v33 h =>
    B.al c3 (B.gd h v30 true (fun K => K .undef h) fun _ h =>
    B.gd h v30 true (fun K => B.pv (V.field1 4 c3) fun v => K v h) fun v35 h =>
    B.gd h v30 true (fun K => B.call C (N 74) [v33, v35] h K) fun v36 h =>
    B.pick v30 v36 (.bool false) fun v37 =>
    B.al c2 (B.gd h v37 true (fun K => K .undef h) fun _ h =>
    B.gd h v37 true (fun K => B.pv (V.field1 5 c2) fun v => K v h) fun v40 h =>
    B.al c3 (B.gd h v37 true (fun K => K .undef h) fun _ h =>
    B.gd h v37 true (fun K => B.pv (V.field1 5 c3) fun v => K v h) fun v42 h =>
    B.gd h v37 true (fun K => B.call C (N 135) [v40, v42] h K) fun v43 h =>
    B.pick v37 v43 (.bool false) fun v44 =>
    Q v44 h))))))))))))
/-- storeman/storemankit.SameState -/
@[simp] def kit_SameState.cps (C : CSem) (N : Nat → Nat) (v0 v1 : AVal) (h : AHeap) (Q : AVal → AHeap → Prop) : Prop :=
  kit_SameState.k1 C N Q v0 v1 h
def kit_SameState.Imp (C : CSem) (N : Nat → Nat) : Prop := ∀ (v0 v1 : AVal) (h : AHeap) (Q : AVal → AHeap → Prop), kit_SameState.cps C N v0 v1 h (dn Q) → C (N 116) [v0, v1] h Q
@[simp] def kit_markRow.k1 (C : CSem) (N : Nat → Nat) (Q : AVal → AHeap → Prop) (v0 v1 : AVal) (h : AHeap) : Prop :=
  B.call C (N 64) [v0, v1] h fun v7 h =>
    B.newO h (fillL [(0, none, v7)] (repL 1 [.int .u8 0])) fun i8 h =>
    B.pv (A.bld [(0, none, (.sl i8 0 0 1 1 1))] [.nils, .nils]) fun v9 =>
    B.pv (V.setN 0 2 v9 (.agg [.nils, .nils])) fun c4 =>
    B.pv (oneOf (joinV (V.fieldN 0 2 c4) (some []))) fun v => Q v h
/-- storeman/storemankit.markRow -/
@[simp] def kit_markRow.cps (C : CSem) (N : Nat → Nat) (v0 v1 : AVal) (h : AHeap) (Q : AVal → AHeap → Prop) : Prop :=
  kit_markRow.k1 C N Q v0 v1 h
def kit_markRow.Imp (C : CSem) (N : Nat → Nat) : Prop := ∀ (v0 v1 : AVal) (h : AHeap) (Q : AVal → AHeap → Prop), kit_markRow.cps C N v0 v1 h (dn Q) → C (N 117) [v0, v1] h Q
@[simp] def kit_SameRow.k1 (C : CSem) (N : Nat → Nat) (Q : AVal → AHeap → Prop) (v0 v1 : AVal) (h : AHeap) : Prop :=
  B.pv (A.boxN 2 v0) fun c2 =>
    B.pv (A.boxN 2 v1) fun c3 =>
    B.al c2 (B.pv (V.field1 0 c2) fun v6 =>
    B.al c3 (B.pv (V.field1 0 c3) fun v8 =>
    B.call C (N 34) [v6, v8] h fun v9 h =>
    B.al c2 (B.gd h v9 true (fun K => K .undef h) fun _ h =>
    B.gd h v9 true (fun K => B.pv (V.field1 1 c2) fun v => K v h) fun v12 h =>
    B.al c3 (B.gd h v9 true (fun K => K .undef h) fun _ h =>
    B.gd h v9 true (fun K => B.pv (V.field1 1 c3) fun v => K v h) fun v14 h =>
    B.gd h v9 true (fun K => B.call C (N 34) [v12, v14] h K) fun v15 h =>
    B.pick v9 v15 (.bool false) fun v16 =>
    Q v16 h))))
/-- storeman/storemankit.SameRow -/
@[simp] def kit_SameRow.cps (C : CSem) (N : Nat → Nat) (v0 v1 : AVal) (h : AHeap) (Q : AVal → AHeap → Prop) : Prop :=
  kit_SameRow.k1 C N Q v0 v1 h
def kit_SameRow.Imp (C : CSem) (N : Nat → Nat) : Prop := ∀ (v0 v1 : AVal) (h : AHeap) (Q : AVal → AHeap → Prop), kit_SameRow.cps C N v0 v1 h (dn Q) → C (N 118) [v0, v1] h Q
@[simp] def kit_markTurn.k1 (C : CSem) (N : Nat → Nat) (Q : AVal → AHeap → Prop) (v0 v1 : AVal) (h : AHeap) : Prop :=
  B.call C (N 64) [v0, v1] h fun v7 h =>
    B.newO h (fillL [(0, none, v7)] (repL 1 [.int .u8 0])) fun i8 h =>
    B.pv (A.bld [(0, none, (.sl i8 0 0 1 1 1))] [.nils, .nils, .nils]) fun v9 =>
    B.pv (V.setN 0 3 v9 (.agg [.nils, .nils, .nils])) fun c4 =>
    B.pv (oneOf (joinV (V.fieldN 0 3 c4) (some []))) fun v => Q v h
/-- storeman/storemankit.markTurn -/
@[simp] def kit_markTurn.cps (C : CSem) (N : Nat → Nat) (v0 v1 : AVal) (h : AHeap) (Q : AVal → AHeap → Prop) : Prop :=
  kit_markTurn.k1 C N Q v0 v1 h
def kit_markTurn.Imp (C : CSem) (N : Nat → Nat) : Prop := ∀ (v0 v1 : AVal) (h : AHeap) (Q : AVal → AHeap → Prop), kit_markTurn.cps C N v0 v1 h (dn Q) → C (N 119) [v0, v1] h Q
@[simp] def kit_SameTurn.k1 (C : CSem) (N : Nat → Nat) (Q : AVal → AHeap → Prop) (v0 v1 : AVal) (h : AHeap) : Prop :=
  B.pv (A.boxN 3 v0) fun c2 =>
    B.pv (A.boxN 3 v1) fun c3 =>
    B.al c2 (B.pv (V.field1 0 c2) fun v6 =>
    B.al c3 (B.pv (V.field1 0 c3) fun v8 =>
    B.call C (N 34) [v6, v8] h fun v9 h =>
    B.al c2 (B.gd h v9 true (fun K => K .undef h) fun _ h =>
    B.gd h v9 true (fun K => B.pv (V.field1 1 c2) fun v => K v h) fun v12 h =>
    B.al c3 (B.gd h v9 true (fun K => K .undef h) fun _ h =>
    B.gd h v9 true (fun K => B.pv (V.field1 1 c3) fun v => K v h) fun v14 h =>
    B.gd h v9 true (fun K => B.call C (N 34) [v12, v14] h K) fun v15 h =>
    B.pick v9 v15 (.bool false) fun v16 =>
    B.al c2 (B.gd h v16 true (fun K => K .undef h) fun _ h =>
    B.gd h v16 true (fun K => B.pv (V.field1 2 c2) fun v => K v h) fun v19 h =>
    B.al c3 (B.gd h v16 true (fun K => K .undef h) fun _ h =>
    B.gd h v16 true (fun K => B.pv (V.field1 2 c3) fun v => K v h) fun v21 h =>
    B.gd h v16 true (fun K => B.call C (N 34) [v19, v21] h K) fun v22 h =>
    B.pick v16 v22 (.bool false) fun v23 =>
    Q v23 h))))))
/-- storeman/storemankit.SameTurn -/
@[simp] def kit_SameTurn.cps (C : CSem) (N : Nat → Nat) (v0 v1 : AVal) (h : AHeap) (Q : AVal → AHeap → Prop) : Prop :=
  kit_SameTurn.k1 C N Q v0 v1 h
def kit_SameTurn.Imp (C : CSem) (N : Nat → Nat) : Prop := ∀ (v0 v1 : AVal) (h : AHeap) (Q : AVal → AHeap → Prop), kit_SameTurn.cps C N v0 v1 h (dn Q) → C (N 120) [v0, v1] h Q
@[simp] def kit_markFate.k1 (C : CSem) (N : Nat → Nat) (Q : AVal → AHeap → Prop) (v0 v1 : AVal) (h : AHeap) : Prop :=
  B.call C (N 20) [v0, v1] h fun v7 h =>
    B.pv (A.bld [(0, none, v7)] [.int .i64 0]) fun v8 =>
    B.pv (V.setN 0 1 v8 (.agg [.int .i64 0])) fun c4 =>
    B.pv (oneOf (joinV (V.fieldN 0 1 c4) (some []))) fun v => Q v h
/-- storeman/storemankit.markFate -/
@[simp] def kit_markFate.cps (C : CSem) (N : Nat → Nat) (v0 v1 : AVal) (h : AHeap) (Q : AVal → AHeap → Prop) : Prop :=
  kit_markFate.k1 C N Q v0 v1 h
def kit_markFate.Imp (C : CSem) (N : Nat → Nat) : Prop := ∀ (v0 v1 : AVal) (h : AHeap) (Q : AVal → AHeap → Prop), kit_markFate.cps C N v0 v1 h (dn Q) → C (N 121) [v0, v1] h Q
@[simp] def kit_markDirty.k1 (C : CSem) (N : Nat → Nat) (Q : AVal → AHeap → Prop) (v0 v1 : AVal) (h : AHeap) : Prop :=
  B.call C (N 20) [v0, v1] h fun v7 h =>
    B.pv (A.bld [(0, none, v7)] [.int .i64 0, .int .i64 0]) fun v8 =>
    B.pv (V.setN 0 2 v8 (.agg [.int .i64 0, .int .i64 0])) fun c4 =>
    B.pv (oneOf (joinV (V.fieldN 0 2 c4) (some []))) fun v => Q v h
/-- storeman/storemankit.markDirty -/
@[simp] def kit_markDirty.cps (C : CSem) (N : Nat → Nat) (v0 v1 : AVal) (h : AHeap) (Q : AVal → AHeap → Prop) : Prop :=
  kit_markDirty.k1 C N Q v0 v1 h
def kit_markDirty.Imp (C : CSem) (N : Nat → Nat) : Prop := ∀ (v0 v1 : AVal) (h : AHeap) (Q : AVal → AHeap → Prop), kit_markDirty.cps C N v0 v1 h (dn Q) → C (N 122) [v0, v1] h Q
@[simp] def kit_markOpen.k1 (C : CSem) (N : Nat → Nat) (Q : AVal → AHeap → Prop) (v0 v1 : AVal) (h : AHeap) : Prop :=
  B.call C (N 20) [v0, v1] h fun v7 h =>
    B.pv (A.bld [(0, none, v7)] [.int .i64 0, .int .i64 0]) fun v8 =>
    B.pv (V.setN 0 2 v8 (.agg [.int .i64 0, .int .i64 0])) fun c4 =>
    B.pv (oneOf (joinV (V.fieldN 0 2 c4) (some []))) fun v => Q v h
/-- storeman/storemankit.markOpen -/
@[simp] def kit_markOpen.cps (C : CSem) (N : Nat → Nat) (v0 v1 : AVal) (h : AHeap) (Q : AVal → AHeap → Prop) : Prop :=
  kit_markOpen.k1 C N Q v0 v1 h
def kit_markOpen.Imp (C : CSem) (N : Nat → Nat) : Prop := ∀ (v0 v1 : AVal) (h : AHeap) (Q : AVal → AHeap → Prop), kit_markOpen.cps C N v0 v1 h (dn Q) → C (N 123) [v0, v1] h Q
@[simp] def kit_markRecord.k1 (C : CSem) (N : Nat → Nat) (Q : AVal → AHeap → Prop) (v0 v1 : AVal) (h : AHeap) : Prop :=
  B.call C (N 20) [v0, v1] h fun v7 h =>
    B.pv (A.bld [(1, none, v7)] [.int .i64 0, .int .i64 0, .int .i64 0, .int .i64 0, .int .u8 0, .int .i64 0, .nils, .nils, .nils, .nils, .nils]) fun v8 =>
    B.pv (V.setN 0 11 v8 (.agg [.int .i64 0, .int .i64 0, .int .i64 0, .int .i64 0, .int .u8 0, .int .i64 0, .nils, .nils, .nils, .nils, .nils])) fun c4 =>
    B.pv (oneOf (joinV (V.fieldN 0 11 c4) (some []))) fun v => Q v h
/-- storeman/storemankit.markRecord -/
@[simp] def kit_markRecord.cps (C : CSem) (N : Nat → Nat) (v0 v1 : AVal) (h : AHeap) (Q : AVal → AHeap → Prop) : Prop :=
  kit_markRecord.k1 C N Q v0 v1 h
def kit_markRecord.Imp (C : CSem) (N : Nat → Nat) : Prop := ∀ (v0 v1 : AVal) (h : AHeap) (Q : AVal → AHeap → Prop), kit_markRecord.cps C N v0 v1 h (dn Q) → C (N 124) [v0, v1] h Q
@[simp] def kit_SameRecord.k1 (C : CSem) (N : Nat → Nat) (Q : AVal → AHeap → Prop) (v0 v1 : AVal) (h : AHeap) : Prop :=
  B.pv (A.boxN 11 v0) fun c2 =>
    B.pv (A.boxN 11 v1) fun c3 =>
    B.al c2 (B.pv (V.field1 0 c2) fun v6 =>
    B.al c3 (B.pv (V.field1 0 c3) fun v8 =>
    B.pv (V.bin .eql v6 v8) fun v9 =>
    B.al c2 (B.gd h v9 true (fun K => K .undef h) fun _ h =>
    B.gd h v9 true (fun K => B.pv (V.field1 1 c2) fun v => K v h) fun v12 h =>
    B.al c3 (B.gd h v9 true (fun K => K .undef h) fun _ h =>
    B.gd h v9 true (fun K => B.pv (V.field1 1 c3) fun v => K v h) fun v14 h =>
    B.gd h v9 true (fun K => B.pv (V.bin .eql v12 v14) fun v => K v h) fun v15 h =>
    B.pick v9 v15 (.bool false) fun v16 =>
    B.al c2 (B.gd h v16 true (fun K => K .undef h) fun _ h =>
    B.gd h v16 true (fun K => B.pv (V.field1 2 c2) fun v => K v h) fun v19 h =>
    B.al c3 (B.gd h v16 true (fun K => K .undef h) fun _ h =>
    B.gd h v16 true (fun K => B.pv (V.field1 2 c3) fun v => K v h) fun v21 h =>
    B.gd h v16 true (fun K => B.pv (V.bin .eql v19 v21) fun v => K v h) fun v22 h =>
    B.pick v16 v22 (.bool false) fun v23 =>
    B.al c2 (B.gd h v23 true (fun K => K .undef h) fun _ h =>
    B.gd h v23 true (fun K => B.pv (V.field1 3 c2) fun v => K v h) fun v26 h =>
    B.al c3 (B.gd h v23 true (fun K => K .undef h) fun _ h =>
    B.gd h v23 true (fun K => B.pv (V.field1 3 c3) fun v => K v h) fun v28 h =>
    B.gd h v23 true (fun K => B.pv (V.bin .eql v26 v28) fun v => K v h) fun v29 h =>
    B.pick v23 v29 (.bool false) fun v30 =>
    B.al c2 (B.gd h v30 true (fun K => K .undef h) fun _ h =>
    B.gd h v30 true (fun K => B.pv (V.field1 4 c2) fun v => K v h) fun v33 h =>
    B.al c3 (B.gd h v30 true (fun K => K .undef h) fun _ h =>
    B.gd h v30 true (fun K => B.pv (V.field1 4 c3) fun v => K v h) fun v35 h =>
    B.gd h v30 true (fun K => B.pv (V.bin .eql v33 v35) fun v => K v h) fun v36 h =>
    B.pick v30 v36 (.bool false) fun v37 =>
    B.al c2 (B.gd h v37 true (fun K => K .undef h) fun _ h =>
    B.gd h v37 true (fun K => B.pv (V.field1 5 c2) fun v => K v h) fun v40 h =>
    B.al c3 (B.gd h v37 true (fun K => K .undef h) fun _ h =>
    B.gd h v37 true (fun K => B.pv (V.field1 5 c3) fun v => K v h) fun v42 h =>
    B.gd h v37 true (fun K => B.pv (V.bin .eql v40 v42) fun v => K v h) fun v43 h =>
    B.pick v37 v43 (.bool false) fun v44 =>
    B.al c2 (B.gd h v44 true (fun K => K .undef h) fun _ h =>
    B.gd h v44 true (fun K => B.pv (V.fieldN 6 3 c2) fun v => K v h) fun v47 h =>
    B.al c3 (B.gd h v44 true (fun K => K .undef h) fun _ h =>
    B.gd h v44 true (fun K => B.pv (V.fieldN 6 3 c3) fun v => K v h) fun v49 h =>
    B.gd h v44 true (fun K => B.call C (N 120) [v47, v49] h K) fun v50 h =>
    B.pick v44 v50 (.bool false) fun v51 =>
    B.al c2 (B.gd h v51 true (fun K => K .undef h) fun _ h =>
    B.gd h v51 true (fun K => B.pv (V.field1 9 c2) fun v => K v h) fun v54 h =>
    B.al c3 (B.gd h v51 true (fun K => K .undef h) fun _ h =>
    B.gd h v51 true (fun K => B.pv (V.field1 9 c3) fun v => K v h) fun v56 h =>
    B.gd h v51 true (fun K => B.call C (N 136) [v54, v56] h K) fun v57 h =>
    B.pick v51 v57 (.bool false) fun v58 =>
    B.al c2 (B.gd h v58 true (fun K => K .undef h) fun _ h =>
    B.gd h v58 true (fun K => B.pv (V.field1 10 c2) fun v => K v h) fun v61 h =>
    B.al c3 (B.gd h v58 true (fun K => K .undef h) fun _ h =>
    B.gd h v58 true (fun K => B.pv (V.field1 10 c3) fun v => K v h) fun v63 h =>
    B.gd h v58 true (fun K => B.call C (N 137) [v61, v63] h K) fun v64 h =>
    B.pick v58 v64 (.bool false) fun v65 =>
    Q v65 h))))))))))))))))))
/-- storeman/storemankit.SameRecord -/
@[simp] def kit_SameRecord.cps (C : CSem) (N : Nat → Nat) (v0 v1 : AVal) (h : AHeap) (Q : AVal → AHeap → Prop) : Prop :=
  kit_SameRecord.k1 C N Q v0 v1 h
def kit_SameRecord.Imp (C : CSem) (N : Nat → Nat) : Prop := ∀ (v0 v1 : AVal) (h : AHeap) (Q : AVal → AHeap → Prop), kit_SameRecord.cps C N v0 v1 h (dn Q) → C (N 125) [v0, v1] h Q
@[simp] def kit_markStep.k1 (C : CSem) (N : Nat → Nat) (Q : AVal → AHeap → Prop) (v0 v1 : AVal) (h : AHeap) : Prop :=
  B.call C (N 20) [v0, v1] h fun v7 h =>
    B.pv (A.bld [(2, none, v7)] [.int .u8 0, .int .i64 0, .int .i64 0, .int .u8 0, .int .i64 0, .str [], .int .i64 0, .int .i64 0, .int .i64 0, .int .i64 0, .int .i64 0, .int .i64 0, .nils, .nils, .nils]) fun v8 =>
    B.pv (V.setN 0 15 v8 (.agg [.int .u8 0, .int .i64 0, .int .i64 0, .int .u8 0, .int .i64 0, .str [], .int .i64 0, .int .i64 0, .int .i64 0, .int .i64 0, .int .i64 0, .int .i64 0, .nils, .nils, .nils])) fun c4 =>
    B.pv (oneOf (joinV (V.fieldN 0 15 c4) (some []))) fun v => Q v h
/-- storeman/storemankit.markStep -/
@[simp] def kit_markStep.cps (C : CSem) (N : Nat → Nat) (v0 v1 : AVal) (h : AHeap) (Q : AVal → AHeap → Prop) : Prop :=
  kit_markStep.k1 C N Q v0 v1 h
def kit_markStep.Imp (C : CSem) (N : Nat → Nat) : Prop := ∀ (v0 v1 : AVal) (h : AHeap) (Q : AVal → AHeap → Prop), kit_markStep.cps C N v0 v1 h (dn Q) → C (N 126) [v0, v1] h Q
@[simp] def kit_SameStep.k1 (C : CSem) (N : Nat → Nat) (Q : AVal → AHeap → Prop) (v0 v1 : AVal) (h : AHeap) : Prop :=
  B.pv (A.boxN 15 v0) fun c2 =>
    B.pv (A.boxN 15 v1) fun c3 =>
    B.al c2 (B.pv (V.field1 0 c2) fun v6 =>
    B.al c3 (B.pv (V.field1 0 c3) fun v8 =>
    B.pv (V.bin .eql v6 v8) fun v9 =>
    B.al c2 (B.gd h v9 true (fun K => K .undef h) fun _ h =>
    B.gd h v9 true (fun K => B.pv (V.field1 1 c2) fun v => K v h) fun v12 h =>
    B.al c3 (B.gd h v9 true (fun K => K .undef h) fun _ h =>
    B.gd h v9 true (fun K => B.pv (V.field1 1 c3) fun v => K v h) fun v14 h =>
    B.gd h v9 true (fun K => B.pv (V.bin .eql v12 v14) fun v => K v h) fun v15 h =>
    B.pick v9 v15 (.bool false) fun v16 =>
    B.al c2 (B.gd h v16 true (fun K => K .undef h) fun _ h =>
    B.gd h v16 true (fun K => B.pv (V.field1 2 c2) fun v => K v h) fun v19 h =>
    B.al c3 (B.gd h v16 true (fun K => K .undef h) fun _ h =>
    B.gd h v16 true (fun K => B.pv (V.field1 2 c3) fun v => K v h) fun v21 h =>
    B.gd h v16 true (fun K => B.pv (V.bin .eql v19 v21) fun v => K v h) fun v22 h =>
    B.pick v16 v22 (.bool false) fun v23 =>
    B.al c2 (B.gd h v23 true (fun K => K .undef h) fun _ h =>
    B.gd h v23 true (fun K => B.pv (V.fieldN 3 11 c2) fun v => K v h) fun v26 h =>
    B.al c3 (B.gd h v23 true (fun K => K .undef h) fun _ h =>
    B.gd h v23 true (fun K => B.pv (V.fieldN 3 11 c3) fun v => K v h) fun v28 h =>
    B.gd h v23 true (fun K => B.call C (N 113) [v26, v28] h K) fun v29 h =>
    B.pick v23 v29 (.bool false) fun v30 =>
    B.al c2 (B.gd h v30 true (fun K => K .undef h) fun _ h =>
    B.gd h v30 true (fun K => B.pv (V.field1 14 c2) fun v => K v h) fun v33 h =>
    B.al c3 (B.gd h v30 true (fun K => K .undef h) fun _ h =>
    B.gd h v30 true (fun K => B.pv (V.field1 14 c3) fun v => K v h) fun v35 h =>
    B.gd h v30 true (fun K => B.call C (N 138) [v33, v35] h K) fun v36 h =>
    B.pick v30 v36 (.bool false) fun v37 =>
    Q v37 h))))))))))
/-- storeman/storemankit.SameStep -/
@[simp] def kit_SameStep.cps (C : CSem) (N : Nat → Nat) (v0 v1 : AVal) (h : AHeap) (Q : AVal → AHeap → Prop) : Prop :=
  kit_SameStep.k1 C N Q v0 v1 h
def kit_SameStep.Imp (C : CSem) (N : Nat → Nat) : Prop := ∀ (v0 v1 : AVal) (h : AHeap) (Q : AVal → AHeap → Prop), kit_SameStep.cps C N v0 v1 h (dn Q) → C (N 127) [v0, v1] h Q
@[simp] def kit_markTale.k1 (C : CSem) (N : Nat → Nat) (Q : AVal → AHeap → Prop) (v0 v1 : AVal) (h : AHeap) : Prop :=
  B.call C (N 20) [v0, v1] h fun v7 h =>
    B.pv (A.bld [(1, none, v7)] [.int .u8 0, .int .i64 0, .int .i64 0, .int .u8 0, .int .i64 0, .str [], .int .i64 0, .int .i64 0, .int .i64 0, .int .i64 0, .int .i64 0, .int .i64 0, .nils, .nils, .int .i64 0, .int .i64 0, .int .i64 0, .str [], .int .u8 0, .nils, .nils]) fun v8 =>
    B.pv (V.setN 0 21 v8 (.agg [.int .u8 0, .int .i64 0, .int .i64 0, .int .u8 0, .int .i64 0, .str [], .int .i64 0, .int .i64 0, .int .i64 0, .int .i64 0, .int .i64 0, .int .i64 0, .nils, .nils, .int .i64 0, .int .i64 0, .int .i64 0, .str [], .int .u8 0, .nils, .nils])) fun c4 =>
    B.pv (oneOf (joinV (V.fieldN 0 21 c4) (some []))) fun v => Q v h
/-- storeman/storemankit.markTale -/
@[simp] def kit_markTale.cps (C : CSem) (N : Nat → Nat) (v0 v1 : AVal) (h : AHeap) (Q : AVal → AHeap → Prop) : Prop :=
  kit_markTale.k1 C N Q v0 v1 h
def kit_markTale.Imp (C : CSem) (N : Nat → Nat) : Prop := ∀ (v0 v1 : AVal) (h : AHeap) (Q : AVal → AHeap → Prop), kit_markTale.cps C N v0 v1 h (dn Q) → C (N 128) [v0, v1] h Q
@[simp] def kit_SameTale.k1 (C : CSem) (N : Nat → Nat) (Q : AVal → AHeap → Prop) (v0 v1 : AVal) (h : AHeap) : Prop :=
  B.pv (A.boxN 21 v0) fun c2 =>
    B.pv (A.boxN 21 v1) fun c3 =>
    B.al c2 (B.pv (V.field1 0 c2) fun v6 =>
    B.al c3 (B.pv (V.field1 0 c3) fun v8 =>
    B.pv (V.bin .eql v6 v8) fun v9 =>
    B.al c2 (B.gd h v9 true (fun K => K .undef h) fun _ h =>
    B.gd h v9 true (fun K => B.pv (V.field1 1 c2) fun v => K v h) fun v12 h =>
    B.al c3 (B.gd h v9 true (fun K => K .undef h) fun _ h =>
    B.gd h v9 true (fun K => B.pv (V.field1 1 c3) fun v => K v h) fun v14 h =>
    B.gd h v9 true (fun K => B.pv (V.bin .eql v12 v14) fun v => K v h) fun v15 h =>
    B.pick v9 v15 (.bool false) fun v16 =>
    B.al c2 (B.gd h v16 true (fun K => K .undef h) fun _ h =>
    B.gd h v16 true (fun K => B.pv (V.field1 2 c2) fun v => K v h) fun v19 h =>
    B.al c3 (B.gd h v16 true (fun K => K .undef h) fun _ h =>
    B.gd h v16 true (fun K => B.pv (V.field1 2 c3) fun v => K v h) fun v21 h =>
    B.gd h v16 true (fun K => B.pv (V.bin .eql v19 v21) fun v => K v h) fun v22 h =>
    B.pick v16 v22 (.bool false) fun v23 =>
    B.al c2 (B.gd h v23 true (fun K => K .undef h) fun _ h =>
    B.gd h v23 true (fun K => B.pv (V.fieldN 3 11 c2) fun v => K v h) fun v26 h =>
    B.al c3 (B.gd h v23 true (fun K => K .undef h) fun _ h =>
    B.gd h v23 true (fun K => B.pv (V.fieldN 3 11 c3) fun v => K v h) fun v28 h =>
    B.gd h v23 true (fun K => B.call C (N 113) [v26, v28] h K) fun v29 h =>
    B.pick v23 v29 (.bool false) fun v30 =>
    B.al c2 (B.gd h v30 true (fun K => K .undef h) fun _ h =>
    B.gd h v30 true (fun K => B.pv (V.fieldN 14 7 c2) fun v => K v h) fun v33 h =>
    B.al c3 (B.gd h v30 true (fun K => K .undef h) fun _ h =>
    B.gd h v30 true (fun K => B.pv (V.fieldN 14 7 c3) fun v => K v h) fun v35 h =>
    B.gd h v30 true (fun K => B.call C (N 42) [v33, v35] h K) fun v36 h =>
    B.pick v30 v36 (.bool false) fun v37 =>
    Q v37 h))))))))))
/-- storeman/storemankit.SameTale -/
@[simp] def kit_SameTale.cps (C : CSem) (N : Nat → Nat) (v0 v1 : AVal) (h : AHeap) (Q : AVal → AHeap → Prop) : Prop :=
  kit_SameTale.k1 C N Q v0 v1 h
def kit_SameTale.Imp (C : CSem) (N : Nat → Nat) : Prop := ∀ (v0 v1 : AVal) (h : AHeap) (Q : AVal → AHeap → Prop), kit_SameTale.cps C N v0 v1 h (dn Q) → C (N 129) [v0, v1] h Q
@[simp] def kit_bag_putLots.k1 (C : CSem) (N : Nat → Nat) (Q : AVal → AHeap → Prop) (v0 v1 : AVal) (h : AHeap) : Prop :=
  B.nilCheck v0 fun v6 =>
    B.pv (V.fieldAddr 6 v6) fun v7 =>
    B.ld h v7 fun v8 =>
    B.newO h (fillL [(0, none, v1)] (repL 1 [.nils])) fun i10 h =>
    B.appW h 1 24 v8 (.sl i10 0 0 1 1 1) fun v11 h =>
    B.nilCheck v0 fun v12 =>
    B.pv (V.fieldAddr 6 v12) fun v13 =>
    B.st h v13 v11 fun h =>
    Q (.tup []) h
/-- (ptr storeman/storemankit.bag).putLots -/
@[simp] def kit_bag_putLots.cps (C : CSem) (N : Nat → Nat) (v0 v1 : AVal) (h : AHeap) (Q : AVal → AHeap → Prop) : Prop :=
  kit_bag_putLots.k1 C N Q v0 v1 h
def kit_bag_putLots.Imp (C : CSem) (N : Nat → Nat) : Prop := ∀ (v0 v1 : AVal) (h : AHeap) (Q : AVal → AHeap → Prop), kit_bag_putLots.cps C N v0 v1 h (dn Q) → C (N 130) [v0, v1] h Q
@[simp] def kit_bag_putUses.k1 (C : CSem) (N : Nat → Nat) (Q : AVal → AHeap → Prop) (v0 v1 : AVal) (h : AHeap) : Prop :=
  B.nilCheck v0 fun v6 =>
    B.pv (V.fieldAddr 8 v6) fun v7 =>
    B.ld h v7 fun v8 =>
    B.newO h (fillL [(0, none, v1)] (repL 1 [.nils])) fun i10 h =>
    B.appW h 1 24 v8 (.sl i10 0 0 1 1 1) fun v11 h =>
    B.nilCheck v0 fun v12 =>
    B.pv (V.fieldAddr 8 v12) fun v13 =>
    B.st h v13 v11 fun h =>
    Q (.tup []) h
/-- (ptr storeman/storemankit.bag).putUses -/
@[simp] def kit_bag_putUses.cps (C : CSem) (N : Nat → Nat) (v0 v1 : AVal) (h : AHeap) (Q : AVal → AHeap → Prop) : Prop :=
  kit_bag_putUses.k1 C N Q v0 v1 h
def kit_bag_putUses.Imp (C : CSem) (N : Nat → Nat) : Prop := ∀ (v0 v1 : AVal) (h : AHeap) (Q : AVal → AHeap → Prop), kit_bag_putUses.cps C N v0 v1 h (dn Q) → C (N 131) [v0, v1] h Q
@[simp] def kit_SameParts.k3 (C : CSem) (N : Nat → Nat) (Q : AVal → AHeap → Prop) (v0 v1 : AVal) (h : AHeap) : Prop :=
  B.pv (V.lenSl v0) fun v7 =>
    B.pv (V.lenSl v1) fun v9 =>
    B.pv (V.bin .neq v7 v9) fun v10 =>
    B.cond v10
    (Q (.bool false) h)
    (LoopR (sameG.l4 2 [.s, .i .i64] Q v0 v1) [(.int .i64 0)] h)
/-- storeman/storemankit.SameParts -/
def kit_SameParts.cps (C : CSem) (N : Nat → Nat) (v0 v1 : AVal) (h : AHeap) (Q : AVal → AHeap → Prop) : Prop :=
  kit_SameParts.k3 C N Q v0 v1 h
def kit_SameParts.Imp (C : CSem) (N : Nat → Nat) : Prop := ∀ (v0 v1 : AVal) (h : AHeap) (Q : AVal → AHeap → Prop), kit_SameParts.cps C N v0 v1 h (dn Q) → C (N 132) [v0, v1] h Q
@[simp] def kit_SameTexts.k3 (C : CSem) (N : Nat → Nat) (Q : AVal → AHeap → Prop) (v0 v1 : AVal) (h : AHeap) : Prop :=
  B.pv (V.lenSl v0) fun v7 =>
    B.pv (V.lenSl v1) fun v9 =>
    B.pv (V.bin .neq v7 v9) fun v10 =>
    B.cond v10
    (Q (.bool false) h)
    (LoopR (sameS.l4  Q v0 v1) [(.int .i64 0)] h)
/-- storeman/storemankit.SameTexts -/
def kit_SameTexts.cps (C : CSem) (N : Nat → Nat) (v0 v1 : AVal) (h : AHeap) (Q : AVal → AHeap → Prop) : Prop :=
  kit_SameTexts.k3 C N Q v0 v1 h
def kit_SameTexts.Imp (C : CSem) (N : Nat → Nat) : Prop := ∀ (v0 v1 : AVal) (h : AHeap) (Q : AVal → AHeap → Prop), kit_SameTexts.cps C N v0 v1 h (dn Q) → C (N 133) [v0, v1] h Q
@[simp] def kit_SameItems.k1 (C : CSem) (N : Nat → Nat) (Q : AVal → AHeap → Prop) (Y1 : List AVal → AHeap → Prop) (v0 v1 v5 : AVal) (h : AHeap) : Prop :=
  B.pv (V.lenSl v0) fun v13 =>
    B.pv (V.bin .lss v5 v13) fun v14 =>
    B.cond v14
    (B.pv (V.idxS 4 v0 v5) fun v19 =>
    B.ldn h v19 4 fun v20 =>
    B.pv (V.idxS 4 v1 v5) fun v23 =>
    B.ldn h v23 4 fun v24 =>
    B.call C (N 110) [v20, v24] h fun v25 h =>
    B.pv (V.un .not v25) fun v26 =>
    B.cond v26
    (Q (.bool false) h)
    (B.pv (V.bin .add v5 (.int .i64 1)) fun v16 =>
    Y1 [v16] h))
    (Q (.bool true) h)
@[simp] def kit_SameItems.l2 (C : CSem) (N : Nat → Nat) (Q : AVal → AHeap → Prop) (v0 v1 : AVal) : List AVal → AHeap → (List AVal → AHeap → Prop) → Prop
  | [v5], h, Y1 => kit_SameItems.k1 C N Q Y1 v0 v1 v5 h
  | _, _, _ => False
@[simp] def kit_SameItems.k3 (C : CSem) (N : Nat → Nat) (Q : AVal → AHeap → Prop) (v0 v1 : AVal) (h : AHeap) : Prop :=
  B.pv (V.lenSl v0) fun v7 =>
    B.pv (V.lenSl v1) fun v9 =>
    B.pv (V.bin .neq v7 v9) fun v10 =>
    B.cond v10
    (Q (.bool false) h)
    (LoopR (kit_SameItems.l2 C N Q v0 v1) [(.int .i64 0)] h)
/-- storeman/storemankit.SameItems -/
@[simp] def kit_SameItems.cps (C : CSem) (N : Nat → Nat) (v0 v1 : AVal) (h : AHeap) (Q : AVal → AHeap → Prop) : Prop :=
  kit_SameItems.k3 C N Q v0 v1 h
def kit_SameItems.Imp (C : CSem) (N : Nat → Nat) : Prop := ∀ (v0 v1 : AVal) (h : AHeap) (Q : AVal → AHeap → Prop), kit_SameItems.cps C N v0 v1 h (dn Q) → C (N 134) [v0, v1] h Q
@[simp] def kit_SameLines.k3 (C : CSem) (N : Nat → Nat) (Q : AVal → AHeap → Prop) (v0 v1 : AVal) (h : AHeap) : Prop :=
  B.pv (V.lenSl v0) fun v7 =>
    B.pv (V.lenSl v1) fun v9 =>
    B.pv (V.bin .neq v7 v9) fun v10 =>
    B.cond v10
    (Q (.bool false) h)
    (LoopR (sameG.l4 8 [.i .i64, .s, .i .i64, .i .i64, .i .i64, .i .u8, .i .i64, .s] Q v0 v1) [(.int .i64 0)] h)
/-- storeman/storemankit.SameLines -/
def kit_SameLines.cps (C : CSem) (N : Nat → Nat) (v0 v1 : AVal) (h : AHeap) (Q : AVal → AHeap → Prop) : Prop :=
  kit_SameLines.k3 C N Q v0 v1 h
def kit_SameLines.Imp (C : CSem) (N : Nat → Nat) : Prop := ∀ (v0 v1 : AVal) (h : AHeap) (Q : AVal → AHeap → Prop), kit_SameLines.cps C N v0 v1 h (dn Q) → C (N 135) [v0, v1] h Q
@[simp] def kit_SameDirties.k3 (C : CSem) (N : Nat → Nat) (Q : AVal → AHeap → Prop) (v0 v1 : AVal) (h : AHeap) : Prop :=
  B.pv (V.lenSl v0) fun v7 =>
    B.pv (V.lenSl v1) fun v9 =>
    B.pv (V.bin .neq v7 v9) fun v10 =>
    B.cond v10
    (Q (.bool false) h)
    (LoopR (sameG.l4 2 [.i .i64, .i .i64] Q v0 v1) [(.int .i64 0)] h)
/-- storeman/storemankit.SameDirties -/
def kit_SameDirties.cps (C : CSem) (N : Nat → Nat) (v0 v1 : AVal) (h : AHeap) (Q : AVal → AHeap → Prop) : Prop :=
  kit_SameDirties.k3 C N Q v0 v1 h
def kit_SameDirties.Imp (C : CSem) (N : Nat → Nat) : Prop := ∀ (v0 v1 : AVal) (h : AHeap) (Q : AVal → AHeap → Prop), kit_SameDirties.cps C N v0 v1 h (dn Q) → C (N 136) [v0, v1] h Q
@[simp] def kit_SameOpens.k3 (C : CSem) (N : Nat → Nat) (Q : AVal → AHeap → Prop) (v0 v1 : AVal) (h : AHeap) : Prop :=
  B.pv (V.lenSl v0) fun v7 =>
    B.pv (V.lenSl v1) fun v9 =>
    B.pv (V.bin .neq v7 v9) fun v10 =>
    B.cond v10
    (Q (.bool false) h)
    (LoopR (sameG.l4 2 [.i .i64, .i .i64] Q v0 v1) [(.int .i64 0)] h)
/-- storeman/storemankit.SameOpens -/
def kit_SameOpens.cps (C : CSem) (N : Nat → Nat) (v0 v1 : AVal) (h : AHeap) (Q : AVal → AHeap → Prop) : Prop :=
  kit_SameOpens.k3 C N Q v0 v1 h
def kit_SameOpens.Imp (C : CSem) (N : Nat → Nat) : Prop := ∀ (v0 v1 : AVal) (h : AHeap) (Q : AVal → AHeap → Prop), kit_SameOpens.cps C N v0 v1 h (dn Q) → C (N 137) [v0, v1] h Q
@[simp] def kit_SameFates.k3 (C : CSem) (N : Nat → Nat) (Q : AVal → AHeap → Prop) (v0 v1 : AVal) (h : AHeap) : Prop :=
  B.pv (V.lenSl v0) fun v7 =>
    B.pv (V.lenSl v1) fun v9 =>
    B.pv (V.bin .neq v7 v9) fun v10 =>
    B.cond v10
    (Q (.bool false) h)
    (LoopR (sameG.l4 1 [.i .i64] Q v0 v1) [(.int .i64 0)] h)
/-- storeman/storemankit.SameFates -/
def kit_SameFates.cps (C : CSem) (N : Nat → Nat) (v0 v1 : AVal) (h : AHeap) (Q : AVal → AHeap → Prop) : Prop :=
  kit_SameFates.k3 C N Q v0 v1 h
def kit_SameFates.Imp (C : CSem) (N : Nat → Nat) : Prop := ∀ (v0 v1 : AVal) (h : AHeap) (Q : AVal → AHeap → Prop), kit_SameFates.cps C N v0 v1 h (dn Q) → C (N 138) [v0, v1] h Q
end Go.Ab

/- What is told: residuals: what each function does in the abstract memory, printed by a program of mine. Definitions alone. -/
set_option linter.unusedVariables false
namespace Go.Ab
@[simp] def law14_great.k1 (C : CSem) (N : Nat → Nat) (Q : AVal → AHeap → Prop) (v0 : AVal) (h : AHeap) : Prop :=
  B.pv (A.boxN 7 v0) fun c1 =>
    B.al c1 (B.pv (V.field1 5 c1) fun v4 =>
    B.pv (V.lenSl v4) fun v5 =>
    B.pv (V.bin .gtr v5 (.int .i64 3000)) fun v6 =>
    B.al c1 (B.gd h v6 false (fun K => K .undef h) fun _ h =>
    B.gd h v6 false (fun K => B.pv (V.field1 6 c1) fun v => K v h) fun v9 h =>
    B.gd h v6 false (fun K => B.pv (V.lenSl v9) fun v => K v h) fun v10 h =>
    B.gd h v6 false (fun K => B.pv (V.bin .gtr v10 (.int .i64 10000)) fun v => K v h) fun v11 h =>
    B.pick v6 (.bool true) v11 fun v12 =>
    B.al c1 (B.gd h v12 false (fun K => K .undef h) fun _ h =>
    B.gd h v12 false (fun K => B.pv (V.field1 3 c1) fun v => K v h) fun v15 h =>
    B.gd h v12 false (fun K => B.pv (V.lenStr v15) fun v => K v h) fun v16 h =>
    B.gd h v12 false (fun K => B.pv (V.bin .gtr v16 (.int .i64 10000)) fun v => K v h) fun v17 h =>
    B.pick v12 (.bool true) v17 fun v18 =>
    Q v18 h)))
/-- storeman/storemanlaw14.great -/
@[simp] def law14_great.cps (C : CSem) (N : Nat → Nat) (v0 : AVal) (h : AHeap) (Q : AVal → AHeap → Prop) : Prop :=
  law14_great.k1 C N Q v0 h
def law14_great.Imp (C : CSem) (N : Nat → Nat) : Prop := ∀ (v0 : AVal) (h : AHeap) (Q : AVal → AHeap → Prop), law14_great.cps C N v0 h (dn Q) → C (N 25) [v0] h Q
@[simp] def law14_awake.k1 (C : CSem) (N : Nat → Nat) (Q : AVal → AHeap → Prop) (h : AHeap) : Prop :=
  B.pv (A.bld [(1, none, (.int .i64 3))] [.int .i64 0, .int .i64 0, .int .i64 0, .str [], .int .u8 0, .nils, .nils]) fun v7 =>
    B.call C (N 28) [v7] h fun v8 h =>
    B.pv (V.ext 0 v8) fun v9 =>
    B.pv (V.ext 1 v8) fun v10 =>
    B.newO h (fillL [(0, none, (.int .u8 0)), (1, none, (.int .u8 5)), (2, none, (.int .u8 9))] (repL 3 [.int .u8 0])) fun i12 h =>
    B.call C (N 38) [(.sl i12 0 0 3 1 3)] h fun v13 h =>
    B.pv (V.ext 0 v13) fun v14 =>
    B.pv (V.ext 1 v13) fun v15 =>
    B.pv (V.ext 2 v13) fun v16 =>
    B.pv (V.setN 0 7 v14 (.agg [.int .i64 0, .int .i64 0, .int .i64 0, .str [], .int .u8 0, .nils, .nils])) fun c3 =>
    B.pv (V.bin .eql v10 (.int .i64 0)) fun v18 =>
    B.gd h v18 true (fun K => K v9 h) fun v20 h =>
    B.gd h v18 true (fun K => B.newO h (fillL [(0, none, (.int .u8 0)), (1, none, (.int .u8 0)), (2, none, (.int .u8 0)), (3, none, (.int .u8 0)), (4, none, (.int .u8 0)), (5, none, (.int .u8 0)), (6, none, (.int .u8 0)), (7, none, (.int .u8 0)), (8, none, (.int .u8 0)), (9, none, (.int .u8 3)), (10, none, (.int .u8 0)), (11, none, (.int .u8 1)), (12, none, (.int .u8 0)), (13, none, (.int .u8 0)), (14, none, (.int .u8 0)), (15, none, (.int .u8 0)), (16, none, (.int .u8 0)), (17, none, (.int .u8 0))] (repL 18 [.int .u8 0])) fun i h => K (.sl i 0 0 18 1 18) h) fun v21 h =>
    B.gd h v18 true (fun K => B.call C (N 34) [v20, v21] h K) fun v22 h =>
    B.pick v18 v22 (.bool false) fun v23 =>
    B.gd h v23 true (fun K => K v16 h) fun v25 h =>
    B.gd h v23 true (fun K => B.pv (V.bin .eql v25 (.int .i64 0)) fun v => K v h) fun v26 h =>
    B.pick v23 v26 (.bool false) fun v27 =>
    B.gd h v27 true (fun K => K v15 h) fun v29 h =>
    B.gd h v27 true (fun K => B.pv (V.bin .eql v29 (.int .i64 2)) fun v => K v h) fun v30 h =>
    B.pick v27 v30 (.bool false) fun v31 =>
    B.al c3 (B.gd h v31 true (fun K => K .undef h) fun _ h =>
    B.gd h v31 true (fun K => B.pv (V.field1 0 c3) fun v => K v h) fun v34 h =>
    B.gd h v31 true (fun K => B.pv (V.bin .eql v34 (.int .i64 5)) fun v => K v h) fun v35 h =>
    B.pick v31 v35 (.bool false) fun v36 =>
    B.gd h v36 true (fun K => B.pv (A.bld [] [.int .i64 0, .int .i64 0, .int .i64 0, .str [], .int .u8 0, .nils, .nils]) fun v => K v h) fun v38 h =>
    B.gd h v36 true (fun K => B.call C (N 29) [v38] h K) fun v39 h =>
    B.pick v36 v39 (.bool false) fun v40 =>
    B.gd h v40 true (fun K => B.pv (A.bld [(0, none, (.int .i64 5)), (2, none, (.int .i64 (-1)))] [.int .i64 0, .int .i64 0, .int .i64 0, .str [], .int .u8 0, .nils, .nils]) fun v => K v h) fun v42 h =>
    B.gd h v40 true (fun K => B.call C (N 29) [v42] h K) fun v43 h =>
    B.gd h v40 true (fun K => B.pv (V.un .not v43) fun v => K v h) fun v44 h =>
    B.pick v40 v44 (.bool false) fun v45 =>
    Q v45 h)
/-- storeman/storemanlaw14.awake -/
@[simp] def law14_awake.cps (C : CSem) (N : Nat → Nat) (h : AHeap) (Q : AVal → AHeap → Prop) : Prop :=
  law14_awake.k1 C N Q h
def law14_awake.Imp (C : CSem) (N : Nat → Nat) : Prop := ∀ (h : AHeap) (Q : AVal → AHeap → Prop), law14_awake.cps C N h (dn Q) → C (N 26) [] h Q
@[simp] def law14_TellPuts.k1 (C : CSem) (N : Nat → Nat) (Q : AVal → AHeap → Prop) (v0 : AVal) (h : AHeap) : Prop :=
  B.pv (A.boxN 7 v0) fun c1 =>
    B.pv (V.fieldN 0 7 c1) fun v11 =>
    B.call C (N 25) [v11] h fun v12 h =>
    B.cond v12
    (B.call C (N 26) [] h fun v13 h =>
    Q v13 h)
    (B.pv (V.fieldN 0 7 c1) fun v14 =>
    B.call C (N 27) [v14] h fun v15 h =>
    B.pv (V.setN 0 7 v15 (.agg [.int .i64 0, .int .i64 0, .int .i64 0, .str [], .int .u8 0, .nils, .nils])) fun c3 =>
    B.pv (V.fieldN 0 7 c3) fun v17 =>
    B.call C (N 28) [v17] h fun v18 h =>
    B.pv (V.ext 0 v18) fun v19 =>
    B.pv (V.ext 1 v18) fun v20 =>
    B.pv (V.fieldN 0 7 c3) fun v22 =>
    B.call C (N 28) [v22] h fun v23 h =>
    B.pv (V.ext 0 v23) fun v24 =>
    B.pv (V.ext 1 v23) fun v25 =>
    B.pv (V.fieldN 0 7 c3) fun v26 =>
    B.call C (N 29) [v26] h fun v27 h =>
    B.pv (V.fieldN 0 7 c3) fun v28 =>
    B.pv (V.fieldN 0 7 c1) fun v29 =>
    B.call C (N 30) [v28, v29] h fun v30 h =>
    B.pv (V.un .not v30) fun v31 =>
    B.cond v31
    (Q (.bool false) h)
    (B.pv (V.fieldN 0 7 c3) fun v32 =>
    B.call C (N 31) [v32] h fun v33 h =>
    B.pv (V.fieldN 0 7 c1) fun v35 =>
    B.call C (N 32) [v35] h fun v36 h =>
    B.pv (V.ext 0 v36) fun v37 =>
    B.pv (V.ext 1 v36) fun v38 =>
    B.pv (V.fieldN 0 7 c1) fun v40 =>
    B.call C (N 33) [v40] h fun v41 h =>
    B.pv (V.eqBool .eql v27 v41) fun v42 =>
    B.gd h v42 true (fun K => K v20 h) fun v44 h =>
    B.gd h v42 true (fun K => K v38 h) fun v45 h =>
    B.gd h v42 true (fun K => B.pv (V.bin .eql v44 v45) fun v => K v h) fun v46 h =>
    B.pick v42 v46 (.bool false) fun v47 =>
    B.gd h v47 true (fun K => K v19 h) fun v49 h =>
    B.gd h v47 true (fun K => K v37 h) fun v50 h =>
    B.gd h v47 true (fun K => B.call C (N 34) [v49, v50] h K) fun v51 h =>
    B.pick v47 v51 (.bool false) fun v52 =>
    B.gd h v52 true (fun K => K v19 h) fun v54 h =>
    B.gd h v52 true (fun K => K v24 h) fun v55 h =>
    B.gd h v52 true (fun K => B.newO h (fillL [(0, none, v54), (1, none, v55)] (repL 2 [.nils])) fun i h => K (.sl i 0 0 2 1 2) h) fun v56 h =>
    B.gd h v52 true (fun K => B.call C (N 35) [v56] h K) fun v57 h =>
    B.pick v52 v57 (.bool false) fun v58 =>
    B.gd h v58 true (fun K => B.call C (N 26) [] h K) fun v60 h =>
    B.pick v58 v60 (.bool false) fun v61 =>
    Q v61 h))
/-- storeman/storemanlaw14.TellPuts -/
@[simp] def law14_TellPuts.cps (C : CSem) (N : Nat → Nat) (v0 : AVal) (h : AHeap) (Q : AVal → AHeap → Prop) : Prop :=
  law14_TellPuts.k1 C N Q v0 h
def law14_TellPuts.Imp (C : CSem) (N : Nat → Nat) : Prop := ∀ (v0 : AVal) (h : AHeap) (Q : AVal → AHeap → Prop), law14_TellPuts.cps C N v0 h (dn Q) → C (N 36) [v0] h Q
@[simp] def law14_TellGets.k1 (C : CSem) (N : Nat → Nat) (Q : AVal → AHeap → Prop) (v0 : AVal) (h : AHeap) : Prop :=
  B.pv (V.lenSl v0) fun v14 =>
    B.pv (V.bin .gtr v14 (.int .i64 100000)) fun v15 =>
    B.cond v15
    (B.call C (N 26) [] h fun v16 h =>
    Q v16 h)
    (B.call C (N 37) [v0] h fun v18 h =>
    B.call C (N 38) [v18] h fun v21 h =>
    B.pv (V.ext 0 v21) fun v22 =>
    B.pv (V.ext 1 v21) fun v23 =>
    B.pv (V.ext 2 v21) fun v24 =>
    B.pv (V.setN 0 7 v22 (.agg [.int .i64 0, .int .i64 0, .int .i64 0, .str [], .int .u8 0, .nils, .nils])) fun c4 =>
    B.call C (N 38) [v18] h fun v27 h =>
    B.pv (V.ext 0 v27) fun v28 =>
    B.pv (V.ext 1 v27) fun v29 =>
    B.pv (V.ext 2 v27) fun v30 =>
    B.pv (V.setN 0 7 v28 (.agg [.int .i64 0, .int .i64 0, .int .i64 0, .str [], .int .u8 0, .nils, .nils])) fun c7 =>
    B.call C (N 39) [v18, v0] h fun v33 h =>
    B.pv (V.un .not v33) fun v34 =>
    B.cond v34
    (Q (.bool false) h)
    (B.call C (N 40) [v18] h fun v36 h =>
    B.call C (N 41) [v0] h fun v39 h =>
    B.pv (V.ext 0 v39) fun v40 =>
    B.pv (V.ext 1 v39) fun v41 =>
    B.pv (V.ext 2 v39) fun v42 =>
    B.pv (V.setN 0 7 v40 (.agg [.int .i64 0, .int .i64 0, .int .i64 0, .str [], .int .u8 0, .nils, .nils])) fun c10 =>
    B.pv (V.bin .eql v23 v41) fun v45 =>
    B.gd h v45 true (fun K => K v24 h) fun v47 h =>
    B.gd h v45 true (fun K => K v42 h) fun v48 h =>
    B.gd h v45 true (fun K => B.pv (V.bin .eql v47 v48) fun v => K v h) fun v49 h =>
    B.pick v45 v49 (.bool false) fun v50 =>
    B.gd h v50 true (fun K => B.pv (V.fieldN 0 7 c4) fun v => K v h) fun v52 h =>
    B.gd h v50 true (fun K => B.pv (V.fieldN 0 7 c10) fun v => K v h) fun v53 h =>
    B.gd h v50 true (fun K => B.call C (N 42) [v52, v53] h K) fun v54 h =>
    B.pick v50 v54 (.bool false) fun v55 =>
    B.gd h v55 true (fun K => B.pv (V.fieldN 0 7 c7) fun v => K v h) fun v57 h =>
    B.gd h v55 true (fun K => B.pv (V.fieldN 0 7 c10) fun v => K v h) fun v58 h =>
    B.gd h v55 true (fun K => B.call C (N 42) [v57, v58] h K) fun v59 h =>
    B.pick v55 v59 (.bool false) fun v60 =>
    B.gd h v60 true (fun K => B.pv (V.fieldN 0 7 c4) fun v => K v h) fun v62 h =>
    B.gd h v60 true (fun K => B.newO h (fillL [(0, some 7, v62)] (repL 1 [.int .i64 0, .int .i64 0, .int .i64 0, .str [], .int .u8 0, .nils, .nils])) fun i h => K (.sl i 0 0 1 7 1) h) fun v63 h =>
    B.gd h v60 true (fun K => B.pv (V.fieldN 0 7 c7) fun v => K v h) fun v64 h =>
    B.gd h v60 true (fun K => B.newO h (fillL [(0, some 7, v64)] (repL 1 [.int .i64 0, .int .i64 0, .int .i64 0, .str [], .int .u8 0, .nils, .nils])) fun i h => K (.sl i 0 0 1 7 1) h) fun v65 h =>
    B.gd h v60 true (fun K => B.newO h (fillL [(0, none, v63), (1, none, v65)] (repL 2 [.nils])) fun i h => K (.sl i 0 0 2 1 2) h) fun v66 h =>
    B.gd h v60 true (fun K => B.call C (N 43) [v66] h K) fun v67 h =>
    B.pick v60 v67 (.bool false) fun v68 =>
    B.gd h v68 true (fun K => B.call C (N 26) [] h K) fun v70 h =>
    B.pick v68 v70 (.bool false) fun v71 =>
    Q v71 h))
/-- storeman/storemanlaw14.TellGets -/
@[simp] def law14_TellGets.cps (C : CSem) (N : Nat → Nat) (v0 : AVal) (h : AHeap) (Q : AVal → AHeap → Prop) : Prop :=
  law14_TellGets.k1 C N Q v0 h
def law14_TellGets.Imp (C : CSem) (N : Nat → Nat) : Prop := ∀ (v0 : AVal) (h : AHeap) (Q : AVal → AHeap → Prop), law14_TellGets.cps C N v0 h (dn Q) → C (N 44) [v0] h Q
@[simp] def law14_TellBack.k1 (C : CSem) (N : Nat → Nat) (Q : AVal → AHeap → Prop) (v0 v1 : AVal) (h : AHeap) : Prop :=
  B.pv (A.boxN 7 v0) fun c2 =>
    B.call C (N 26) [] h fun v10 h =>
    B.pv (V.un .not v10) fun v11 =>
    B.cond v11
    (Q (.bool false) h)
    (B.pv (V.fieldN 0 7 c2) fun v12 =>
    B.call C (N 25) [v12] h fun v13 h =>
    B.gd h v13 false (fun K => K v1 h) fun v15 h =>
    B.gd h v13 false (fun K => B.pv (V.lenSl v15) fun v => K v h) fun v16 h =>
    B.gd h v13 false (fun K => B.pv (V.bin .gtr v16 (.int .i64 100000)) fun v => K v h) fun v17 h =>
    B.pick v13 (.bool true) v17 fun v18 =>
    B.cond v18
    (Q (.bool true) h)
    (B.pv (V.fieldN 0 7 c2) fun v20 =>
    B.call C (N 28) [v20] h fun v21 h =>
    B.pv (V.ext 0 v21) fun v22 =>
    B.pv (V.ext 1 v21) fun v23 =>
    B.pv (V.fieldN 0 7 c2) fun v24 =>
    B.call C (N 29) [v24] h fun v25 h =>
    B.pv (V.un .not v25) fun v26 =>
    B.cond v26
    (B.pv (V.bin .eql v23 (.int .i64 2)) fun v28 =>
    B.gd h v28 true (fun K => K v22 h) fun v30 h =>
    B.gd h v28 true (fun K => B.pv (V.lenSl v30) fun v => K v h) fun v31 h =>
    B.gd h v28 true (fun K => B.pv (V.bin .eql v31 (.int .i64 0)) fun v => K v h) fun v32 h =>
    B.pick v28 v32 (.bool false) fun v33 =>
    Q v33 h)
    (B.call C (N 45) [v22] h fun v36 h =>
    B.appW h 1 1 v36 v1 fun v38 h =>
    B.call C (N 38) [v38] h fun v39 h =>
    B.pv (V.ext 0 v39) fun v40 =>
    B.pv (V.ext 1 v39) fun v41 =>
    B.pv (V.ext 2 v39) fun v42 =>
    B.pv (V.setN 0 7 v40 (.agg [.int .i64 0, .int .i64 0, .int .i64 0, .str [], .int .u8 0, .nils, .nils])) fun c7 =>
    B.pv (V.bin .eql v23 (.int .i64 0)) fun v44 =>
    B.gd h v44 true (fun K => K v42 h) fun v46 h =>
    B.gd h v44 true (fun K => B.pv (V.bin .eql v46 (.int .i64 0)) fun v => K v h) fun v47 h =>
    B.pick v44 v47 (.bool false) fun v48 =>
    B.gd h v48 true (fun K => K v41 h) fun v50 h =>
    B.gd h v48 true (fun K => K v22 h) fun v51 h =>
    B.gd h v48 true (fun K => B.pv (V.lenSl v51) fun v => K v h) fun v52 h =>
    B.gd h v48 true (fun K => B.pv (V.bin .eql v50 v52) fun v => K v h) fun v53 h =>
    B.pick v48 v53 (.bool false) fun v54 =>
    B.gd h v54 true (fun K => B.pv (V.fieldN 0 7 c2) fun v => K v h) fun v56 h =>
    B.gd h v54 true (fun K => B.pv (V.fieldN 0 7 c7) fun v => K v h) fun v57 h =>
    B.gd h v54 true (fun K => B.call C (N 42) [v56, v57] h K) fun v58 h =>
    B.pick v54 v58 (.bool false) fun v59 =>
    Q v59 h)))
/-- storeman/storemanlaw14.TellBack -/
@[simp] def law14_TellBack.cps (C : CSem) (N : Nat → Nat) (v0 v1 : AVal) (h : AHeap) (Q : AVal → AHeap → Prop) : Prop :=
  law14_TellBack.k1 C N Q v0 v1 h
def law14_TellBack.Imp (C : CSem) (N : Nat → Nat) : Prop := ∀ (v0 v1 : AVal) (h : AHeap) (Q : AVal → AHeap → Prop), law14_TellBack.cps C N v0 v1 h (dn Q) → C (N 46) [v0, v1] h Q
@[simp] def law14_TellWhole.k1 (C : CSem) (N : Nat → Nat) (Q : AVal → AHeap → Prop) (Y1 : List AVal → AHeap → Prop) (v0 v4 v8 : AVal) (h : AHeap) : Prop :=
  B.pv (V.bin .lss v8 v4) fun v71 =>
    B.cond v71
    (B.pv (V.cutSl 1 v0 none (some v8)) fun v77 =>
    B.call C (N 38) [v77] h fun v78 h =>
    B.pv (V.ext 0 v78) fun v79 =>
    B.pv (V.ext 1 v78) fun v80 =>
    B.pv (V.ext 2 v78) fun v81 =>
    B.pv (V.setN 0 7 v79 (.agg [.int .i64 0, .int .i64 0, .int .i64 0, .str [], .int .u8 0, .nils, .nils])) fun c9 =>
    B.pv (V.bin .neq v81 (.int .i64 4)) fun v83 =>
    B.cond v83
    (Q (.bool false) h)
    (B.pv (V.bin .add v8 (.int .i64 1)) fun v73 =>
    Y1 [v73] h))
    (Q (.bool true) h)
@[simp] def law14_TellWhole.l2 (C : CSem) (N : Nat → Nat) (Q : AVal → AHeap → Prop) (v0 v4 : AVal) : List AVal → AHeap → (List AVal → AHeap → Prop) → Prop
  | [v8], h, Y1 => law14_TellWhole.k1 C N Q Y1 v0 v4 v8 h
  | _, _, _ => False
@[simp] def law14_TellWhole.k3 (C : CSem) (N : Nat → Nat) (Q : AVal → AHeap → Prop) (v0 v4 v6 v7 c3 : AVal) (h : AHeap) : Prop :=
  B.pv (V.bin .lss v4 (.int .i64 1)) fun v42 =>
    B.gd h v42 false (fun K => K v4 h) fun v44 h =>
    B.gd h v42 false (fun K => K v0 h) fun v45 h =>
    B.gd h v42 false (fun K => B.pv (V.lenSl v45) fun v => K v h) fun v46 h =>
    B.gd h v42 false (fun K => B.pv (V.bin .gtr v44 v46) fun v => K v h) fun v47 h =>
    B.pick v42 (.bool true) v47 fun v48 =>
    B.gd h v48 false (fun K => B.pv (V.fieldN 0 7 c3) fun v => K v h) fun v50 h =>
    B.gd h v48 false (fun K => B.call C (N 29) [v50] h K) fun v51 h =>
    B.gd h v48 false (fun K => B.pv (V.un .not v51) fun v => K v h) fun v52 h =>
    B.pick v48 (.bool true) v52 fun v53 =>
    B.gd h v53 false (fun K => K v7 h) fun v55 h =>
    B.gd h v53 false (fun K => B.pv (V.bin .neq v55 (.int .i64 0)) fun v => K v h) fun v56 h =>
    B.pick v53 (.bool true) v56 fun v57 =>
    B.gd h v57 false (fun K => K v6 h) fun v59 h =>
    B.gd h v57 false (fun K => K v0 h) fun v60 h =>
    B.gd h v57 false (fun K => K v4 h) fun v61 h =>
    B.gd h v57 false (fun K => B.pv (V.cutSl 1 v60 none (some v61)) fun v => K v h) fun v62 h =>
    B.gd h v57 false (fun K => B.call C (N 34) [v59, v62] h K) fun v63 h =>
    B.gd h v57 false (fun K => B.pv (V.un .not v63) fun v => K v h) fun v64 h =>
    B.pick v57 (.bool true) v64 fun v65 =>
    B.cond v65
    (Q (.bool false) h)
    (B.pv (V.bin .sub v4 (.int .i64 40)) fun v67 =>
    B.pv (V.max2 (.int .i64 0) v67) fun v68 =>
    LoopR (law14_TellWhole.l2 C N Q v0 v4) [v68] h)
@[simp] def law14_TellWhole.k4 (C : CSem) (N : Nat → Nat) (Q : AVal → AHeap → Prop) (v0 v4 c3 : AVal) (h : AHeap) : Prop :=
  B.pv (V.fieldN 0 7 c3) fun v37 =>
    B.call C (N 28) [v37] h fun v38 h =>
    B.pv (V.ext 0 v38) fun v39 =>
    B.pv (V.ext 1 v38) fun v40 =>
    law14_TellWhole.k3 C N Q v0 v4 v39 v40 c3 h
@[simp] def law14_TellWhole.k5 (C : CSem) (N : Nat → Nat) (Q : AVal → AHeap → Prop) (v0 v4 v5 c3 : AVal) (h : AHeap) : Prop :=
  B.pv (V.bin .neq v5 (.int .i64 0)) fun v24 =>
    B.cond v24
    (B.pv (V.bin .eql v5 (.int .i64 4)) fun v26 =>
    B.gd h v26 true (fun K => K v4 h) fun v28 h =>
    B.gd h v26 true (fun K => B.pv (V.bin .eql v28 (.int .i64 0)) fun v => K v h) fun v29 h =>
    B.pick v26 v29 (.bool false) fun v30 =>
    B.gd h v30 true (fun K => B.pv (V.fieldN 0 7 c3) fun v => K v h) fun v32 h =>
    B.gd h v30 true (fun K => B.pv (A.bld [] [.int .i64 0, .int .i64 0, .int .i64 0, .str [], .int .u8 0, .nils, .nils]) fun v => K v h) fun v33 h =>
    B.gd h v30 true (fun K => B.call C (N 42) [v32, v33] h K) fun v34 h =>
    B.pick v30 v34 (.bool false) fun v35 =>
    Q v35 h)
    (law14_TellWhole.k4 C N Q v0 v4 c3 h)
@[simp] def law14_TellWhole.k6 (C : CSem) (N : Nat → Nat) (Q : AVal → AHeap → Prop) (v0 : AVal) (h : AHeap) : Prop :=
  B.call C (N 38) [v0] h fun v19 h =>
    B.pv (V.ext 0 v19) fun v20 =>
    B.pv (V.ext 1 v19) fun v21 =>
    B.pv (V.ext 2 v19) fun v22 =>
    B.pv (V.setN 0 7 v20 (.agg [.int .i64 0, .int .i64 0, .int .i64 0, .str [], .int .u8 0, .nils, .nils])) fun c3 =>
    law14_TellWhole.k5 C N Q v0 v21 v22 c3 h
@[simp] def law14_TellWhole.k7 (C : CSem) (N : Nat → Nat) (Q : AVal → AHeap → Prop) (v0 : AVal) (h : AHeap) : Prop :=
  B.call C (N 26) [] h fun v12 h =>
    B.pv (V.un .not v12) fun v13 =>
    B.cond v13
    (Q (.bool false) h)
    (B.pv (V.lenSl v0) fun v15 =>
    B.pv (V.bin .gtr v15 (.int .i64 9000)) fun v16 =>
    B.cond v16
    (Q (.bool true) h)
    (law14_TellWhole.k6 C N Q v0 h))
/-- storeman/storemanlaw14.TellWhole -/
@[simp] def law14_TellWhole.cps (C : CSem) (N : Nat → Nat) (v0 : AVal) (h : AHeap) (Q : AVal → AHeap → Prop) : Prop :=
  law14_TellWhole.k7 C N Q v0 h
def law14_TellWhole.Imp (C : CSem) (N : Nat → Nat) : Prop := ∀ (v0 : AVal) (h : AHeap) (Q : AVal → AHeap → Prop), law14_TellWhole.cps C N v0 h (dn Q) → C (N 47) [v0] h Q
@[simp] def law14_turned.k1 (C : CSem) (N : Nat → Nat) (Q : AVal → AHeap → Prop) (Y1 : List AVal → AHeap → Prop) (Y2 : List AVal → AHeap → Prop) (v3 v6 v7 : AVal) (h : AHeap) : Prop :=
  B.pv (V.bin .lss v7 (.int .i64 256)) fun v40 =>
    B.cond v40
    (B.call C (N 45) [v3] h fun v45 h =>
    B.newO h (fillL [(0, none, (.int .u8 0)), (1, none, (.int .u8 0)), (2, none, (.int .u8 0))] (repL 3 [.int .u8 0])) fun i46 h =>
    B.appW h 1 1 v45 (.sl i46 0 0 3 1 3) fun v47 h =>
    B.pv (V.idxS 1 v47 v6) fun v52 =>
    B.ld h v52 fun v53 =>
    B.pv (V.toInt .u8 v7) fun v55 =>
    B.pv (V.bin .add v53 v55) fun v56 =>
    B.pv (V.idxS 1 v47 v6) fun v57 =>
    B.st h v57 v56 fun h =>
    B.call C (N 44) [v47] h fun v59 h =>
    B.pv (V.un .not v59) fun v60 =>
    B.cond v60
    (Q (.bool false) h)
    (B.pv (V.bin .mul (.int .i64 2) v7) fun v42 =>
    B.pv (V.bin .add v42 (.int .i64 1)) fun v43 =>
    Y2 [v43] h))
    (B.pv (V.bin .add v6 (.int .i64 1)) fun v38 =>
    Y1 [v38] h)
@[simp] def law14_turned.l2 (C : CSem) (N : Nat → Nat) (Q : AVal → AHeap → Prop) (Y1 : List AVal → AHeap → Prop) (v3 v6 : AVal) : List AVal → AHeap → (List AVal → AHeap → Prop) → Prop
  | [v7], h, Y2 => law14_turned.k1 C N Q Y1 Y2 v3 v6 v7 h
  | _, _, _ => False
@[simp] def law14_turned.k3 (C : CSem) (N : Nat → Nat) (Q : AVal → AHeap → Prop) (Y1 : List AVal → AHeap → Prop) (v3 v6 : AVal) (h : AHeap) : Prop :=
  B.pv (V.lenSl v3) fun v34 =>
    B.pv (V.min2 v34 (.int .i64 70)) fun v35 =>
    B.pv (V.bin .lss v6 v35) fun v36 =>
    B.cond v36
    (LoopR (law14_turned.l2 C N Q Y1 v3 v6) [(.int .i64 1)] h)
    (Q (.bool true) h)
@[simp] def law14_turned.l4 (C : CSem) (N : Nat → Nat) (Q : AVal → AHeap → Prop) (v3 : AVal) : List AVal → AHeap → (List AVal → AHeap → Prop) → Prop
  | [v6], h, Y1 => law14_turned.k3 C N Q Y1 v3 v6 h
  | _, _, _ => False
@[simp] def law14_turned.k5 (C : CSem) (N : Nat → Nat) (Q : AVal → AHeap → Prop) (Y3 : List AVal → AHeap → Prop) (v3 v5 : AVal) (h : AHeap) : Prop :=
  B.pv (V.lenSl v3) fun v23 =>
    B.pv (V.bin .leq v5 v23) fun v24 =>
    B.cond v24
    (B.pv (V.cutSl 1 v3 none (some v5)) fun v29 =>
    B.call C (N 44) [v29] h fun v30 h =>
    B.pv (V.un .not v30) fun v31 =>
    B.cond v31
    (Q (.bool false) h)
    (B.pv (V.bin .add v5 (.int .i64 1)) fun v26 =>
    Y3 [v26] h))
    (LoopR (law14_turned.l4 C N Q v3) [(.int .i64 0)] h)
@[simp] def law14_turned.l6 (C : CSem) (N : Nat → Nat) (Q : AVal → AHeap → Prop) (v3 : AVal) : List AVal → AHeap → (List AVal → AHeap → Prop) → Prop
  | [v5], h, Y3 => law14_turned.k5 C N Q Y3 v3 v5 h
  | _, _, _ => False
@[simp] def law14_turned.k7 (C : CSem) (N : Nat → Nat) (Q : AVal → AHeap → Prop) (v3 v4 c1 : AVal) (h : AHeap) : Prop :=
  B.pv (V.bin .neq v4 (.int .i64 0)) fun v15 =>
    B.gd h v15 false (fun K => B.pv (V.fieldN 0 7 c1) fun v => K v h) fun v17 h =>
    B.gd h v15 false (fun K => B.call C (N 29) [v17] h K) fun v18 h =>
    B.gd h v15 false (fun K => B.pv (V.un .not v18) fun v => K v h) fun v19 h =>
    B.pick v15 (.bool true) v19 fun v20 =>
    B.cond v20
    (Q (.bool false) h)
    (LoopR (law14_turned.l6 C N Q v3) [(.int .i64 0)] h)
@[simp] def law14_turned.k8 (C : CSem) (N : Nat → Nat) (Q : AVal → AHeap → Prop) (c1 : AVal) (h : AHeap) : Prop :=
  B.pv (V.fieldN 0 7 c1) fun v10 =>
    B.call C (N 28) [v10] h fun v11 h =>
    B.pv (V.ext 0 v11) fun v12 =>
    B.pv (V.ext 1 v11) fun v13 =>
    law14_turned.k7 C N Q v12 v13 c1 h
/-- storeman/storemanlaw14.turned -/
@[simp] def law14_turned.cps (C : CSem) (N : Nat → Nat) (v0 : AVal) (h : AHeap) (Q : AVal → AHeap → Prop) : Prop :=
  B.pv (A.boxN 7 v0) fun c1 =>
    law14_turned.k8 C N Q c1 h
def law14_turned.Imp (C : CSem) (N : Nat → Nat) : Prop := ∀ (v0 : AVal) (h : AHeap) (Q : AVal → AHeap → Prop), law14_turned.cps C N v0 h (dn Q) → C (N 139) [v0] h Q
@[simp] def law14_bent.k1 (C : CSem) (N : Nat → Nat) (Q : AVal → AHeap → Prop) (c2 c4 : AVal) (h : AHeap) : Prop :=
  B.al c2 (B.pv (V.setF 0 (.int .i64 (-1)) c2) fun c2 =>
    B.pv (V.fieldN 0 7 c2) fun v99 =>
    B.pv (V.setN 0 7 v99 c4) fun c4 =>
    B.pv (oneOf (joinV (V.fieldN 0 7 c4) (some []))) fun v => Q v h)
@[simp] def law14_bent.k2 (C : CSem) (N : Nat → Nat) (Q : AVal → AHeap → Prop) (c2 c4 : AVal) (h : AHeap) : Prop :=
  B.al c2 (B.pv (V.setF 0 (.int .i64 1000) c2) fun c2 =>
    B.pv (V.fieldN 0 7 c2) fun v99 =>
    B.pv (V.setN 0 7 v99 c4) fun c4 =>
    B.pv (oneOf (joinV (V.fieldN 0 7 c4) (some []))) fun v => Q v h)
@[simp] def law14_bent.k3 (C : CSem) (N : Nat → Nat) (Q : AVal → AHeap → Prop) (c2 c4 : AVal) (h : AHeap) : Prop :=
  B.al c2 (B.pv (V.setF 0 (.int .i64 1) c2) fun c2 =>
    B.pv (V.fieldN 0 7 c2) fun v99 =>
    B.pv (V.setN 0 7 v99 c4) fun c4 =>
    B.pv (oneOf (joinV (V.fieldN 0 7 c4) (some []))) fun v => Q v h)
@[simp] def law14_bent.k4 (C : CSem) (N : Nat → Nat) (Q : AVal → AHeap → Prop) (c2 c4 : AVal) (h : AHeap) : Prop :=
  B.al c2 (B.pv (V.setF 1 (.int .i64 (-1)) c2) fun c2 =>
    B.pv (V.fieldN 0 7 c2) fun v99 =>
    B.pv (V.setN 0 7 v99 c4) fun c4 =>
    B.pv (oneOf (joinV (V.fieldN 0 7 c4) (some []))) fun v => Q v h)
@[simp] def law14_bent.k5 (C : CSem) (N : Nat → Nat) (Q : AVal → AHeap → Prop) (c2 c4 : AVal) (h : AHeap) : Prop :=
  B.al c2 (B.pv (V.setF 2 (.int .i64 (-2)) c2) fun c2 =>
    B.pv (V.fieldN 0 7 c2) fun v99 =>
    B.pv (V.setN 0 7 v99 c4) fun c4 =>
    B.pv (oneOf (joinV (V.fieldN 0 7 c4) (some []))) fun v => Q v h)
@[simp] def law14_bent.k6 (C : CSem) (N : Nat → Nat) (Q : AVal → AHeap → Prop) (c2 c4 : AVal) (h : AHeap) : Prop :=
  B.al c2 (B.pv (V.setF 2 (.int .i64 4001) c2) fun c2 =>
    B.pv (V.fieldN 0 7 c2) fun v99 =>
    B.pv (V.setN 0 7 v99 c4) fun c4 =>
    B.pv (oneOf (joinV (V.fieldN 0 7 c4) (some []))) fun v => Q v h)
@[simp] def law14_bent.k7 (C : CSem) (N : Nat → Nat) (Q : AVal → AHeap → Prop) (c2 c4 : AVal) (h : AHeap) : Prop :=
  B.al c2 (B.pv (V.setF 3 (.str [97]) c2) fun c2 =>
    B.pv (V.fieldN 0 7 c2) fun v99 =>
    B.pv (V.setN 0 7 v99 c4) fun c4 =>
    B.pv (oneOf (joinV (V.fieldN 0 7 c4) (some []))) fun v => Q v h)
@[simp] def law14_bent.k8 (C : CSem) (N : Nat → Nat) (Q : AVal → AHeap → Prop) (c2 c4 : AVal) (h : AHeap) : Prop :=
  B.al c2 (B.pv (V.setF 4 (.int .u8 4) c2) fun c2 =>
    B.pv (V.fieldN 0 7 c2) fun v99 =>
    B.pv (V.setN 0 7 v99 c4) fun c4 =>
    B.pv (oneOf (joinV (V.fieldN 0 7 c4) (some []))) fun v => Q v h)
@[simp] def law14_bent.k9 (C : CSem) (N : Nat → Nat) (Q : AVal → AHeap → Prop) (c2 c4 : AVal) (h : AHeap) : Prop :=
  B.pv (A.bld [] [.int .i64 0, .str [], .int .i64 0, .int .i64 0, .int .i64 0, .bool false]) fun v34 =>
    B.newO h (fillL [(0, some 6, v34)] (repL 1 [.int .i64 0, .str [], .int .i64 0, .int .i64 0, .int .i64 0, .bool false])) fun i35 h =>
    B.al c2 (B.pv (V.field1 5 c2) fun v37 =>
    B.appW h 6 56 (.sl i35 0 0 1 6 1) v37 fun v38 h =>
    B.al c2 (B.pv (V.setF 5 v38 c2) fun c2 =>
    B.pv (V.fieldN 0 7 c2) fun v99 =>
    B.pv (V.setN 0 7 v99 c4) fun c4 =>
    B.pv (oneOf (joinV (V.fieldN 0 7 c4) (some []))) fun v => Q v h))
@[simp] def law14_bent.k10 (C : CSem) (N : Nat → Nat) (Q : AVal → AHeap → Prop) (c2 c4 : AVal) (h : AHeap) : Prop :=
  0 < 6 ∧ B.mks h 56 (some [.int .i64 0, .str [], .int .i64 0, .int .i64 0, .int .i64 0, .bool false]) (.int .i64 301) (.int .i64 301) fun v42 h =>
    B.al c2 (B.pv (V.setF 5 v42 c2) fun c2 =>
    B.pv (V.fieldN 0 7 c2) fun v99 =>
    B.pv (V.setN 0 7 v99 c4) fun c4 =>
    B.pv (oneOf (joinV (V.fieldN 0 7 c4) (some []))) fun v => Q v h)
@[simp] def law14_bent.k11 (C : CSem) (N : Nat → Nat) (Q : AVal → AHeap → Prop) (c2 c4 : AVal) (h : AHeap) : Prop :=
  B.pv (A.bld [(0, none, (.int .i64 (-1))), (1, none, (.int .i64 1)), (2, none, (.int .i64 1))] [.int .i64 0, .int .i64 0, .int .i64 0]) fun v46 =>
    B.newO h (fillL [(0, some 3, v46)] (repL 1 [.int .i64 0, .int .i64 0, .int .i64 0])) fun i47 h =>
    B.al c2 (B.pv (V.setF 6 (.sl i47 0 0 1 3 1) c2) fun c2 =>
    B.pv (V.fieldN 0 7 c2) fun v99 =>
    B.pv (V.setN 0 7 v99 c4) fun c4 =>
    B.pv (oneOf (joinV (V.fieldN 0 7 c4) (some []))) fun v => Q v h)
@[simp] def law14_bent.k12 (C : CSem) (N : Nat → Nat) (Q : AVal → AHeap → Prop) (c2 c4 : AVal) (h : AHeap) : Prop :=
  B.pv (A.bld [(1, none, (.int .i64 0)), (2, none, (.int .i64 1))] [.int .i64 0, .int .i64 0, .int .i64 0]) fun v51 =>
    B.newO h (fillL [(0, some 3, v51)] (repL 1 [.int .i64 0, .int .i64 0, .int .i64 0])) fun i52 h =>
    B.al c2 (B.pv (V.setF 6 (.sl i52 0 0 1 3 1) c2) fun c2 =>
    B.pv (V.fieldN 0 7 c2) fun v99 =>
    B.pv (V.setN 0 7 v99 c4) fun c4 =>
    B.pv (oneOf (joinV (V.fieldN 0 7 c4) (some []))) fun v => Q v h)
@[simp] def law14_bent.k13 (C : CSem) (N : Nat → Nat) (Q : AVal → AHeap → Prop) (c2 c4 : AVal) (h : AHeap) : Prop :=
  B.pv (A.bld [(1, none, (.int .i64 1)), (2, none, (.int .i64 0))] [.int .i64 0, .int .i64 0, .int .i64 0]) fun v56 =>
    B.newO h (fillL [(0, some 3, v56)] (repL 1 [.int .i64 0, .int .i64 0, .int .i64 0])) fun i57 h =>
    B.al c2 (B.pv (V.setF 6 (.sl i57 0 0 1 3 1) c2) fun c2 =>
    B.pv (V.fieldN 0 7 c2) fun v99 =>
    B.pv (V.setN 0 7 v99 c4) fun c4 =>
    B.pv (oneOf (joinV (V.fieldN 0 7 c4) (some []))) fun v => Q v h)
@[simp] def law14_bent.k14 (C : CSem) (N : Nat → Nat) (Q : AVal → AHeap → Prop) (c2 c4 : AVal) (h : AHeap) : Prop :=
  0 < 3 ∧ B.mks h 24 (some [.int .i64 0, .int .i64 0, .int .i64 0]) (.int .i64 2001) (.int .i64 2001) fun v61 h =>
    B.al c2 (B.pv (V.setF 6 v61 c2) fun c2 =>
    B.pv (V.fieldN 0 7 c2) fun v99 =>
    B.pv (V.setN 0 7 v99 c4) fun c4 =>
    B.pv (oneOf (joinV (V.fieldN 0 7 c4) (some []))) fun v => Q v h)
@[simp] def law14_bent.k15 (C : CSem) (N : Nat → Nat) (Q : AVal → AHeap → Prop) (c2 c4 : AVal) (h : AHeap) : Prop :=
  B.al c2 (B.pv (V.setF 0 (.int .i64 1) c2) fun c2 =>
    B.al c2 (B.pv (V.setF 5 .nils c2) fun c2 =>
    B.al c2 (B.pv (V.setF 6 .nils c2) fun c2 =>
    B.pv (V.fieldN 0 7 c2) fun v99 =>
    B.pv (V.setN 0 7 v99 c4) fun c4 =>
    B.pv (oneOf (joinV (V.fieldN 0 7 c4) (some []))) fun v => Q v h)))
@[simp] def law14_bent.k16 (C : CSem) (N : Nat → Nat) (Q : AVal → AHeap → Prop) (Y1 : List AVal → AHeap → Prop) (v5 c2 c4 : AVal) (h : AHeap) : Prop :=
  B.pv (V.bin .leq v5 (.int .i64 300)) fun v72 =>
    B.cond v72
    (B.al c2 (B.pv (V.field1 5 c2) fun v76 =>
    B.call C (N 143) [v5] h fun v78 h =>
    B.newO h (fillL [(0, some 6, v78)] (repL 1 [.int .i64 0, .str [], .int .i64 0, .int .i64 0, .int .i64 0, .bool false])) fun i79 h =>
    B.appW h 6 56 v76 (.sl i79 0 0 1 6 1) fun v80 h =>
    B.al c2 (B.pv (V.setF 5 v80 c2) fun c2 =>
    B.pv (V.bin .add v5 (.int .i64 1)) fun v74 =>
    Y1 [v74, c2] h)))
    (B.pv (V.fieldN 0 7 c2) fun v99 =>
    B.pv (V.setN 0 7 v99 c4) fun c4 =>
    B.pv (oneOf (joinV (V.fieldN 0 7 c4) (some []))) fun v => Q v h)
@[simp] def law14_bent.l17 (C : CSem) (N : Nat → Nat) (Q : AVal → AHeap → Prop) (c4 : AVal) : List AVal → AHeap → (List AVal → AHeap → Prop) → Prop
  | [v5, c2], h, Y1 => law14_bent.k16 C N Q Y1 v5 c2 c4 h
  | _, _, _ => False
@[simp] def law14_bent.k18 (C : CSem) (N : Nat → Nat) (Q : AVal → AHeap → Prop) (Y2 : List AVal → AHeap → Prop) (v6 c2 c4 : AVal) (h : AHeap) : Prop :=
  B.pv (V.bin .leq v6 (.int .i64 2000)) fun v86 =>
    B.cond v86
    (B.al c2 (B.pv (V.field1 6 c2) fun v90 =>
    B.pv (A.bld [(1, none, v6), (2, none, (.int .i64 1))] [.int .i64 0, .int .i64 0, .int .i64 0]) fun v92 =>
    B.newO h (fillL [(0, some 3, v92)] (repL 1 [.int .i64 0, .int .i64 0, .int .i64 0])) fun i93 h =>
    B.appW h 3 24 v90 (.sl i93 0 0 1 3 1) fun v94 h =>
    B.al c2 (B.pv (V.setF 6 v94 c2) fun c2 =>
    B.pv (V.bin .add v6 (.int .i64 1)) fun v88 =>
    Y2 [v88, c2] h)))
    (B.pv (V.fieldN 0 7 c2) fun v99 =>
    B.pv (V.setN 0 7 v99 c4) fun c4 =>
    B.pv (oneOf (joinV (V.fieldN 0 7 c4) (some []))) fun v => Q v h)
@[simp] def law14_bent.l19 (C : CSem) (N : Nat → Nat) (Q : AVal → AHeap → Prop) (c4 : AVal) : List AVal → AHeap → (List AVal → AHeap → Prop) → Prop
  | [v6, c2], h, Y2 => law14_bent.k18 C N Q Y2 v6 c2 c4 h
  | _, _, _ => False
@[simp] def law14_bent.k20 (C : CSem) (N : Nat → Nat) (Q : AVal → AHeap → Prop) (v7 c2 c4 : AVal) (h : AHeap) : Prop :=
  B.pv (V.bin .eql v7 (.int .i64 17)) fun v97 =>
    B.cond v97
    (B.al c2 (B.pv (V.setF 2 (.int .i64 0) c2) fun c2 =>
    B.pv (V.fieldN 0 7 c2) fun v99 =>
    B.pv (V.setN 0 7 v99 c4) fun c4 =>
    B.pv (oneOf (joinV (V.fieldN 0 7 c4) (some []))) fun v => Q v h))
    (B.pv (V.fieldN 0 7 c2) fun v99 =>
    B.pv (V.setN 0 7 v99 c4) fun c4 =>
    B.pv (oneOf (joinV (V.fieldN 0 7 c4) (some []))) fun v => Q v h)
@[simp] def law14_bent.k21 (C : CSem) (N : Nat → Nat) (Q : AVal → AHeap → Prop) (v7 c2 c4 : AVal) (h : AHeap) : Prop :=
  B.pv (V.bin .eql v7 (.int .i64 16)) fun v83 =>
    B.cond v83 (B.al c2 (B.pv (V.setF 6 .nils c2) fun c2 =>
    LoopR (law14_bent.l19 C N Q c4) [(.int .i64 1), c2] h)) (law14_bent.k20 C N Q v7 c2 c4 h)
@[simp] def law14_bent.k22 (C : CSem) (N : Nat → Nat) (Q : AVal → AHeap → Prop) (v7 c2 c4 : AVal) (h : AHeap) : Prop :=
  B.pv (V.bin .eql v7 (.int .i64 15)) fun v69 =>
    B.cond v69 (B.al c2 (B.pv (V.setF 5 .nils c2) fun c2 =>
    LoopR (law14_bent.l17 C N Q c4) [(.int .i64 1), c2] h)) (law14_bent.k21 C N Q v7 c2 c4 h)
@[simp] def law14_bent.k23 (C : CSem) (N : Nat → Nat) (Q : AVal → AHeap → Prop) (v7 c2 c4 : AVal) (h : AHeap) : Prop :=
  B.pv (V.bin .eql v7 (.int .i64 13)) fun v60 =>
    B.cond v60 (law14_bent.k14 C N Q c2 c4 h) (B.pv (V.bin .eql v7 (.int .i64 14)) fun v64 =>
    B.cond v64 (law14_bent.k15 C N Q c2 c4 h) (law14_bent.k22 C N Q v7 c2 c4 h))
@[simp] def law14_bent.k24 (C : CSem) (N : Nat → Nat) (Q : AVal → AHeap → Prop) (v7 c2 c4 : AVal) (h : AHeap) : Prop :=
  B.pv (V.bin .eql v7 (.int .i64 11)) fun v50 =>
    B.cond v50 (law14_bent.k12 C N Q c2 c4 h) (B.pv (V.bin .eql v7 (.int .i64 12)) fun v55 =>
    B.cond v55 (law14_bent.k13 C N Q c2 c4 h) (law14_bent.k23 C N Q v7 c2 c4 h))
@[simp] def law14_bent.k25 (C : CSem) (N : Nat → Nat) (Q : AVal → AHeap → Prop) (v7 c2 c4 : AVal) (h : AHeap) : Prop :=
  B.pv (V.bin .eql v7 (.int .i64 9)) fun v41 =>
    B.cond v41 (law14_bent.k10 C N Q c2 c4 h) (B.pv (V.bin .eql v7 (.int .i64 10)) fun v45 =>
    B.cond v45 (law14_bent.k11 C N Q c2 c4 h) (law14_bent.k24 C N Q v7 c2 c4 h))
@[simp] def law14_bent.k26 (C : CSem) (N : Nat → Nat) (Q : AVal → AHeap → Prop) (v7 c2 c4 : AVal) (h : AHeap) : Prop :=
  B.pv (V.bin .eql v7 (.int .i64 7)) fun v30 =>
    B.cond v30 (law14_bent.k8 C N Q c2 c4 h) (B.pv (V.bin .eql v7 (.int .i64 8)) fun v33 =>
    B.cond v33 (law14_bent.k9 C N Q c2 c4 h) (law14_bent.k25 C N Q v7 c2 c4 h))
@[simp] def law14_bent.k27 (C : CSem) (N : Nat → Nat) (Q : AVal → AHeap → Prop) (v7 c2 c4 : AVal) (h : AHeap) : Prop :=
  B.pv (V.bin .eql v7 (.int .i64 5)) fun v24 =>
    B.cond v24 (law14_bent.k6 C N Q c2 c4 h) (B.pv (V.bin .eql v7 (.int .i64 6)) fun v27 =>
    B.cond v27 (law14_bent.k7 C N Q c2 c4 h) (law14_bent.k26 C N Q v7 c2 c4 h))
@[simp] def law14_bent.k28 (C : CSem) (N : Nat → Nat) (Q : AVal → AHeap → Prop) (v7 c2 c4 : AVal) (h : AHeap) : Prop :=
  B.pv (V.bin .eql v7 (.int .i64 3)) fun v18 =>
    B.cond v18 (law14_bent.k4 C N Q c2 c4 h) (B.pv (V.bin .eql v7 (.int .i64 4)) fun v21 =>
    B.cond v21 (law14_bent.k5 C N Q c2 c4 h) (law14_bent.k27 C N Q v7 c2 c4 h))
@[simp] def law14_bent.k29 (C : CSem) (N : Nat → Nat) (Q : AVal → AHeap → Prop) (v7 c2 c4 : AVal) (h : AHeap) : Prop :=
  B.pv (V.bin .eql v7 (.int .i64 1)) fun v12 =>
    B.cond v12 (law14_bent.k2 C N Q c2 c4 h) (B.pv (V.bin .eql v7 (.int .i64 2)) fun v15 =>
    B.cond v15 (law14_bent.k3 C N Q c2 c4 h) (law14_bent.k28 C N Q v7 c2 c4 h))
@[simp] def law14_bent.k30 (C : CSem) (N : Nat → Nat) (Q : AVal → AHeap → Prop) (v0 v1 : AVal) (h : AHeap) : Prop :=
  B.pv (A.boxN 7 v0) fun c2 =>
    B.pv (V.bin .eql v1 (.int .i64 0)) fun v9 =>
    B.cond v9 (law14_bent.k1 C N Q c2 (.agg [.int .i64 0, .int .i64 0, .int .i64 0, .str [], .int .u8 0, .nils, .nils]) h) (law14_bent.k29 C N Q v1 c2 (.agg [.int .i64 0, .int .i64 0, .int .i64 0, .str [], .int .u8 0, .nils, .nils]) h)
/-- storeman/storemanlaw14.bent -/
@[simp] def law14_bent.cps (C : CSem) (N : Nat → Nat) (v0 v1 : AVal) (h : AHeap) (Q : AVal → AHeap → Prop) : Prop :=
  law14_bent.k30 C N Q v0 v1 h
def law14_bent.Imp (C : CSem) (N : Nat → Nat) : Prop := ∀ (v0 v1 : AVal) (h : AHeap) (Q : AVal → AHeap → Prop), law14_bent.cps C N v0 v1 h (dn Q) → C (N 140) [v0, v1] h Q
@[simp] def law14_some.k1 (C : CSem) (N : Nat → Nat) (Q : AVal → AHeap → Prop) (h : AHeap) : Prop :=
  B.pv (A.bld [(0, none, (.int .i64 5))] [.int .i64 0, .int .i64 0, .int .i64 0, .str [], .int .u8 0, .nils, .nils]) fun v1 =>
    B.pv (A.bld [(0, none, (.int .i64 999))] [.int .i64 0, .int .i64 0, .int .i64 0, .str [], .int .u8 0, .nils, .nils]) fun v2 =>
    B.pv (A.bld [(2, none, (.int .i64 (-1)))] [.int .i64 0, .int .i64 0, .int .i64 0, .str [], .int .u8 0, .nils, .nils]) fun v3 =>
    B.pv (A.bld [(1, none, (.int .i64 3))] [.int .i64 0, .int .i64 0, .int .i64 0, .str [], .int .u8 0, .nils, .nils]) fun v4 =>
    B.call C (N 143) [(.int .i64 1)] h fun v5 h =>
    B.call C (N 143) [(.int .i64 9223372036854775807)] h fun v6 h =>
    B.newO h (fillL [(0, some 6, v5), (6, some 6, v6)] (repL 2 [.int .i64 0, .str [], .int .i64 0, .int .i64 0, .int .i64 0, .bool false])) fun i7 h =>
    B.pv (A.bld [(0, none, (.int .i64 0)), (1, none, (.int .i64 1)), (2, none, (.int .i64 1))] [.int .i64 0, .int .i64 0, .int .i64 0]) fun v8 =>
    B.pv (A.bld [(0, none, (.int .i64 9223372036854775807)), (1, none, (.int .i64 9223372036854775807)), (2, none, (.int .i64 9223372036854775807))] [.int .i64 0, .int .i64 0, .int .i64 0]) fun v9 =>
    B.newO h (fillL [(0, some 3, v8), (3, some 3, v9)] (repL 2 [.int .i64 0, .int .i64 0, .int .i64 0])) fun i10 h =>
    B.pv (A.bld [(1, none, (.int .i64 9223372036854775807)), (2, none, (.int .i64 4000)), (3, none, (.str [65, 66, 67, 68, 69, 70, 71, 72, 73, 74, 75, 76])), (4, none, (.int .u8 3)), (5, none, (.sl i7 0 0 2 6 2)), (6, none, (.sl i10 0 0 2 3 2))] [.int .i64 0, .int .i64 0, .int .i64 0, .str [], .int .u8 0, .nils, .nils]) fun v11 =>
    B.call C (N 143) [(.int .i64 2)] h fun v12 h =>
    B.newO h (fillL [(0, some 6, v12)] (repL 1 [.int .i64 0, .str [], .int .i64 0, .int .i64 0, .int .i64 0, .bool false])) fun i13 h =>
    B.pv (A.bld [(5, none, (.sl i13 0 0 1 6 1))] [.int .i64 0, .int .i64 0, .int .i64 0, .str [], .int .u8 0, .nils, .nils]) fun v14 =>
    B.pv (A.bld [(0, none, (.int .i64 7)), (1, none, (.int .i64 8)), (2, none, (.int .i64 9))] [.int .i64 0, .int .i64 0, .int .i64 0]) fun v15 =>
    B.newO h (fillL [(0, some 3, v15)] (repL 1 [.int .i64 0, .int .i64 0, .int .i64 0])) fun i16 h =>
    B.pv (A.bld [(6, none, (.sl i16 0 0 1 3 1))] [.int .i64 0, .int .i64 0, .int .i64 0, .str [], .int .u8 0, .nils, .nils]) fun v17 =>
    B.newO h (fillL [(0, some 7, v1), (7, some 7, v2), (14, some 7, v3), (21, some 7, v4), (28, some 7, v11), (35, some 7, v14), (42, some 7, v17)] (repL 7 [.int .i64 0, .int .i64 0, .int .i64 0, .str [], .int .u8 0, .nils, .nils])) fun i18 h =>
    Q (.sl i18 0 0 7 7 7) h
/-- storeman/storemanlaw14.some -/
@[simp] def law14_some.cps (C : CSem) (N : Nat → Nat) (h : AHeap) (Q : AVal → AHeap → Prop) : Prop :=
  law14_some.k1 C N Q h
def law14_some.Imp (C : CSem) (N : Nat → Nat) : Prop := ∀ (h : AHeap) (Q : AVal → AHeap → Prop), law14_some.cps C N h (dn Q) → C (N 141) [] h Q
@[simp] def law14_TellNumbers.k1 (C : CSem) (N : Nat → Nat) (Q : AVal → AHeap → Prop) (Y1 : List AVal → AHeap → Prop) (v1 v2 : AVal) (h : AHeap) : Prop :=
  B.pv (V.idxS 7 v1 v2) fun v25 =>
    B.ldn h v25 7 fun v26 =>
    B.call C (N 139) [v26] h fun v27 h =>
    B.pv (V.un .not v27) fun v28 =>
    B.cond v28
    (Q (.bool false) h)
    (B.pv (V.bin .add v2 (.int .i64 1)) fun v10 =>
    Y1 [v10] h)
@[simp] def law14_TellNumbers.k2 (C : CSem) (N : Nat → Nat) (Q : AVal → AHeap → Prop) (Y1 : List AVal → AHeap → Prop) (Y2 : List AVal → AHeap → Prop) (v1 v2 v3 : AVal) (h : AHeap) : Prop :=
  B.pv (V.bin .lss v3 (.int .i64 18)) fun v12 =>
    B.cond v12
    (B.pv (V.idxS 7 v1 v2) fun v17 =>
    B.ldn h v17 7 fun v18 =>
    B.call C (N 140) [v18, v3] h fun v20 h =>
    B.call C (N 36) [v20] h fun v21 h =>
    B.pv (V.un .not v21) fun v22 =>
    B.cond v22
    (Q (.bool false) h)
    (B.pv (V.bin .add v3 (.int .i64 1)) fun v14 =>
    Y2 [v14] h))
    (law14_TellNumbers.k1 C N Q Y1 v1 v2 h)
@[simp] def law14_TellNumbers.l3 (C : CSem) (N : Nat → Nat) (Q : AVal → AHeap → Prop) (Y1 : List AVal → AHeap → Prop) (v1 v2 : AVal) : List AVal → AHeap → (List AVal → AHeap → Prop) → Prop
  | [v3], h, Y2 => law14_TellNumbers.k2 C N Q Y1 Y2 v1 v2 v3 h
  | _, _, _ => False
@[simp] def law14_TellNumbers.k4 (C : CSem) (N : Nat → Nat) (Q : AVal → AHeap → Prop) (Y1 : List AVal → AHeap → Prop) (v1 v2 : AVal) (h : AHeap) : Prop :=
  B.pv (V.lenSl v1) fun v7 =>
    B.pv (V.bin .lss v2 v7) fun v8 =>
    B.cond v8
    (LoopR (law14_TellNumbers.l3 C N Q Y1 v1 v2) [(.int .i64 0)] h)
    (B.call C (N 26) [] h fun v29 h =>
    Q v29 h)
@[simp] def law14_TellNumbers.l5 (C : CSem) (N : Nat → Nat) (Q : AVal → AHeap → Prop) (v1 : AVal) : List AVal → AHeap → (List AVal → AHeap → Prop) → Prop
  | [v2], h, Y1 => law14_TellNumbers.k4 C N Q Y1 v1 v2 h
  | _, _, _ => False
/-- storeman/storemanlaw14.TellNumbers -/
@[simp] def law14_TellNumbers.cps (C : CSem) (N : Nat → Nat) (h : AHeap) (Q : AVal → AHeap → Prop) : Prop :=
  B.call C (N 141) [] h fun v4 h =>
    LoopR (law14_TellNumbers.l5 C N Q v4) [(.int .i64 0)] h
def law14_TellNumbers.Imp (C : CSem) (N : Nat → Nat) : Prop := ∀ (h : AHeap) (Q : AVal → AHeap → Prop), law14_TellNumbers.cps C N h (dn Q) → C (N 142) [] h Q
@[simp] def law14_lot.k1 (C : CSem) (N : Nat → Nat) (Q : AVal → AHeap → Prop) (v0 : AVal) (h : AHeap) : Prop :=
  B.pv (A.bld [(0, none, (.int .i64 0)), (1, none, (.int .i64 4001))] [.int .i64 0, .int .i64 0]) fun v4 =>
    B.pv (V.bin .rem v0 (.int .i64 2)) fun v6 =>
    B.pv (V.bin .eql v6 (.int .i64 0)) fun v7 =>
    B.pv (A.bld [(0, none, v0), (1, none, (.str [65])), (2, some 2, v4), (4, none, (.int .i64 1073741824)), (5, none, v7)] [.int .i64 0, .str [], .int .i64 0, .int .i64 0, .int .i64 0, .bool false]) fun v8 =>
    B.pv (V.setN 0 6 v8 (.agg [.int .i64 0, .str [], .int .i64 0, .int .i64 0, .int .i64 0, .bool false])) fun c2 =>
    B.pv (oneOf (joinV (V.fieldN 0 6 c2) (some []))) fun v => Q v h
/-- storeman/storemanlaw14.lot -/
@[simp] def law14_lot.cps (C : CSem) (N : Nat → Nat) (v0 : AVal) (h : AHeap) (Q : AVal → AHeap → Prop) : Prop :=
  law14_lot.k1 C N Q v0 h
def law14_lot.Imp (C : CSem) (N : Nat → Nat) : Prop := ∀ (v0 : AVal) (h : AHeap) (Q : AVal → AHeap → Prop), law14_lot.cps C N v0 h (dn Q) → C (N 143) [v0] h Q
end Go.Ab

/- What is told: residuals: what each function does in the abstract memory, printed by a program of mine. Definitions alone. -/
set_option linter.unusedVariables false
namespace Go.Ab
@[simp] def lot_Right.k1 (C : CSem) (N : Nat → Nat) (Q : AVal → AHeap → Prop) (v0 : AVal) (h : AHeap) : Prop :=
  B.pv (A.boxN 6 v0) fun c1 =>
    B.al c1 (B.pv (V.field1 0 c1) fun v4 =>
    B.pv (V.bin .gtr v4 (.int .i64 0)) fun v5 =>
    B.al c1 (B.gd h v5 true (fun K => K .undef h) fun _ h =>
    B.gd h v5 true (fun K => B.pv (V.field1 1 c1) fun v => K v h) fun v8 h =>
    B.gd h v5 true (fun K => B.call C (N 53) [v8] h K) fun v9 h =>
    B.pick v5 v9 (.bool false) fun v10 =>
    B.al c1 (B.gd h v10 true (fun K => K .undef h) fun _ h =>
    B.gd h v10 true (fun K => B.pv (V.fieldN 2 2 c1) fun v => K v h) fun v13 h =>
    B.gd h v10 true (fun K => B.call C (N 5) [v13] h K) fun v14 h =>
    B.pick v10 v14 (.bool false) fun v15 =>
    B.al c1 (B.gd h v15 true (fun K => K .undef h) fun _ h =>
    B.al c1 (B.gd h v15 true (fun K => K .undef h) fun _ h =>
    B.gd h v15 true (fun K => B.pv (V.field1 2 c1) fun v => K v h) fun v19 h =>
    B.al c1 (B.gd h v15 true (fun K => K .undef h) fun _ h =>
    B.al c1 (B.gd h v15 true (fun K => K .undef h) fun _ h =>
    B.gd h v15 true (fun K => B.pv (V.field1 3 c1) fun v => K v h) fun v22 h =>
    B.gd h v15 true (fun K => B.pv (V.bin .lss v19 v22) fun v => K v h) fun v23 h =>
    B.pick v15 v23 (.bool false) fun v24 =>
    B.al c1 (B.gd h v24 true (fun K => K .undef h) fun _ h =>
    B.gd h v24 true (fun K => B.pv (V.field1 4 c1) fun v => K v h) fun v27 h =>
    B.gd h v24 true (fun K => B.pv (V.bin .gtr v27 (.int .i64 0)) fun v => K v h) fun v28 h =>
    B.pick v24 v28 (.bool false) fun v29 =>
    B.al c1 (B.gd h v29 true (fun K => K .undef h) fun _ h =>
    B.gd h v29 true (fun K => B.pv (V.field1 4 c1) fun v => K v h) fun v32 h =>
    B.gd h v29 true (fun K => B.pv (V.bin .leq v32 (.int .i64 1073741824)) fun v => K v h) fun v33 h =>
    B.pick v29 v33 (.bool false) fun v34 =>
    Q v34 h)))))))))
/-- storeman/lot.Right -/
@[simp] def lot_Right.cps (C : CSem) (N : Nat → Nat) (v0 : AVal) (h : AHeap) (Q : AVal → AHeap → Prop) : Prop :=
  lot_Right.k1 C N Q v0 h
def lot_Right.Imp (C : CSem) (N : Nat → Nat) : Prop := ∀ (v0 : AVal) (h : AHeap) (Q : AVal → AHeap → Prop), lot_Right.cps C N v0 h (dn Q) → C (N 52) [v0] h Q
end Go.Ab

/- What is told: residuals: what each function does in the abstract memory, printed by a program of mine. Definitions alone. -/
set_option linter.unusedVariables false
namespace Go.Ab
@[simp] def ref03_Put.k1 (C : CSem) (N : Nat → Nat) (Q : AVal → AHeap → Prop) (v0 : AVal) (h : AHeap) : Prop :=
  B.pv (V.bin .neq v0 (.str [])) fun v4 =>
    B.gd h v4 true (fun K => K v0 h) fun v6 h =>
    B.gd h v4 true (fun K => B.call C (N 61) [v6] h K) fun v7 h =>
    B.gd h v4 true (fun K => B.pv (V.un .not v7) fun v => K v h) fun v8 h =>
    B.pick v4 v8 (.bool false) fun v9 =>
    B.cond v9
    (Q .nils h)
    (B.pv (V.lenStr v0) fun v11 =>
    B.pv (V.toInt .u8 v11) fun v12 =>
    B.newO h (fillL [(0, none, v12)] (repL 1 [.int .u8 0])) fun i13 h =>
    B.appS h 1 (.sl i13 0 0 1 1 1) v0 fun v15 h =>
    Q v15 h)
/-- storeman/storemanref03.Put -/
@[simp] def ref03_Put.cps (C : CSem) (N : Nat → Nat) (v0 : AVal) (h : AHeap) (Q : AVal → AHeap → Prop) : Prop :=
  ref03_Put.k1 C N Q v0 h
def ref03_Put.Imp (C : CSem) (N : Nat → Nat) : Prop := ∀ (v0 : AVal) (h : AHeap) (Q : AVal → AHeap → Prop), ref03_Put.cps C N v0 h (dn Q) → C (N 59) [v0] h Q
@[simp] def ref03_Right.k1 (C : CSem) (N : Nat → Nat) (Q : AVal → AHeap → Prop) (Y1 : List AVal → AHeap → Prop) (v0 v3 : AVal) (h : AHeap) : Prop :=
  B.pv (V.lenStr v0) fun v16 =>
    B.pv (V.bin .lss v3 v16) fun v17 =>
    B.cond v17
    (B.pv (V.idxStr v0 v3) fun v22 =>
    B.pv (V.bin .geq v22 (.int .u8 65)) fun v23 =>
    B.gd h v23 true (fun K => K v0 h) fun v25 h =>
    B.gd h v23 true (fun K => K v3 h) fun v26 h =>
    B.gd h v23 true (fun K => B.pv (V.idxStr v25 v26) fun v => K v h) fun v27 h =>
    B.gd h v23 true (fun K => B.pv (V.bin .leq v27 (.int .u8 90)) fun v => K v h) fun v28 h =>
    B.pick v23 v28 (.bool false) fun v29 =>
    B.pv (V.idxStr v0 v3) fun v32 =>
    B.pv (V.bin .geq v32 (.int .u8 48)) fun v33 =>
    B.gd h v33 true (fun K => K v0 h) fun v35 h =>
    B.gd h v33 true (fun K => K v3 h) fun v36 h =>
    B.gd h v33 true (fun K => B.pv (V.idxStr v35 v36) fun v => K v h) fun v37 h =>
    B.gd h v33 true (fun K => B.pv (V.bin .leq v37 (.int .u8 57)) fun v => K v h) fun v38 h =>
    B.pick v33 v38 (.bool false) fun v39 =>
    B.gd h v39 false (fun K => K v0 h) fun v41 h =>
    B.gd h v39 false (fun K => K v3 h) fun v42 h =>
    B.gd h v39 false (fun K => B.pv (V.idxStr v41 v42) fun v => K v h) fun v43 h =>
    B.gd h v39 false (fun K => B.pv (V.bin .eql v43 (.int .u8 45)) fun v => K v h) fun v44 h =>
    B.pick v39 (.bool true) v44 fun v45 =>
    B.pv (V.un .not v29) fun v47 =>
    B.gd h v47 true (fun K => K v3 h) fun v49 h =>
    B.gd h v47 true (fun K => B.pv (V.bin .eql v49 (.int .i64 0)) fun v => K v h) fun v50 h =>
    B.gd h v47 true (fun K => K v50 h) fun v51 h =>
    B.gd h v51 false (fun K => K v45 h) fun v52 h =>
    B.gd h v51 false (fun K => B.pv (V.un .not v52) fun v => K v h) fun v53 h =>
    B.gd h v47 true (fun K => B.pick v51 (.bool true) v53 fun v => K v h) fun v54 h =>
    B.pick v47 v54 (.bool false) fun v55 =>
    B.cond v55
    (Q (.bool false) h)
    (B.pv (V.bin .add v3 (.int .i64 1)) fun v19 =>
    Y1 [v19] h))
    (Q (.bool true) h)
@[simp] def ref03_Right.l2 (C : CSem) (N : Nat → Nat) (Q : AVal → AHeap → Prop) (v0 : AVal) : List AVal → AHeap → (List AVal → AHeap → Prop) → Prop
  | [v3], h, Y1 => ref03_Right.k1 C N Q Y1 v0 v3 h
  | _, _, _ => False
@[simp] def ref03_Right.k3 (C : CSem) (N : Nat → Nat) (Q : AVal → AHeap → Prop) (v0 : AVal) (h : AHeap) : Prop :=
  B.pv (V.lenStr v0) fun v7 =>
    B.pv (V.bin .lss v7 (.int .i64 1)) fun v8 =>
    B.gd h v8 false (fun K => K v0 h) fun v10 h =>
    B.gd h v8 false (fun K => B.pv (V.lenStr v10) fun v => K v h) fun v11 h =>
    B.gd h v8 false (fun K => B.pv (V.bin .gtr v11 (.int .i64 12)) fun v => K v h) fun v12 h =>
    B.pick v8 (.bool true) v12 fun v13 =>
    B.cond v13
    (Q (.bool false) h)
    (LoopR (ref03_Right.l2 C N Q v0) [(.int .i64 0)] h)
/-- storeman/storemanref03.Right -/
@[simp] def ref03_Right.cps (C : CSem) (N : Nat → Nat) (v0 : AVal) (h : AHeap) (Q : AVal → AHeap → Prop) : Prop :=
  ref03_Right.k3 C N Q v0 h
def ref03_Right.Imp (C : CSem) (N : Nat → Nat) : Prop := ∀ (v0 : AVal) (h : AHeap) (Q : AVal → AHeap → Prop), ref03_Right.cps C N v0 h (dn Q) → C (N 61) [v0] h Q
@[simp] def ref03_Get.k1 (C : CSem) (N : Nat → Nat) (Q : AVal → AHeap → Prop) (v0 : AVal) (h : AHeap) : Prop :=
  B.pv (V.lenSl v0) fun v8 =>
    B.pv (V.bin .eql v8 (.int .i64 0)) fun v9 =>
    B.gd h v9 false (fun K => K v0 h) fun v11 h =>
    B.gd h v9 false (fun K => B.pv (V.idxS 1 v11 (.int .i64 0)) fun v => K v h) fun v12 h =>
    B.gd h v9 false (fun K => B.ld h v12 fun v => K v h) fun v13 h =>
    B.gd h v9 false (fun K => B.pv (V.toInt .i64 v13) fun v => K v h) fun v14 h =>
    B.gd h v9 false (fun K => K v0 h) fun v15 h =>
    B.gd h v9 false (fun K => B.pv (V.lenSl v15) fun v => K v h) fun v16 h =>
    B.gd h v9 false (fun K => B.pv (V.bin .geq v14 v16) fun v => K v h) fun v17 h =>
    B.gd h v9 false (fun K => K v17 h) fun v18 h =>
    B.gd h v18 true (fun K => K v0 h) fun v19 h =>
    B.gd h v18 true (fun K => B.pv (V.idxS 1 v19 (.int .i64 0)) fun v => K v h) fun v20 h =>
    B.gd h v18 true (fun K => B.ld h v20 fun v => K v h) fun v21 h =>
    B.gd h v18 true (fun K => B.pv (V.bin .gtr v21 (.int .u8 0)) fun v => K v h) fun v22 h =>
    B.gd h v9 false (fun K => B.pick v18 v22 (.bool false) fun v => K v h) fun v23 h =>
    B.pick v9 (.bool true) v23 fun v24 =>
    B.cond v24
    (Q (.tup [(.str []), (.int .i64 0), (.bool false)]) h)
    (B.pv (V.idxS 1 v0 (.int .i64 0)) fun v26 =>
    B.ld h v26 fun v27 =>
    B.pv (V.toInt .i64 v27) fun v28 =>
    B.pv (V.bin .add (.int .i64 1) v28) fun v29 =>
    B.pv (V.cutSl 1 v0 (some (.int .i64 1)) (some v29)) fun v32 =>
    B.bytesStr h v32 fun v33 =>
    B.pv (V.bin .neq v33 (.str [])) fun v35 =>
    B.gd h v35 true (fun K => K v33 h) fun v37 h =>
    B.gd h v35 true (fun K => B.call C (N 61) [v37] h K) fun v38 h =>
    B.gd h v35 true (fun K => B.pv (V.un .not v38) fun v => K v h) fun v39 h =>
    B.pick v35 v39 (.bool false) fun v40 =>
    B.cond v40
    (Q (.tup [(.str []), (.int .i64 0), (.bool false)]) h)
    (Q (.tup [v33, v29, (.bool true)]) h))
/-- storeman/storemanref03.Get -/
@[simp] def ref03_Get.cps (C : CSem) (N : Nat → Nat) (v0 : AVal) (h : AHeap) (Q : AVal → AHeap → Prop) : Prop :=
  ref03_Get.k1 C N Q v0 h
def ref03_Get.Imp (C : CSem) (N : Nat → Nat) : Prop := ∀ (v0 : AVal) (h : AHeap) (Q : AVal → AHeap → Prop), ref03_Get.cps C N v0 h (dn Q) → C (N 104) [v0] h Q
end Go.Ab

/- What is told: residuals: what each function does in the abstract memory, printed by a program of mine. Definitions alone. -/
set_option linter.unusedVariables false
namespace Go.Ab
@[simp] def ref04_Right.k1 (C : CSem) (N : Nat → Nat) (Q : AVal → AHeap → Prop) (v0 : AVal) (h : AHeap) : Prop :=
  B.pv (A.boxN 6 v0) fun c1 =>
    B.al c1 (B.pv (V.field1 0 c1) fun v4 =>
    B.pv (V.bin .geq v4 (.int .i64 1)) fun v5 =>
    B.al c1 (B.gd h v5 true (fun K => K .undef h) fun _ h =>
    B.gd h v5 true (fun K => B.pv (V.field1 1 c1) fun v => K v h) fun v8 h =>
    B.gd h v5 true (fun K => B.call C (N 61) [v8] h K) fun v9 h =>
    B.pick v5 v9 (.bool false) fun v10 =>
    B.al c1 (B.gd h v10 true (fun K => K .undef h) fun _ h =>
    B.al c1 (B.gd h v10 true (fun K => K .undef h) fun _ h =>
    B.gd h v10 true (fun K => B.pv (V.field1 2 c1) fun v => K v h) fun v14 h =>
    B.gd h v10 true (fun K => B.pv (V.bin .geq v14 (.int .i64 0)) fun v => K v h) fun v15 h =>
    B.pick v10 v15 (.bool false) fun v16 =>
    B.al c1 (B.gd h v16 true (fun K => K .undef h) fun _ h =>
    B.al c1 (B.gd h v16 true (fun K => K .undef h) fun _ h =>
    B.gd h v16 true (fun K => B.pv (V.field1 2 c1) fun v => K v h) fun v20 h =>
    B.al c1 (B.gd h v16 true (fun K => K .undef h) fun _ h =>
    B.al c1 (B.gd h v16 true (fun K => K .undef h) fun _ h =>
    B.gd h v16 true (fun K => B.pv (V.field1 3 c1) fun v => K v h) fun v23 h =>
    B.gd h v16 true (fun K => B.pv (V.bin .lss v20 v23) fun v => K v h) fun v24 h =>
    B.pick v16 v24 (.bool false) fun v25 =>
    B.al c1 (B.gd h v25 true (fun K => K .undef h) fun _ h =>
    B.al c1 (B.gd h v25 true (fun K => K .undef h) fun _ h =>
    B.gd h v25 true (fun K => B.pv (V.field1 3 c1) fun v => K v h) fun v29 h =>
    B.gd h v25 true (fun K => B.pv (V.bin .leq v29 (.int .i64 4001)) fun v => K v h) fun v30 h =>
    B.pick v25 v30 (.bool false) fun v31 =>
    B.al c1 (B.gd h v31 true (fun K => K .undef h) fun _ h =>
    B.gd h v31 true (fun K => B.pv (V.field1 4 c1) fun v => K v h) fun v34 h =>
    B.gd h v31 true (fun K => B.pv (V.bin .geq v34 (.int .i64 1)) fun v => K v h) fun v35 h =>
    B.pick v31 v35 (.bool false) fun v36 =>
    B.al c1 (B.gd h v36 true (fun K => K .undef h) fun _ h =>
    B.gd h v36 true (fun K => B.pv (V.field1 4 c1) fun v => K v h) fun v39 h =>
    B.gd h v36 true (fun K => B.pv (V.bin .leq v39 (.int .i64 1073741824)) fun v => K v h) fun v40 h =>
    B.pick v36 v40 (.bool false) fun v41 =>
    Q v41 h))))))))))))
/-- storeman/storemanref04.Right -/
@[simp] def ref04_Right.cps (C : CSem) (N : Nat → Nat) (v0 : AVal) (h : AHeap) (Q : AVal → AHeap → Prop) : Prop :=
  ref04_Right.k1 C N Q v0 h
def ref04_Right.Imp (C : CSem) (N : Nat → Nat) : Prop := ∀ (v0 : AVal) (h : AHeap) (Q : AVal → AHeap → Prop), ref04_Right.cps C N v0 h (dn Q) → C (N 60) [v0] h Q
end Go.Ab

/- What is told: residuals: what each function does in the abstract memory, printed by a program of mine. Definitions alone. -/
set_option linter.unusedVariables false
namespace Go.Ab
@[simp] def ref13_Reader_Number.k1 (C : CSem) (N : Nat → Nat) (Q : AVal → AHeap → Prop) (v0 v1 v5 : AVal) (h : AHeap) : Prop :=
  B.nilCheck v0 fun v51 =>
    B.pv (V.fieldAddr 1 v51) fun v52 =>
    B.ld h v52 fun v53 =>
    B.pv (V.bin .add v53 v1) fun v55 =>
    B.nilCheck v0 fun v56 =>
    B.pv (V.fieldAddr 1 v56) fun v57 =>
    B.st h v57 v55 fun h =>
    B.pv (V.toInt .i64 v5) fun v59 =>
    Q v59 h
@[simp] def ref13_Reader_Number.k2 (C : CSem) (N : Nat → Nat) (Q : AVal → AHeap → Prop) (Y1 : List AVal → AHeap → Prop) (v0 v1 v5 v6 : AVal) (h : AHeap) : Prop :=
  B.pv (V.bin .lss v6 v1) fun v30 =>
    B.cond v30
    (B.pv (V.bin .mul (.int .u64 256) v5) fun v34 =>
    B.nilCheck v0 fun v36 =>
    B.pv (V.fieldAddr 0 v36) fun v37 =>
    B.ld h v37 fun v38 =>
    B.nilCheck v0 fun v40 =>
    B.pv (V.fieldAddr 1 v40) fun v41 =>
    B.ld h v41 fun v42 =>
    B.pv (V.bin .add v42 v6) fun v44 =>
    B.pv (V.idxS 1 v38 v44) fun v45 =>
    B.ld h v45 fun v46 =>
    B.pv (V.toInt .u64 v46) fun v47 =>
    B.pv (V.bin .add v34 v47) fun v48 =>
    B.pv (V.bin .add v6 (.int .i64 1)) fun v32 =>
    Y1 [v48, v32] h)
    (ref13_Reader_Number.k1 C N Q v0 v1 v5 h)
@[simp] def ref13_Reader_Number.l3 (C : CSem) (N : Nat → Nat) (Q : AVal → AHeap → Prop) (v0 v1 : AVal) : List AVal → AHeap → (List AVal → AHeap → Prop) → Prop
  | [v5, v6], h, Y1 => ref13_Reader_Number.k2 C N Q Y1 v0 v1 v5 v6 h
  | _, _, _ => False
@[simp] def ref13_Reader_Number.k4 (C : CSem) (N : Nat → Nat) (Q : AVal → AHeap → Prop) (v0 v1 : AVal) (h : AHeap) : Prop :=
  B.nilCheck v0 fun v8 =>
    B.pv (V.fieldAddr 2 v8) fun v9 =>
    B.ld h v9 fun v10 =>
    B.gd h v10 false (fun K => K v1 h) fun v12 h =>
    B.gd h v10 false (fun K => K v0 h) fun v13 h =>
    B.gd h v10 false (fun K => B.nilCheck v13 fun v => K v h) fun v14 h =>
    B.gd h v10 false (fun K => B.pv (V.fieldAddr 0 v14) fun v => K v h) fun v15 h =>
    B.gd h v10 false (fun K => B.ld h v15 fun v => K v h) fun v16 h =>
    B.gd h v10 false (fun K => B.pv (V.lenSl v16) fun v => K v h) fun v17 h =>
    B.gd h v10 false (fun K => K v0 h) fun v18 h =>
    B.gd h v10 false (fun K => B.nilCheck v18 fun v => K v h) fun v19 h =>
    B.gd h v10 false (fun K => B.pv (V.fieldAddr 1 v19) fun v => K v h) fun v20 h =>
    B.gd h v10 false (fun K => B.ld h v20 fun v => K v h) fun v21 h =>
    B.gd h v10 false (fun K => B.pv (V.bin .sub v17 v21) fun v => K v h) fun v22 h =>
    B.gd h v10 false (fun K => B.pv (V.bin .gtr v12 v22) fun v => K v h) fun v23 h =>
    B.pick v10 (.bool true) v23 fun v24 =>
    B.cond v24
    (B.nilCheck v0 fun v26 =>
    B.pv (V.fieldAddr 2 v26) fun v27 =>
    B.st h v27 (.bool true) fun h =>
    Q (.int .i64 0) h)
    (LoopR (ref13_Reader_Number.l3 C N Q v0 v1) [(.int .u64 0), (.int .i64 0)] h)
/-- (ptr storeman/storemanref13.Reader).Number -/
@[simp] def ref13_Reader_Number.cps (C : CSem) (N : Nat → Nat) (v0 v1 : AVal) (h : AHeap) (Q : AVal → AHeap → Prop) : Prop :=
  ref13_Reader_Number.k4 C N Q v0 v1 h
def ref13_Reader_Number.Imp (C : CSem) (N : Nat → Nat) : Prop := ∀ (v0 v1 : AVal) (h : AHeap) (Q : AVal → AHeap → Prop), ref13_Reader_Number.cps C N v0 v1 h (dn Q) → C (N 71) [v0, v1] h Q
@[simp] def ref13_Reader_Code.k1 (C : CSem) (N : Nat → Nat) (Q : AVal → AHeap → Prop) (v0 : AVal) (h : AHeap) : Prop :=
  B.nilCheck v0 fun v7 =>
    B.pv (V.fieldAddr 2 v7) fun v8 =>
    B.ld h v8 fun v9 =>
    B.cond v9
    (Q (.str []) h)
    (B.nilCheck v0 fun v12 =>
    B.pv (V.fieldAddr 0 v12) fun v13 =>
    B.ld h v13 fun v14 =>
    B.nilCheck v0 fun v16 =>
    B.pv (V.fieldAddr 1 v16) fun v17 =>
    B.ld h v17 fun v18 =>
    B.pv (V.cutSl 1 v14 (some v18) none) fun v19 =>
    B.call C (N 104) [v19] h fun v20 h =>
    B.pv (V.ext 0 v20) fun v21 =>
    B.pv (V.ext 1 v20) fun v22 =>
    B.pv (V.ext 2 v20) fun v23 =>
    B.pv (V.un .not v23) fun v26 =>
    B.nilCheck v0 fun v27 =>
    B.pv (V.fieldAddr 2 v27) fun v28 =>
    B.st h v28 v26 fun h =>
    B.nilCheck v0 fun v31 =>
    B.pv (V.fieldAddr 1 v31) fun v32 =>
    B.ld h v32 fun v33 =>
    B.pv (V.bin .add v33 v22) fun v35 =>
    B.nilCheck v0 fun v36 =>
    B.pv (V.fieldAddr 1 v36) fun v37 =>
    B.st h v37 v35 fun h =>
    Q v21 h)
/-- (ptr storeman/storemanref13.Reader).Code -/
@[simp] def ref13_Reader_Code.cps (C : CSem) (N : Nat → Nat) (v0 : AVal) (h : AHeap) (Q : AVal → AHeap → Prop) : Prop :=
  ref13_Reader_Code.k1 C N Q v0 h
def ref13_Reader_Code.Imp (C : CSem) (N : Nat → Nat) : Prop := ∀ (v0 : AVal) (h : AHeap) (Q : AVal → AHeap → Prop), ref13_Reader_Code.cps C N v0 h (dn Q) → C (N 73) [v0] h Q
end Go.Ab

/- What is told: residuals: what each function does in the abstract memory, printed by a program of mine. Definitions alone. -/
set_option linter.unusedVariables false
namespace Go.Ab
@[simp] def ref14_Put.k1 (C : CSem) (N : Nat → Nat) (Q : AVal → AHeap → Prop) (Y1 : List AVal → AHeap → Prop) (v4 v8 c1 : AVal) (h : AHeap) : Prop :=
  B.al c1 (B.pv (V.field1 6 c1) fun v99 =>
    B.pv (V.lenSl v99) fun v100 =>
    B.pv (V.bin .lss v8 v100) fun v101 =>
    B.cond v101
    (B.al c1 (B.pv (V.field1 6 c1) fun v106 =>
    B.pv (V.idxS 3 v106 v8) fun v108 =>
    B.pv (V.fieldAddr 0 v108) fun v109 =>
    B.ld h v109 fun v110 =>
    B.call C (N 58) [v110, (.int .i64 8)] h fun v111 h =>
    B.appW h 1 1 v4 v111 fun v112 h =>
    B.al c1 (B.pv (V.field1 6 c1) fun v115 =>
    B.pv (V.idxS 3 v115 v8) fun v117 =>
    B.pv (V.fieldAddr 1 v117) fun v118 =>
    B.ld h v118 fun v119 =>
    B.call C (N 58) [v119, (.int .i64 8)] h fun v120 h =>
    B.appW h 1 1 v112 v120 fun v121 h =>
    B.al c1 (B.pv (V.field1 6 c1) fun v124 =>
    B.pv (V.idxS 3 v124 v8) fun v126 =>
    B.pv (V.fieldAddr 2 v126) fun v127 =>
    B.ld h v127 fun v128 =>
    B.call C (N 58) [v128, (.int .i64 8)] h fun v129 h =>
    B.appW h 1 1 v121 v129 fun v130 h =>
    B.pv (V.bin .add v8 (.int .i64 1)) fun v103 =>
    Y1 [v130, v103] h))))
    (Q (.tup [v4, (.int .i64 0)]) h))
@[simp] def ref14_Put.l2 (C : CSem) (N : Nat → Nat) (Q : AVal → AHeap → Prop) (c1 : AVal) : List AVal → AHeap → (List AVal → AHeap → Prop) → Prop
  | [v4, v8], h, Y1 => ref14_Put.k1 C N Q Y1 v4 v8 c1 h
  | _, _, _ => False
@[simp] def ref14_Put.k3 (C : CSem) (N : Nat → Nat) (Q : AVal → AHeap → Prop) (v4 c1 : AVal) (h : AHeap) : Prop :=
  B.al c1 (B.pv (V.field1 6 c1) fun v93 =>
    B.pv (V.lenSl v93) fun v94 =>
    B.call C (N 58) [v94, (.int .i64 2)] h fun v95 h =>
    B.appW h 1 1 v4 v95 fun v96 h =>
    LoopR (ref14_Put.l2 C N Q c1) [v96, (.int .i64 0)] h)
@[simp] def ref14_Put.k4 (C : CSem) (N : Nat → Nat) (Q : AVal → AHeap → Prop) (Y2 : List AVal → AHeap → Prop) (v4 v5 c1 : AVal) (h : AHeap) : Prop :=
  B.al c1 (B.pv (V.field1 5 c1) fun v48 =>
    B.pv (V.lenSl v48) fun v49 =>
    B.pv (V.bin .lss v5 v49) fun v50 =>
    B.cond v50
    (B.al c1 (B.pv (V.field1 5 c1) fun v54 =>
    B.pv (V.idxS 6 v54 v5) fun v56 =>
    B.ldn h v56 6 fun v57 =>
    B.pv (V.setN 0 6 v57 (.agg [.int .i64 0, .str [], .int .i64 0, .int .i64 0, .int .i64 0, .bool false])) fun c6 =>
    B.al c6 (B.pv (V.field1 0 c6) fun v60 =>
    B.call C (N 58) [v60, (.int .i64 8)] h fun v61 h =>
    B.appW h 1 1 v4 v61 fun v62 h =>
    B.al c6 (B.pv (V.field1 1 c6) fun v65 =>
    B.call C (N 59) [v65] h fun v66 h =>
    B.appW h 1 1 v62 v66 fun v67 h =>
    B.al c6 (B.al c6 (B.pv (V.field1 2 c6) fun v71 =>
    B.call C (N 58) [v71, (.int .i64 2)] h fun v72 h =>
    B.appW h 1 1 v67 v72 fun v73 h =>
    B.al c6 (B.al c6 (B.pv (V.field1 3 c6) fun v77 =>
    B.call C (N 58) [v77, (.int .i64 2)] h fun v78 h =>
    B.appW h 1 1 v73 v78 fun v79 h =>
    B.al c6 (B.pv (V.field1 4 c6) fun v82 =>
    B.call C (N 58) [v82, (.int .i64 8)] h fun v83 h =>
    B.appW h 1 1 v79 v83 fun v84 h =>
    B.al c6 (B.pv (V.field1 5 c6) fun v86 =>
    B.cond v86
    (B.newO h (fillL [(0, none, (.int .u8 1))] (repL 1 [.int .u8 0])) fun i89 h =>
    B.appW h 1 1 v84 (.sl i89 0 0 1 1 1) fun v90 h =>
    B.pv (V.bin .add v5 (.int .i64 1)) fun v52 =>
    Y2 [v90, v52] h)
    (B.newO h (fillL [(0, none, (.int .u8 0))] (repL 1 [.int .u8 0])) fun i89 h =>
    B.appW h 1 1 v84 (.sl i89 0 0 1 1 1) fun v90 h =>
    B.pv (V.bin .add v5 (.int .i64 1)) fun v52 =>
    Y2 [v90, v52] h)))))))))))
    (ref14_Put.k3 C N Q v4 c1 h))
@[simp] def ref14_Put.l5 (C : CSem) (N : Nat → Nat) (Q : AVal → AHeap → Prop) (c1 : AVal) : List AVal → AHeap → (List AVal → AHeap → Prop) → Prop
  | [v4, v5], h, Y2 => ref14_Put.k4 C N Q Y2 v4 v5 c1 h
  | _, _, _ => False
@[simp] def ref14_Put.k6 (C : CSem) (N : Nat → Nat) (Q : AVal → AHeap → Prop) (v4 c1 : AVal) (h : AHeap) : Prop :=
  B.al c1 (B.pv (V.field1 5 c1) fun v42 =>
    B.pv (V.lenSl v42) fun v43 =>
    B.call C (N 58) [v43, (.int .i64 2)] h fun v44 h =>
    B.appW h 1 1 v4 v44 fun v45 h =>
    LoopR (ref14_Put.l5 C N Q c1) [v45, (.int .i64 0)] h)
@[simp] def ref14_Put.k7 (C : CSem) (N : Nat → Nat) (Q : AVal → AHeap → Prop) (v4 c1 : AVal) (h : AHeap) : Prop :=
  B.al c1 (B.pv (V.field1 4 c1) fun v37 =>
    B.newO h (fillL [(0, none, v37)] (repL 1 [.int .u8 0])) fun i38 h =>
    B.appW h 1 1 v4 (.sl i38 0 0 1 1 1) fun v39 h =>
    ref14_Put.k6 C N Q v39 c1 h)
@[simp] def ref14_Put.k8 (C : CSem) (N : Nat → Nat) (Q : AVal → AHeap → Prop) (v4 c1 : AVal) (h : AHeap) : Prop :=
  B.al c1 (B.pv (V.field1 2 c1) fun v26 =>
    B.pv (V.bin .add v26 (.int .i64 1)) fun v27 =>
    B.call C (N 58) [v27, (.int .i64 2)] h fun v28 h =>
    B.appW h 1 1 v4 v28 fun v29 h =>
    B.al c1 (B.pv (V.field1 3 c1) fun v32 =>
    B.call C (N 59) [v32] h fun v33 h =>
    B.appW h 1 1 v29 v33 fun v34 h =>
    ref14_Put.k7 C N Q v34 c1 h))
@[simp] def ref14_Put.k9 (C : CSem) (N : Nat → Nat) (Q : AVal → AHeap → Prop) (v4 c1 : AVal) (h : AHeap) : Prop :=
  B.al c1 (B.pv (V.field1 1 c1) fun v21 =>
    B.call C (N 58) [v21, (.int .i64 8)] h fun v22 h =>
    B.appW h 1 1 v4 v22 fun v23 h =>
    ref14_Put.k8 C N Q v23 c1 h)
@[simp] def ref14_Put.k10 (C : CSem) (N : Nat → Nat) (Q : AVal → AHeap → Prop) (v4 c1 : AVal) (h : AHeap) : Prop :=
  B.al c1 (B.pv (V.field1 0 c1) fun v16 =>
    B.pv (V.bin .neq v16 (.int .i64 0)) fun v17 =>
    B.cond v17
    (Q (.tup [v4, (.int .i64 0)]) h)
    (ref14_Put.k9 C N Q v4 c1 h))
@[simp] def ref14_Put.k11 (C : CSem) (N : Nat → Nat) (Q : AVal → AHeap → Prop) (c1 : AVal) (h : AHeap) : Prop :=
  B.pv (V.fieldN 0 7 c1) fun v9 =>
    B.call C (N 33) [v9] h fun v10 h =>
    B.pv (V.un .not v10) fun v11 =>
    B.cond v11
    (Q (.tup [.nils, (.int .i64 2)]) h)
    (B.al c1 (B.pv (V.field1 0 c1) fun v13 =>
    B.call C (N 58) [v13, (.int .i64 2)] h fun v14 h =>
    ref14_Put.k10 C N Q v14 c1 h))
/-- storeman/storemanref14.Put -/
@[simp] def ref14_Put.cps (C : CSem) (N : Nat → Nat) (v0 : AVal) (h : AHeap) (Q : AVal → AHeap → Prop) : Prop :=
  B.pv (A.boxN 7 v0) fun c1 =>
    ref14_Put.k11 C N Q c1 h
def ref14_Put.Imp (C : CSem) (N : Nat → Nat) : Prop := ∀ (v0 : AVal) (h : AHeap) (Q : AVal → AHeap → Prop), ref14_Put.cps C N v0 h (dn Q) → C (N 32) [v0] h Q
@[simp] def ref14_Right.k1 (C : CSem) (N : Nat → Nat) (Q : AVal → AHeap → Prop) (Y1 : List AVal → AHeap → Prop) (v4 c1 : AVal) (h : AHeap) : Prop :=
  B.al c1 (B.pv (V.field1 6 c1) fun v101 =>
    B.pv (V.lenSl v101) fun v102 =>
    B.pv (V.bin .lss v4 v102) fun v103 =>
    B.cond v103
    (B.al c1 (B.pv (V.field1 6 c1) fun v107 =>
    B.pv (V.idxS 3 v107 v4) fun v109 =>
    B.pv (V.fieldAddr 0 v109) fun v110 =>
    B.ld h v110 fun v111 =>
    B.pv (V.bin .lss v111 (.int .i64 0)) fun v112 =>
    B.al c1 (B.gd h v112 false (fun K => K .undef h) fun _ h =>
    B.gd h v112 false (fun K => B.pv (V.field1 6 c1) fun v => K v h) fun v115 h =>
    B.gd h v112 false (fun K => K v4 h) fun v116 h =>
    B.gd h v112 false (fun K => B.pv (V.idxS 3 v115 v116) fun v => K v h) fun v117 h =>
    B.gd h v112 false (fun K => B.pv (V.fieldAddr 1 v117) fun v => K v h) fun v118 h =>
    B.gd h v112 false (fun K => B.ld h v118 fun v => K v h) fun v119 h =>
    B.gd h v112 false (fun K => B.pv (V.bin .lss v119 (.int .i64 1)) fun v => K v h) fun v120 h =>
    B.pick v112 (.bool true) v120 fun v121 =>
    B.al c1 (B.gd h v121 false (fun K => K .undef h) fun _ h =>
    B.gd h v121 false (fun K => B.pv (V.field1 6 c1) fun v => K v h) fun v124 h =>
    B.gd h v121 false (fun K => K v4 h) fun v125 h =>
    B.gd h v121 false (fun K => B.pv (V.idxS 3 v124 v125) fun v => K v h) fun v126 h =>
    B.gd h v121 false (fun K => B.pv (V.fieldAddr 2 v126) fun v => K v h) fun v127 h =>
    B.gd h v121 false (fun K => B.ld h v127 fun v => K v h) fun v128 h =>
    B.gd h v121 false (fun K => B.pv (V.bin .lss v128 (.int .i64 1)) fun v => K v h) fun v129 h =>
    B.pick v121 (.bool true) v129 fun v130 =>
    B.cond v130
    (Q (.bool false) h)
    (B.pv (V.bin .add v4 (.int .i64 1)) fun v105 =>
    Y1 [v105] h)))))
    (Q (.bool true) h))
@[simp] def ref14_Right.l2 (C : CSem) (N : Nat → Nat) (Q : AVal → AHeap → Prop) (c1 : AVal) : List AVal → AHeap → (List AVal → AHeap → Prop) → Prop
  | [v4], h, Y1 => ref14_Right.k1 C N Q Y1 v4 c1 h
  | _, _, _ => False
@[simp] def ref14_Right.k3 (C : CSem) (N : Nat → Nat) (Q : AVal → AHeap → Prop) (Y2 : List AVal → AHeap → Prop) (v3 c1 : AVal) (h : AHeap) : Prop :=
  B.al c1 (B.pv (V.field1 5 c1) fun v87 =>
    B.pv (V.lenSl v87) fun v88 =>
    B.pv (V.bin .lss v3 v88) fun v89 =>
    B.cond v89
    (B.al c1 (B.pv (V.field1 5 c1) fun v93 =>
    B.pv (V.idxS 6 v93 v3) fun v95 =>
    B.ldn h v95 6 fun v96 =>
    B.call C (N 60) [v96] h fun v97 h =>
    B.pv (V.un .not v97) fun v98 =>
    B.cond v98
    (Q (.bool false) h)
    (B.pv (V.bin .add v3 (.int .i64 1)) fun v91 =>
    Y2 [v91] h)))
    (LoopR (ref14_Right.l2 C N Q c1) [(.int .i64 0)] h))
@[simp] def ref14_Right.l4 (C : CSem) (N : Nat → Nat) (Q : AVal → AHeap → Prop) (c1 : AVal) : List AVal → AHeap → (List AVal → AHeap → Prop) → Prop
  | [v3], h, Y2 => ref14_Right.k3 C N Q Y2 v3 c1 h
  | _, _, _ => False
@[simp] def ref14_Right.k5 (C : CSem) (N : Nat → Nat) (Q : AVal → AHeap → Prop) (c1 : AVal) (h : AHeap) : Prop :=
  B.al c1 (B.pv (V.field1 1 c1) fun v45 =>
    B.pv (V.bin .lss v45 (.int .i64 0)) fun v46 =>
    B.al c1 (B.gd h v46 false (fun K => K .undef h) fun _ h =>
    B.gd h v46 false (fun K => B.pv (V.field1 2 c1) fun v => K v h) fun v49 h =>
    B.gd h v46 false (fun K => B.pv (V.bin .lss v49 (.int .i64 (-1))) fun v => K v h) fun v50 h =>
    B.pick v46 (.bool true) v50 fun v51 =>
    B.al c1 (B.gd h v51 false (fun K => K .undef h) fun _ h =>
    B.gd h v51 false (fun K => B.pv (V.field1 2 c1) fun v => K v h) fun v54 h =>
    B.gd h v51 false (fun K => B.pv (V.bin .gtr v54 (.int .i64 4000)) fun v => K v h) fun v55 h =>
    B.pick v51 (.bool true) v55 fun v56 =>
    B.al c1 (B.gd h v56 false (fun K => K .undef h) fun _ h =>
    B.gd h v56 false (fun K => B.pv (V.field1 3 c1) fun v => K v h) fun v59 h =>
    B.gd h v56 false (fun K => B.pv (V.bin .neq v59 (.str [])) fun v => K v h) fun v60 h =>
    B.gd h v56 false (fun K => K v60 h) fun v61 h =>
    B.al c1 (B.gd h v61 true (fun K => K .undef h) fun _ h =>
    B.gd h v61 true (fun K => B.pv (V.field1 3 c1) fun v => K v h) fun v63 h =>
    B.gd h v61 true (fun K => B.call C (N 61) [v63] h K) fun v64 h =>
    B.gd h v61 true (fun K => B.pv (V.un .not v64) fun v => K v h) fun v65 h =>
    B.gd h v56 false (fun K => B.pick v61 v65 (.bool false) fun v => K v h) fun v66 h =>
    B.pick v56 (.bool true) v66 fun v67 =>
    B.al c1 (B.gd h v67 false (fun K => K .undef h) fun _ h =>
    B.gd h v67 false (fun K => B.pv (V.field1 4 c1) fun v => K v h) fun v70 h =>
    B.gd h v67 false (fun K => B.pv (V.bin .gtr v70 (.int .u8 3)) fun v => K v h) fun v71 h =>
    B.pick v67 (.bool true) v71 fun v72 =>
    B.al c1 (B.gd h v72 false (fun K => K .undef h) fun _ h =>
    B.gd h v72 false (fun K => B.pv (V.field1 5 c1) fun v => K v h) fun v75 h =>
    B.gd h v72 false (fun K => B.pv (V.lenSl v75) fun v => K v h) fun v76 h =>
    B.gd h v72 false (fun K => B.pv (V.bin .gtr v76 (.int .i64 300)) fun v => K v h) fun v77 h =>
    B.pick v72 (.bool true) v77 fun v78 =>
    B.al c1 (B.gd h v78 false (fun K => K .undef h) fun _ h =>
    B.gd h v78 false (fun K => B.pv (V.field1 6 c1) fun v => K v h) fun v81 h =>
    B.gd h v78 false (fun K => B.pv (V.lenSl v81) fun v => K v h) fun v82 h =>
    B.gd h v78 false (fun K => B.pv (V.bin .gtr v82 (.int .i64 2000)) fun v => K v h) fun v83 h =>
    B.pick v78 (.bool true) v83 fun v84 =>
    B.cond v84
    (Q (.bool false) h)
    (LoopR (ref14_Right.l4 C N Q c1) [(.int .i64 0)] h)))))))))
@[simp] def ref14_Right.k6 (C : CSem) (N : Nat → Nat) (Q : AVal → AHeap → Prop) (c1 : AVal) (h : AHeap) : Prop :=
  B.al c1 (B.pv (V.field1 0 c1) fun v14 =>
    B.pv (V.bin .neq v14 (.int .i64 0)) fun v15 =>
    B.cond v15
    (B.al c1 (B.pv (V.field1 1 c1) fun v17 =>
    B.pv (V.bin .eql v17 (.int .i64 0)) fun v18 =>
    B.al c1 (B.gd h v18 true (fun K => K .undef h) fun _ h =>
    B.gd h v18 true (fun K => B.pv (V.field1 2 c1) fun v => K v h) fun v21 h =>
    B.gd h v18 true (fun K => B.pv (V.bin .eql v21 (.int .i64 0)) fun v => K v h) fun v22 h =>
    B.pick v18 v22 (.bool false) fun v23 =>
    B.al c1 (B.gd h v23 true (fun K => K .undef h) fun _ h =>
    B.gd h v23 true (fun K => B.pv (V.field1 3 c1) fun v => K v h) fun v26 h =>
    B.gd h v23 true (fun K => B.pv (V.bin .eql v26 (.str [])) fun v => K v h) fun v27 h =>
    B.pick v23 v27 (.bool false) fun v28 =>
    B.al c1 (B.gd h v28 true (fun K => K .undef h) fun _ h =>
    B.gd h v28 true (fun K => B.pv (V.field1 4 c1) fun v => K v h) fun v31 h =>
    B.gd h v28 true (fun K => B.pv (V.bin .eql v31 (.int .u8 0)) fun v => K v h) fun v32 h =>
    B.pick v28 v32 (.bool false) fun v33 =>
    B.al c1 (B.gd h v33 true (fun K => K .undef h) fun _ h =>
    B.gd h v33 true (fun K => B.pv (V.field1 5 c1) fun v => K v h) fun v36 h =>
    B.gd h v33 true (fun K => B.pv (V.lenSl v36) fun v => K v h) fun v37 h =>
    B.al c1 (B.gd h v33 true (fun K => K .undef h) fun _ h =>
    B.gd h v33 true (fun K => B.pv (V.field1 6 c1) fun v => K v h) fun v39 h =>
    B.gd h v33 true (fun K => B.pv (V.lenSl v39) fun v => K v h) fun v40 h =>
    B.gd h v33 true (fun K => B.pv (V.bin .add v37 v40) fun v => K v h) fun v41 h =>
    B.gd h v33 true (fun K => B.pv (V.bin .eql v41 (.int .i64 0)) fun v => K v h) fun v42 h =>
    B.pick v33 v42 (.bool false) fun v43 =>
    Q v43 h)))))))
    (ref14_Right.k5 C N Q c1 h))
@[simp] def ref14_Right.k7 (C : CSem) (N : Nat → Nat) (Q : AVal → AHeap → Prop) (c1 : AVal) (h : AHeap) : Prop :=
  B.al c1 (B.pv (V.field1 0 c1) fun v6 =>
    B.pv (V.bin .lss v6 (.int .i64 0)) fun v7 =>
    B.al c1 (B.gd h v7 false (fun K => K .undef h) fun _ h =>
    B.gd h v7 false (fun K => B.pv (V.field1 0 c1) fun v => K v h) fun v10 h =>
    B.gd h v7 false (fun K => B.pv (V.bin .gtr v10 (.int .i64 999)) fun v => K v h) fun v11 h =>
    B.pick v7 (.bool true) v11 fun v12 =>
    B.cond v12
    (Q (.bool false) h)
    (ref14_Right.k6 C N Q c1 h)))
/-- storeman/storemanref14.Right -/
@[simp] def ref14_Right.cps (C : CSem) (N : Nat → Nat) (v0 : AVal) (h : AHeap) (Q : AVal → AHeap → Prop) : Prop :=
  B.pv (A.boxN 7 v0) fun c1 =>
    ref14_Right.k7 C N Q c1 h
def ref14_Right.Imp (C : CSem) (N : Nat → Nat) : Prop := ∀ (v0 : AVal) (h : AHeap) (Q : AVal → AHeap → Prop), ref14_Right.cps C N v0 h (dn Q) → C (N 33) [v0] h Q
@[simp] def ref14_Get.k1 (C : CSem) (N : Nat → Nat) (Q : AVal → AHeap → Prop) (v2 v5 c6 : AVal) (h : AHeap) : Prop :=
  B.nilCheck v5 fun v82 =>
    B.pv (V.fieldAddr 2 v82) fun v83 =>
    B.ld h v83 fun v84 =>
    B.gd h v84 false (fun K => B.pv (V.fieldN 0 7 c6) fun v => K v h) fun v86 h =>
    B.gd h v84 false (fun K => B.call C (N 33) [v86] h K) fun v87 h =>
    B.gd h v84 false (fun K => B.pv (V.un .not v87) fun v => K v h) fun v88 h =>
    B.pick v84 (.bool true) v88 fun v89 =>
    B.cond v89
    (B.pv (A.bld [] [.int .i64 0, .int .i64 0, .int .i64 0, .str [], .int .u8 0, .nils, .nils]) fun v90 =>
    B.stn h v2 7 v90 fun h =>
    B.pv (oneOf (joinV (A.ldnv h v2 7) (joinV (some (.int .i64 0)) (joinV (some (.int .i64 4)) (some []))))) fun v => Q v h)
    (B.pv (V.fieldN 0 7 c6) fun v91 =>
    B.nilCheck v5 fun v93 =>
    B.pv (V.fieldAddr 1 v93) fun v94 =>
    B.ld h v94 fun v95 =>
    (fun K => B.stn h v2 7 v91 fun h => K .undef h) (B.keepS h [(v94, none)] (fun _ h => B.pv (oneOf (joinV (A.ldnv h v2 7) (joinV (some v95) (joinV (some (.int .i64 0)) (some []))))) fun v => Q v h)))
@[simp] def ref14_Get.k2 (C : CSem) (N : Nat → Nat) (Q : AVal → AHeap → Prop) (Y1 : List AVal → AHeap → Prop) (v2 v5 v8 c6 : AVal) (h : AHeap) : Prop :=
  B.pv (V.bin .gtr v8 (.int .i64 0)) fun v56 =>
    B.gd h v56 true (fun K => K v5 h) fun v58 h =>
    B.gd h v56 true (fun K => B.nilCheck v58 fun v => K v h) fun v59 h =>
    B.gd h v56 true (fun K => B.pv (V.fieldAddr 2 v59) fun v => K v h) fun v60 h =>
    B.gd h v56 true (fun K => B.ld h v60 fun v => K v h) fun v61 h =>
    B.gd h v56 true (fun K => B.pv (V.un .not v61) fun v => K v h) fun v62 h =>
    B.pick v56 v62 (.bool false) fun v63 =>
    B.cond v63
    (B.call C (N 71) [v5, (.int .i64 8)] h fun v67 h =>
    B.pv (A.bld [(0, none, v67)] [.int .i64 0, .int .i64 0, .int .i64 0]) fun v68 =>
    B.pv (V.setN 0 3 v68 (.agg [.int .i64 0, .int .i64 0, .int .i64 0])) fun c9 =>
    B.call C (N 71) [v5, (.int .i64 8)] h fun v70 h =>
    B.al c9 (B.pv (V.setF 1 v70 c9) fun c9 =>
    B.call C (N 71) [v5, (.int .i64 8)] h fun v73 h =>
    B.al c9 (B.pv (V.setF 2 v73 c9) fun c9 =>
    B.al c6 (B.pv (V.field1 6 c6) fun v76 =>
    B.pv (V.fieldN 0 3 c9) fun v77 =>
    B.newO h (fillL [(0, some 3, v77)] (repL 1 [.int .i64 0, .int .i64 0, .int .i64 0])) fun i78 h =>
    B.appW h 3 24 v76 (.sl i78 0 0 1 3 1) fun v79 h =>
    B.al c6 (B.pv (V.setF 6 v79 c6) fun c6 =>
    B.pv (V.bin .sub v8 (.int .i64 1)) fun v65 =>
    Y1 [v65, c6] h)))))
    (ref14_Get.k1 C N Q v2 v5 c6 h)
@[simp] def ref14_Get.l3 (C : CSem) (N : Nat → Nat) (Q : AVal → AHeap → Prop) (v2 v5 : AVal) : List AVal → AHeap → (List AVal → AHeap → Prop) → Prop
  | [v8, c6], h, Y1 => ref14_Get.k2 C N Q Y1 v2 v5 v8 c6 h
  | _, _, _ => False
@[simp] def ref14_Get.k4 (C : CSem) (N : Nat → Nat) (Q : AVal → AHeap → Prop) (Y2 : List AVal → AHeap → Prop) (v2 v5 v7 c6 : AVal) (h : AHeap) : Prop :=
  B.pv (V.bin .gtr v7 (.int .i64 0)) fun v36 =>
    B.gd h v36 true (fun K => K v5 h) fun v38 h =>
    B.gd h v36 true (fun K => B.nilCheck v38 fun v => K v h) fun v39 h =>
    B.gd h v36 true (fun K => B.pv (V.fieldAddr 2 v39) fun v => K v h) fun v40 h =>
    B.gd h v36 true (fun K => B.ld h v40 fun v => K v h) fun v41 h =>
    B.gd h v36 true (fun K => B.pv (V.un .not v41) fun v => K v h) fun v42 h =>
    B.pick v36 v42 (.bool false) fun v43 =>
    B.cond v43
    (B.al c6 (B.pv (V.field1 5 c6) fun v47 =>
    B.call C (N 72) [v5] h fun v49 h =>
    B.newO h (fillL [(0, some 6, v49)] (repL 1 [.int .i64 0, .str [], .int .i64 0, .int .i64 0, .int .i64 0, .bool false])) fun i50 h =>
    B.appW h 6 56 v47 (.sl i50 0 0 1 6 1) fun v51 h =>
    B.al c6 (B.pv (V.setF 5 v51 c6) fun c6 =>
    B.pv (V.bin .sub v7 (.int .i64 1)) fun v45 =>
    Y2 [v45, c6] h)))
    (B.call C (N 71) [v5, (.int .i64 2)] h fun v54 h =>
    LoopR (ref14_Get.l3 C N Q v2 v5) [v54, c6] h)
@[simp] def ref14_Get.l5 (C : CSem) (N : Nat → Nat) (Q : AVal → AHeap → Prop) (v2 v5 : AVal) : List AVal → AHeap → (List AVal → AHeap → Prop) → Prop
  | [v7, c6], h, Y2 => ref14_Get.k4 C N Q Y2 v2 v5 v7 c6 h
  | _, _, _ => False
@[simp] def ref14_Get.k6 (C : CSem) (N : Nat → Nat) (Q : AVal → AHeap → Prop) (v2 v5 c6 : AVal) (h : AHeap) : Prop :=
  B.call C (N 71) [v5, (.int .i64 1)] h fun v30 h =>
    B.pv (V.toInt .u8 v30) fun v31 =>
    B.al c6 (B.pv (V.setF 4 v31 c6) fun c6 =>
    B.call C (N 71) [v5, (.int .i64 2)] h fun v34 h =>
    LoopR (ref14_Get.l5 C N Q v2 v5) [v34, c6] h)
@[simp] def ref14_Get.k7 (C : CSem) (N : Nat → Nat) (Q : AVal → AHeap → Prop) (v2 v5 c6 : AVal) (h : AHeap) : Prop :=
  B.call C (N 71) [v5, (.int .i64 2)] h fun v23 h =>
    B.pv (V.bin .sub v23 (.int .i64 1)) fun v24 =>
    B.al c6 (B.pv (V.setF 2 v24 c6) fun c6 =>
    B.call C (N 73) [v5] h fun v27 h =>
    B.al c6 (B.pv (V.setF 3 v27 c6) fun c6 =>
    ref14_Get.k6 C N Q v2 v5 c6 h))
@[simp] def ref14_Get.k8 (C : CSem) (N : Nat → Nat) (Q : AVal → AHeap → Prop) (v2 v5 c6 : AVal) (h : AHeap) : Prop :=
  B.al c6 (B.pv (V.field1 0 c6) fun v17 =>
    B.pv (V.bin .eql v17 (.int .i64 0)) fun v18 =>
    B.cond v18 (B.call C (N 71) [v5, (.int .i64 8)] h fun v20 h =>
    B.al c6 (B.pv (V.setF 1 v20 c6) fun c6 =>
    ref14_Get.k7 C N Q v2 v5 c6 h)) (ref14_Get.k1 C N Q v2 v5 c6 h))
@[simp] def ref14_Get.k9 (C : CSem) (N : Nat → Nat) (Q : AVal → AHeap → Prop) (v2 v5 : AVal) (h : AHeap) : Prop :=
  B.call C (N 71) [v5, (.int .i64 2)] h fun v14 h =>
    B.pv (A.bld [(0, none, v14)] [.int .i64 0, .int .i64 0, .int .i64 0, .str [], .int .u8 0, .nils, .nils]) fun v15 =>
    B.pv (V.setN 0 7 v15 (.agg [.int .i64 0, .int .i64 0, .int .i64 0, .str [], .int .u8 0, .nils, .nils])) fun c6 =>
    ref14_Get.k8 C N Q v2 v5 c6 h
@[simp] def ref14_Get.k10 (C : CSem) (N : Nat → Nat) (Q : AVal → AHeap → Prop) (v0 : AVal) (h : AHeap) : Prop :=
  B.newO h (some [.int .i64 0, .int .i64 0, .int .i64 0, .str [], .int .u8 0, .nils, .nils]) fun i2 h =>
    B.pv (A.bld [(0, none, v0)] [.nils, .int .i64 0, .bool false]) fun v11 =>
    B.newO h (A.cellsN 3 v11) fun i12 h =>
    ref14_Get.k9 C N Q (.ptr i2 0 0) (.ptr i12 0 0) h
/-- storeman/storemanref14.Get -/
@[simp] def ref14_Get.cps (C : CSem) (N : Nat → Nat) (v0 : AVal) (h : AHeap) (Q : AVal → AHeap → Prop) : Prop :=
  ref14_Get.k10 C N Q v0 h
def ref14_Get.Imp (C : CSem) (N : Nat → Nat) : Prop := ∀ (v0 : AVal) (h : AHeap) (Q : AVal → AHeap → Prop), ref14_Get.cps C N v0 h (dn Q) → C (N 41) [v0] h Q
@[simp] def ref14_number.k1 (C : CSem) (N : Nat → Nat) (Q : AVal → AHeap → Prop) (Y1 : List AVal → AHeap → Prop) (v0 v5 v6 : AVal) (h : AHeap) : Prop :=
  B.pv (V.bin .geq v6 (.int .i64 0)) fun v10 =>
    B.cond v10
    (B.pv (V.toInt .u64 v0) fun v15 =>
    B.pv (V.bin .mul (.int .i64 8) v6) fun v17 =>
    B.pv (V.toInt .u64 v17) fun v18 =>
    B.pv (V.bin .shr v15 v18) fun v19 =>
    B.pv (V.toInt .u8 v19) fun v20 =>
    B.newO h (fillL [(0, none, v20)] (repL 1 [.int .u8 0])) fun i21 h =>
    B.appW h 1 1 v5 (.sl i21 0 0 1 1 1) fun v22 h =>
    B.pv (V.bin .sub v6 (.int .i64 1)) fun v12 =>
    Y1 [v22, v12] h)
    (Q v5 h)
@[simp] def ref14_number.l2 (C : CSem) (N : Nat → Nat) (Q : AVal → AHeap → Prop) (v0 : AVal) : List AVal → AHeap → (List AVal → AHeap → Prop) → Prop
  | [v5, v6], h, Y1 => ref14_number.k1 C N Q Y1 v0 v5 v6 h
  | _, _, _ => False
/-- storeman/storemanref14.number -/
@[simp] def ref14_number.cps (C : CSem) (N : Nat → Nat) (v0 v1 : AVal) (h : AHeap) (Q : AVal → AHeap → Prop) : Prop :=
  B.pv (V.bin .sub v1 (.int .i64 1)) fun v8 =>
    LoopR (ref14_number.l2 C N Q v0) [.nils, v8] h
def ref14_number.Imp (C : CSem) (N : Nat → Nat) : Prop := ∀ (v0 v1 : AVal) (h : AHeap) (Q : AVal → AHeap → Prop), ref14_number.cps C N v0 v1 h (dn Q) → C (N 58) [v0, v1] h Q
@[simp] def ref14_lot.k1 (C : CSem) (N : Nat → Nat) (Q : AVal → AHeap → Prop) (v0 : AVal) (h : AHeap) : Prop :=
  B.call C (N 71) [v0, (.int .i64 8)] h fun v6 h =>
    B.pv (A.bld [(0, none, v6)] [.int .i64 0, .str [], .int .i64 0, .int .i64 0, .int .i64 0, .bool false]) fun v7 =>
    B.pv (V.setN 0 6 v7 (.agg [.int .i64 0, .str [], .int .i64 0, .int .i64 0, .int .i64 0, .bool false])) fun c3 =>
    B.call C (N 73) [v0] h fun v9 h =>
    B.al c3 (B.pv (V.setF 1 v9 c3) fun c3 =>
    B.call C (N 71) [v0, (.int .i64 2)] h fun v12 h =>
    B.al c3 (B.al c3 (B.pv (V.setF 2 v12 c3) fun c3 =>
    B.call C (N 71) [v0, (.int .i64 2)] h fun v16 h =>
    B.al c3 (B.al c3 (B.pv (V.setF 3 v16 c3) fun c3 =>
    B.call C (N 71) [v0, (.int .i64 8)] h fun v20 h =>
    B.al c3 (B.pv (V.setF 4 v20 c3) fun c3 =>
    B.call C (N 71) [v0, (.int .i64 1)] h fun v23 h =>
    B.pv (V.bin .eql v23 (.int .i64 1)) fun v25 =>
    B.al c3 (B.pv (V.setF 5 v25 c3) fun c3 =>
    B.nilCheck v0 fun v29 =>
    B.pv (V.fieldAddr 2 v29) fun v30 =>
    B.ld h v30 fun v31 =>
    B.gd h v31 false (fun K => K v23 h) fun v33 h =>
    B.gd h v31 false (fun K => B.pv (V.bin .gtr v33 (.int .i64 1)) fun v => K v h) fun v34 h =>
    B.pick v31 (.bool true) v34 fun v35 =>
    B.nilCheck v0 fun v36 =>
    B.pv (V.fieldAddr 2 v36) fun v37 =>
    B.st h v37 v35 fun h =>
    B.pv (V.fieldN 0 6 c3) fun v38 =>
    B.pv (V.setN 0 6 v38 (.agg [.int .i64 0, .str [], .int .i64 0, .int .i64 0, .int .i64 0, .bool false])) fun c2 =>
    B.pv (oneOf (joinV (V.fieldN 0 6 c2) (some []))) fun v => Q v h)))))))
/-- storeman/storemanref14.lot -/
@[simp] def ref14_lot.cps (C : CSem) (N : Nat → Nat) (v0 : AVal) (h : AHeap) (Q : AVal → AHeap → Prop) : Prop :=
  ref14_lot.k1 C N Q v0 h
def ref14_lot.Imp (C : CSem) (N : Nat → Nat) : Prop := ∀ (v0 : AVal) (h : AHeap) (Q : AVal → AHeap → Prop), ref14_lot.cps C N v0 h (dn Q) → C (N 72) [v0] h Q
end Go.Ab

/- What is told: residuals: what each function does in the abstract memory, printed by a program of mine. Definitions alone. -/
set_option linter.unusedVariables false
namespace Go.Ab
@[simp] def tell_Put.k1 (C : CSem) (N : Nat → Nat) (Q : AVal → AHeap → Prop) (Y1 : List AVal → AHeap → Prop) (v4 v86 v87 v88 : AVal) (h : AHeap) : Prop :=
  B.pv (V.bin .lss v88 v87) fun v89 =>
    B.cond v89
    (B.pv (V.idxS 3 v86 v88) fun v90 =>
    B.ldn h v90 3 fun v91 =>
    B.pv (V.setN 0 3 v91 (.agg [.int .i64 0, .int .i64 0, .int .i64 0])) fun c9 =>
    B.al c9 (B.pv (V.field1 0 c9) fun v94 =>
    B.call C (N 50) [v4, v94, (.int .i64 8)] h fun v95 h =>
    B.al c9 (B.pv (V.field1 1 c9) fun v98 =>
    B.call C (N 50) [v95, v98, (.int .i64 8)] h fun v99 h =>
    B.al c9 (B.pv (V.field1 2 c9) fun v102 =>
    B.call C (N 50) [v99, v102, (.int .i64 8)] h fun v103 h =>
    B.pv (V.bin .add v88 (.int .i64 1)) fun v104 =>
    Y1 [v103, v104] h))))
    (Q (.tup [v4, (.int .i64 0)]) h)
@[simp] def tell_Put.l2 (C : CSem) (N : Nat → Nat) (Q : AVal → AHeap → Prop) (v86 v87 : AVal) : List AVal → AHeap → (List AVal → AHeap → Prop) → Prop
  | [v4, v88], h, Y1 => tell_Put.k1 C N Q Y1 v4 v86 v87 v88 h
  | _, _, _ => False
@[simp] def tell_Put.k3 (C : CSem) (N : Nat → Nat) (Q : AVal → AHeap → Prop) (v4 c1 : AVal) (h : AHeap) : Prop :=
  B.al c1 (B.pv (V.field1 6 c1) fun v82 =>
    B.pv (V.lenSl v82) fun v83 =>
    B.call C (N 50) [v4, v83, (.int .i64 2)] h fun v84 h =>
    B.al c1 (B.pv (V.field1 6 c1) fun v86 =>
    B.pv (V.lenSl v86) fun v87 =>
    LoopR (tell_Put.l2 C N Q v86 v87) [v84, (.int .i64 0)] h))
@[simp] def tell_Put.k4 (C : CSem) (N : Nat → Nat) (Q : AVal → AHeap → Prop) (Y2 : List AVal → AHeap → Prop) (v4 v45 v46 v47 c1 : AVal) (h : AHeap) : Prop :=
  B.pv (V.bin .lss v47 v46) fun v48 =>
    B.cond v48
    (B.pv (V.idxS 6 v45 v47) fun v49 =>
    B.ldn h v49 6 fun v50 =>
    B.pv (V.setN 0 6 v50 (.agg [.int .i64 0, .str [], .int .i64 0, .int .i64 0, .int .i64 0, .bool false])) fun c6 =>
    B.al c6 (B.pv (V.field1 0 c6) fun v53 =>
    B.call C (N 50) [v4, v53, (.int .i64 8)] h fun v54 h =>
    B.al c6 (B.pv (V.field1 1 c6) fun v57 =>
    B.call C (N 51) [v57] h fun v58 h =>
    B.appW h 1 1 v54 v58 fun v59 h =>
    B.al c6 (B.al c6 (B.pv (V.field1 2 c6) fun v63 =>
    B.call C (N 50) [v59, v63, (.int .i64 2)] h fun v64 h =>
    B.al c6 (B.al c6 (B.pv (V.field1 3 c6) fun v68 =>
    B.call C (N 50) [v64, v68, (.int .i64 2)] h fun v69 h =>
    B.al c6 (B.pv (V.field1 4 c6) fun v72 =>
    B.call C (N 50) [v69, v72, (.int .i64 8)] h fun v73 h =>
    B.al c6 (B.pv (V.field1 5 c6) fun v75 =>
    B.cond v75
    (B.call C (N 50) [v73, (.int .i64 1), (.int .i64 1)] h fun v78 h =>
    B.pv (V.bin .add v47 (.int .i64 1)) fun v79 =>
    Y2 [v78, v79] h)
    (B.call C (N 50) [v73, (.int .i64 0), (.int .i64 1)] h fun v78 h =>
    B.pv (V.bin .add v47 (.int .i64 1)) fun v79 =>
    Y2 [v78, v79] h))))))))))
    (tell_Put.k3 C N Q v4 c1 h)
@[simp] def tell_Put.l5 (C : CSem) (N : Nat → Nat) (Q : AVal → AHeap → Prop) (v45 v46 c1 : AVal) : List AVal → AHeap → (List AVal → AHeap → Prop) → Prop
  | [v4, v47], h, Y2 => tell_Put.k4 C N Q Y2 v4 v45 v46 v47 c1 h
  | _, _, _ => False
@[simp] def tell_Put.k6 (C : CSem) (N : Nat → Nat) (Q : AVal → AHeap → Prop) (v4 c1 : AVal) (h : AHeap) : Prop :=
  B.al c1 (B.pv (V.field1 5 c1) fun v41 =>
    B.pv (V.lenSl v41) fun v42 =>
    B.call C (N 50) [v4, v42, (.int .i64 2)] h fun v43 h =>
    B.al c1 (B.pv (V.field1 5 c1) fun v45 =>
    B.pv (V.lenSl v45) fun v46 =>
    LoopR (tell_Put.l5 C N Q v45 v46 c1) [v43, (.int .i64 0)] h))
@[simp] def tell_Put.k7 (C : CSem) (N : Nat → Nat) (Q : AVal → AHeap → Prop) (v4 c1 : AVal) (h : AHeap) : Prop :=
  B.al c1 (B.pv (V.field1 4 c1) fun v36 =>
    B.newO h (fillL [(0, none, v36)] (repL 1 [.int .u8 0])) fun i37 h =>
    B.appW h 1 1 v4 (.sl i37 0 0 1 1 1) fun v38 h =>
    tell_Put.k6 C N Q v38 c1 h)
@[simp] def tell_Put.k8 (C : CSem) (N : Nat → Nat) (Q : AVal → AHeap → Prop) (v4 c1 : AVal) (h : AHeap) : Prop :=
  B.al c1 (B.pv (V.field1 2 c1) fun v26 =>
    B.pv (V.bin .add v26 (.int .i64 1)) fun v27 =>
    B.call C (N 50) [v4, v27, (.int .i64 2)] h fun v28 h =>
    B.al c1 (B.pv (V.field1 3 c1) fun v31 =>
    B.call C (N 51) [v31] h fun v32 h =>
    B.appW h 1 1 v28 v32 fun v33 h =>
    tell_Put.k7 C N Q v33 c1 h))
@[simp] def tell_Put.k9 (C : CSem) (N : Nat → Nat) (Q : AVal → AHeap → Prop) (v4 c1 : AVal) (h : AHeap) : Prop :=
  B.al c1 (B.pv (V.field1 0 c1) fun v17 =>
    B.pv (V.bin .gtr v17 (.int .i64 0)) fun v18 =>
    B.cond v18
    (Q (.tup [v4, (.int .i64 0)]) h)
    (B.al c1 (B.pv (V.field1 1 c1) fun v22 =>
    B.call C (N 50) [v4, v22, (.int .i64 8)] h fun v23 h =>
    tell_Put.k8 C N Q v23 c1 h)))
@[simp] def tell_Put.k10 (C : CSem) (N : Nat → Nat) (Q : AVal → AHeap → Prop) (c1 : AVal) (h : AHeap) : Prop :=
  B.pv (V.fieldN 0 7 c1) fun v10 =>
    B.call C (N 29) [v10] h fun v11 h =>
    B.pv (V.un .not v11) fun v12 =>
    B.cond v12
    (Q (.tup [.nils, (.int .i64 2)]) h)
    (B.al c1 (B.pv (V.field1 0 c1) fun v14 =>
    B.call C (N 50) [.nils, v14, (.int .i64 2)] h fun v15 h =>
    tell_Put.k9 C N Q v15 c1 h))
/-- storeman/tell.Put -/
@[simp] def tell_Put.cps (C : CSem) (N : Nat → Nat) (v0 : AVal) (h : AHeap) (Q : AVal → AHeap → Prop) : Prop :=
  B.pv (A.boxN 7 v0) fun c1 =>
    tell_Put.k10 C N Q c1 h
def tell_Put.Imp (C : CSem) (N : Nat → Nat) : Prop := ∀ (v0 : AVal) (h : AHeap) (Q : AVal → AHeap → Prop), tell_Put.cps C N v0 h (dn Q) → C (N 28) [v0] h Q
@[simp] def tell_Right.k1 (C : CSem) (N : Nat → Nat) (Q : AVal → AHeap → Prop) (Y1 : List AVal → AHeap → Prop) (v104 v105 v106 : AVal) (h : AHeap) : Prop :=
  B.pv (V.bin .lss v106 v105) fun v107 =>
    B.cond v107
    (B.pv (V.idxS 3 v104 v106) fun v108 =>
    B.ldn h v108 3 fun v109 =>
    B.pv (V.setN 0 3 v109 (.agg [.int .i64 0, .int .i64 0, .int .i64 0])) fun c7 =>
    B.al c7 (B.pv (V.field1 0 c7) fun v111 =>
    B.pv (V.bin .lss v111 (.int .i64 0)) fun v112 =>
    B.al c7 (B.gd h v112 false (fun K => K .undef h) fun _ h =>
    B.gd h v112 false (fun K => B.pv (V.field1 1 c7) fun v => K v h) fun v115 h =>
    B.gd h v112 false (fun K => B.pv (V.bin .lss v115 (.int .i64 1)) fun v => K v h) fun v116 h =>
    B.pick v112 (.bool true) v116 fun v117 =>
    B.al c7 (B.gd h v117 false (fun K => K .undef h) fun _ h =>
    B.gd h v117 false (fun K => B.pv (V.field1 2 c7) fun v => K v h) fun v120 h =>
    B.gd h v117 false (fun K => B.pv (V.bin .lss v120 (.int .i64 1)) fun v => K v h) fun v121 h =>
    B.pick v117 (.bool true) v121 fun v122 =>
    B.cond v122
    (Q (.bool false) h)
    (B.pv (V.bin .add v106 (.int .i64 1)) fun v123 =>
    Y1 [v123] h)))))
    (Q (.bool true) h)
@[simp] def tell_Right.l2 (C : CSem) (N : Nat → Nat) (Q : AVal → AHeap → Prop) (v104 v105 : AVal) : List AVal → AHeap → (List AVal → AHeap → Prop) → Prop
  | [v106], h, Y1 => tell_Right.k1 C N Q Y1 v104 v105 v106 h
  | _, _, _ => False
@[simp] def tell_Right.k3 (C : CSem) (N : Nat → Nat) (Q : AVal → AHeap → Prop) (Y2 : List AVal → AHeap → Prop) (v93 v94 v95 c1 : AVal) (h : AHeap) : Prop :=
  B.pv (V.bin .lss v95 v94) fun v96 =>
    B.cond v96
    (B.pv (V.idxS 6 v93 v95) fun v97 =>
    B.ldn h v97 6 fun v98 =>
    B.pv (V.setN 0 6 v98 (.agg [.int .i64 0, .str [], .int .i64 0, .int .i64 0, .int .i64 0, .bool false])) fun c5 =>
    B.pv (V.fieldN 0 6 c5) fun v99 =>
    B.call C (N 52) [v99] h fun v100 h =>
    B.pv (V.un .not v100) fun v101 =>
    B.cond v101
    (Q (.bool false) h)
    (B.pv (V.bin .add v95 (.int .i64 1)) fun v102 =>
    Y2 [v102] h))
    (B.al c1 (B.pv (V.field1 6 c1) fun v104 =>
    B.pv (V.lenSl v104) fun v105 =>
    LoopR (tell_Right.l2 C N Q v104 v105) [(.int .i64 0)] h))
@[simp] def tell_Right.l4 (C : CSem) (N : Nat → Nat) (Q : AVal → AHeap → Prop) (v93 v94 c1 : AVal) : List AVal → AHeap → (List AVal → AHeap → Prop) → Prop
  | [v95], h, Y2 => tell_Right.k3 C N Q Y2 v93 v94 v95 c1 h
  | _, _, _ => False
@[simp] def tell_Right.k5 (C : CSem) (N : Nat → Nat) (Q : AVal → AHeap → Prop) (v3 c1 : AVal) (h : AHeap) : Prop :=
  B.al c1 (B.pv (V.field1 0 c1) fun v38 =>
    B.pv (V.bin .lss v38 (.int .i64 0)) fun v39 =>
    B.al c1 (B.gd h v39 false (fun K => K .undef h) fun _ h =>
    B.gd h v39 false (fun K => B.pv (V.field1 0 c1) fun v => K v h) fun v42 h =>
    B.gd h v39 false (fun K => B.pv (V.bin .gtr v42 (.int .i64 999)) fun v => K v h) fun v43 h =>
    B.pick v39 (.bool true) v43 fun v44 =>
    B.cond v44
    (Q (.bool false) h)
    (B.al c1 (B.pv (V.field1 0 c1) fun v47 =>
    B.pv (V.bin .gtr v47 (.int .i64 0)) fun v48 =>
    B.cond v48
    (Q v3 h)
    (B.al c1 (B.pv (V.field1 1 c1) fun v52 =>
    B.pv (V.bin .lss v52 (.int .i64 0)) fun v53 =>
    B.al c1 (B.gd h v53 false (fun K => K .undef h) fun _ h =>
    B.gd h v53 false (fun K => B.pv (V.field1 2 c1) fun v => K v h) fun v56 h =>
    B.gd h v53 false (fun K => B.pv (V.bin .lss v56 (.int .i64 (-1))) fun v => K v h) fun v57 h =>
    B.pick v53 (.bool true) v57 fun v58 =>
    B.al c1 (B.gd h v58 false (fun K => K .undef h) fun _ h =>
    B.gd h v58 false (fun K => B.pv (V.field1 2 c1) fun v => K v h) fun v61 h =>
    B.gd h v58 false (fun K => B.pv (V.bin .gtr v61 (.int .i64 4000)) fun v => K v h) fun v62 h =>
    B.pick v58 (.bool true) v62 fun v63 =>
    B.al c1 (B.gd h v63 false (fun K => K .undef h) fun _ h =>
    B.gd h v63 false (fun K => B.pv (V.field1 3 c1) fun v => K v h) fun v66 h =>
    B.gd h v63 false (fun K => B.pv (V.bin .neq v66 (.str [])) fun v => K v h) fun v67 h =>
    B.gd h v63 false (fun K => K v67 h) fun v68 h =>
    B.al c1 (B.gd h v68 true (fun K => K .undef h) fun _ h =>
    B.gd h v68 true (fun K => B.pv (V.field1 3 c1) fun v => K v h) fun v70 h =>
    B.gd h v68 true (fun K => B.call C (N 53) [v70] h K) fun v71 h =>
    B.gd h v68 true (fun K => B.pv (V.un .not v71) fun v => K v h) fun v72 h =>
    B.gd h v63 false (fun K => B.pick v68 v72 (.bool false) fun v => K v h) fun v73 h =>
    B.pick v63 (.bool true) v73 fun v74 =>
    B.al c1 (B.gd h v74 false (fun K => K .undef h) fun _ h =>
    B.gd h v74 false (fun K => B.pv (V.field1 4 c1) fun v => K v h) fun v77 h =>
    B.gd h v74 false (fun K => B.pv (V.bin .gtr v77 (.int .u8 3)) fun v => K v h) fun v78 h =>
    B.pick v74 (.bool true) v78 fun v79 =>
    B.al c1 (B.gd h v79 false (fun K => K .undef h) fun _ h =>
    B.gd h v79 false (fun K => B.pv (V.field1 5 c1) fun v => K v h) fun v82 h =>
    B.gd h v79 false (fun K => B.pv (V.lenSl v82) fun v => K v h) fun v83 h =>
    B.gd h v79 false (fun K => B.pv (V.bin .gtr v83 (.int .i64 300)) fun v => K v h) fun v84 h =>
    B.pick v79 (.bool true) v84 fun v85 =>
    B.al c1 (B.gd h v85 false (fun K => K .undef h) fun _ h =>
    B.gd h v85 false (fun K => B.pv (V.field1 6 c1) fun v => K v h) fun v88 h =>
    B.gd h v85 false (fun K => B.pv (V.lenSl v88) fun v => K v h) fun v89 h =>
    B.gd h v85 false (fun K => B.pv (V.bin .gtr v89 (.int .i64 2000)) fun v => K v h) fun v90 h =>
    B.pick v85 (.bool true) v90 fun v91 =>
    B.cond v91
    (Q (.bool false) h)
    (B.al c1 (B.pv (V.field1 5 c1) fun v93 =>
    B.pv (V.lenSl v93) fun v94 =>
    LoopR (tell_Right.l4 C N Q v93 v94 c1) [(.int .i64 0)] h)))))))))))))))
@[simp] def tell_Right.k6 (C : CSem) (N : Nat → Nat) (Q : AVal → AHeap → Prop) (c1 : AVal) (h : AHeap) : Prop :=
  B.al c1 (B.pv (V.field1 1 c1) fun v9 =>
    B.pv (V.bin .eql v9 (.int .i64 0)) fun v10 =>
    B.al c1 (B.gd h v10 true (fun K => K .undef h) fun _ h =>
    B.gd h v10 true (fun K => B.pv (V.field1 2 c1) fun v => K v h) fun v13 h =>
    B.gd h v10 true (fun K => B.pv (V.bin .eql v13 (.int .i64 0)) fun v => K v h) fun v14 h =>
    B.pick v10 v14 (.bool false) fun v15 =>
    B.al c1 (B.gd h v15 true (fun K => K .undef h) fun _ h =>
    B.gd h v15 true (fun K => B.pv (V.field1 3 c1) fun v => K v h) fun v18 h =>
    B.gd h v15 true (fun K => B.pv (V.bin .eql v18 (.str [])) fun v => K v h) fun v19 h =>
    B.pick v15 v19 (.bool false) fun v20 =>
    B.al c1 (B.gd h v20 true (fun K => K .undef h) fun _ h =>
    B.gd h v20 true (fun K => B.pv (V.field1 4 c1) fun v => K v h) fun v23 h =>
    B.gd h v20 true (fun K => B.pv (V.bin .eql v23 (.int .u8 0)) fun v => K v h) fun v24 h =>
    B.pick v20 v24 (.bool false) fun v25 =>
    B.al c1 (B.gd h v25 true (fun K => K .undef h) fun _ h =>
    B.gd h v25 true (fun K => B.pv (V.field1 5 c1) fun v => K v h) fun v28 h =>
    B.gd h v25 true (fun K => B.pv (V.lenSl v28) fun v => K v h) fun v29 h =>
    B.al c1 (B.gd h v25 true (fun K => K .undef h) fun _ h =>
    B.gd h v25 true (fun K => B.pv (V.field1 6 c1) fun v => K v h) fun v31 h =>
    B.gd h v25 true (fun K => B.pv (V.lenSl v31) fun v => K v h) fun v32 h =>
    B.gd h v25 true (fun K => B.pv (V.bin .add v29 v32) fun v => K v h) fun v33 h =>
    B.gd h v25 true (fun K => B.pv (V.bin .eql v33 (.int .i64 0)) fun v => K v h) fun v34 h =>
    B.pick v25 v34 (.bool false) fun v35 =>
    tell_Right.k5 C N Q v35 c1 h))))))
/-- storeman/tell.Right -/
@[simp] def tell_Right.cps (C : CSem) (N : Nat → Nat) (v0 : AVal) (h : AHeap) (Q : AVal → AHeap → Prop) : Prop :=
  B.pv (A.boxN 7 v0) fun c1 =>
    tell_Right.k6 C N Q c1 h
def tell_Right.Imp (C : CSem) (N : Nat → Nat) : Prop := ∀ (v0 : AVal) (h : AHeap) (Q : AVal → AHeap → Prop), tell_Right.cps C N v0 h (dn Q) → C (N 29) [v0] h Q
@[simp] def tell_Get.k1 (C : CSem) (N : Nat → Nat) (Q : AVal → AHeap → Prop) (v2 v5 c6 : AVal) (h : AHeap) : Prop :=
  B.nilCheck v5 fun v41 =>
    B.pv (V.fieldAddr 2 v41) fun v42 =>
    B.ld h v42 fun v43 =>
    B.gd h v43 false (fun K => B.pv (V.fieldN 0 7 c6) fun v => K v h) fun v45 h =>
    B.gd h v43 false (fun K => B.call C (N 29) [v45] h K) fun v46 h =>
    B.gd h v43 false (fun K => B.pv (V.un .not v46) fun v => K v h) fun v47 h =>
    B.pick v43 (.bool true) v47 fun v48 =>
    B.cond v48
    (B.pv (A.bld [] [.int .i64 0, .int .i64 0, .int .i64 0, .str [], .int .u8 0, .nils, .nils]) fun v49 =>
    B.stn h v2 7 v49 fun h =>
    B.pv (oneOf (joinV (A.ldnv h v2 7) (joinV (some (.int .i64 0)) (joinV (some (.int .i64 4)) (some []))))) fun v => Q v h)
    (B.pv (V.fieldN 0 7 c6) fun v50 =>
    B.nilCheck v5 fun v52 =>
    B.pv (V.fieldAddr 1 v52) fun v53 =>
    B.ld h v53 fun v54 =>
    (fun K => B.stn h v2 7 v50 fun h => K .undef h) (B.keepS h [(v53, none)] (fun _ h => B.pv (oneOf (joinV (A.ldnv h v2 7) (joinV (some v54) (joinV (some (.int .i64 0)) (some []))))) fun v => Q v h)))
@[simp] def tell_Get.k2 (C : CSem) (N : Nat → Nat) (Q : AVal → AHeap → Prop) (v2 v5 c6 : AVal) (h : AHeap) : Prop :=
  B.al c6 (B.pv (V.field1 0 c6) fun v14 =>
    B.pv (V.bin .eql v14 (.int .i64 0)) fun v15 =>
    B.cond v15
    (B.call C (N 65) [v5, (.int .i64 8)] h fun v17 h =>
    B.al c6 (B.pv (V.setF 1 v17 c6) fun c6 =>
    B.call C (N 65) [v5, (.int .i64 2)] h fun v20 h =>
    B.pv (V.bin .sub v20 (.int .i64 1)) fun v21 =>
    B.al c6 (B.pv (V.setF 2 v21 c6) fun c6 =>
    B.call C (N 66) [v5] h fun v24 h =>
    B.al c6 (B.pv (V.setF 3 v24 c6) fun c6 =>
    B.call C (N 65) [v5, (.int .i64 1)] h fun v27 h =>
    B.pv (V.toInt .u8 v27) fun v28 =>
    B.al c6 (B.pv (V.setF 4 v28 c6) fun c6 =>
    B.call C (N 68) [v5, (.fn (N 67) [v5] [])] h fun v33 h =>
    B.al c6 (B.pv (V.setF 5 v33 c6) fun c6 =>
    B.call C (N 70) [v5, (.fn (N 69) [v5] [])] h fun v38 h =>
    B.al c6 (B.pv (V.setF 6 v38 c6) fun c6 =>
    tell_Get.k1 C N Q v2 v5 c6 h)))))))
    (tell_Get.k1 C N Q v2 v5 c6 h))
@[simp] def tell_Get.k3 (C : CSem) (N : Nat → Nat) (Q : AVal → AHeap → Prop) (v2 v5 : AVal) (h : AHeap) : Prop :=
  B.call C (N 65) [v5, (.int .i64 2)] h fun v11 h =>
    B.pv (A.bld [(0, none, v11)] [.int .i64 0, .int .i64 0, .int .i64 0, .str [], .int .u8 0, .nils, .nils]) fun v12 =>
    B.pv (V.setN 0 7 v12 (.agg [.int .i64 0, .int .i64 0, .int .i64 0, .str [], .int .u8 0, .nils, .nils])) fun c6 =>
    tell_Get.k2 C N Q v2 v5 c6 h
@[simp] def tell_Get.k4 (C : CSem) (N : Nat → Nat) (Q : AVal → AHeap → Prop) (v0 : AVal) (h : AHeap) : Prop :=
  B.newO h (some [.int .i64 0, .int .i64 0, .int .i64 0, .str [], .int .u8 0, .nils, .nils]) fun i2 h =>
    B.pv (A.bld [(0, none, v0)] [.nils, .int .i64 0, .bool false]) fun v8 =>
    B.newO h (A.cellsN 3 v8) fun i9 h =>
    tell_Get.k3 C N Q (.ptr i2 0 0) (.ptr i9 0 0) h
/-- storeman/tell.Get -/
@[simp] def tell_Get.cps (C : CSem) (N : Nat → Nat) (v0 : AVal) (h : AHeap) (Q : AVal → AHeap → Prop) : Prop :=
  tell_Get.k4 C N Q v0 h
def tell_Get.Imp (C : CSem) (N : Nat → Nat) : Prop := ∀ (v0 : AVal) (h : AHeap) (Q : AVal → AHeap → Prop), tell_Get.cps C N v0 h (dn Q) → C (N 38) [v0] h Q
@[simp] def tell_put.k1 (C : CSem) (N : Nat → Nat) (Q : AVal → AHeap → Prop) (Y1 : List AVal → AHeap → Prop) (v0 v1 v7 : AVal) (h : AHeap) : Prop :=
  B.pv (V.bin .geq v7 (.int .i64 0)) fun v11 =>
    B.cond v11
    (B.pv (V.bin .mul (.int .i64 8) v7) fun v17 =>
    B.pv (V.bin .shr v1 v17) fun v18 =>
    B.pv (V.toInt .u8 v18) fun v19 =>
    B.newO h (fillL [(0, none, v19)] (repL 1 [.int .u8 0])) fun i20 h =>
    B.appW h 1 1 v0 (.sl i20 0 0 1 1 1) fun v21 h =>
    B.pv (V.bin .sub v7 (.int .i64 1)) fun v13 =>
    Y1 [v21, v13] h)
    (Q v0 h)
@[simp] def tell_put.l2 (C : CSem) (N : Nat → Nat) (Q : AVal → AHeap → Prop) (v1 : AVal) : List AVal → AHeap → (List AVal → AHeap → Prop) → Prop
  | [v0, v7], h, Y1 => tell_put.k1 C N Q Y1 v0 v1 v7 h
  | _, _, _ => False
/-- storeman/tell.put -/
@[simp] def tell_put.cps (C : CSem) (N : Nat → Nat) (v0 v1 v2 : AVal) (h : AHeap) (Q : AVal → AHeap → Prop) : Prop :=
  B.pv (V.bin .sub v2 (.int .i64 1)) fun v9 =>
    LoopR (tell_put.l2 C N Q v1) [v0, v9] h
def tell_put.Imp (C : CSem) (N : Nat → Nat) : Prop := ∀ (v0 v1 v2 : AVal) (h : AHeap) (Q : AVal → AHeap → Prop), tell_put.cps C N v0 v1 v2 h (dn Q) → C (N 50) [v0, v1, v2] h Q
@[simp] def tell_reader_number.k1 (C : CSem) (N : Nat → Nat) (Q : AVal → AHeap → Prop) (v0 v1 v5 : AVal) (h : AHeap) : Prop :=
  B.nilCheck v0 fun v60 =>
    B.pv (V.fieldAddr 1 v60) fun v61 =>
    B.ld h v61 fun v62 =>
    B.pv (V.bin .add v62 v1) fun v64 =>
    B.nilCheck v0 fun v65 =>
    B.pv (V.fieldAddr 1 v65) fun v66 =>
    B.st h v66 v64 fun h =>
    Q v5 h
@[simp] def tell_reader_number.k2 (C : CSem) (N : Nat → Nat) (Q : AVal → AHeap → Prop) (Y1 : List AVal → AHeap → Prop) (v0 v1 v5 v47 v48 v49 : AVal) (h : AHeap) : Prop :=
  B.pv (V.bin .lss v49 v48) fun v50 =>
    B.cond v50
    (B.pv (V.idxS 1 v47 v49) fun v51 =>
    B.ld h v51 fun v52 =>
    B.pv (V.bin .shl v5 (.int .u64 8)) fun v54 =>
    B.pv (V.toInt .i64 v52) fun v56 =>
    B.pv (V.bin .or v54 v56) fun v57 =>
    B.pv (V.bin .add v49 (.int .i64 1)) fun v58 =>
    Y1 [v57, v58] h)
    (tell_reader_number.k1 C N Q v0 v1 v5 h)
@[simp] def tell_reader_number.l3 (C : CSem) (N : Nat → Nat) (Q : AVal → AHeap → Prop) (v0 v1 v47 v48 : AVal) : List AVal → AHeap → (List AVal → AHeap → Prop) → Prop
  | [v5, v49], h, Y1 => tell_reader_number.k2 C N Q Y1 v0 v1 v5 v47 v48 v49 h
  | _, _, _ => False
@[simp] def tell_reader_number.k4 (C : CSem) (N : Nat → Nat) (Q : AVal → AHeap → Prop) (v0 v1 v5 : AVal) (h : AHeap) : Prop :=
  B.nilCheck v0 fun v34 =>
    B.pv (V.fieldAddr 0 v34) fun v35 =>
    B.ld h v35 fun v36 =>
    B.nilCheck v0 fun v38 =>
    B.pv (V.fieldAddr 1 v38) fun v39 =>
    B.ld h v39 fun v40 =>
    B.nilCheck v0 fun v42 =>
    B.pv (V.fieldAddr 1 v42) fun v43 =>
    B.ld h v43 fun v44 =>
    B.pv (V.bin .add v44 v1) fun v46 =>
    B.pv (V.cutSl 1 v36 (some v40) (some v46)) fun v47 =>
    B.pv (V.lenSl v47) fun v48 =>
    LoopR (tell_reader_number.l3 C N Q v0 v1 v47 v48) [v5, (.int .i64 0)] h
@[simp] def tell_reader_number.k5 (C : CSem) (N : Nat → Nat) (Q : AVal → AHeap → Prop) (v0 v1 : AVal) (h : AHeap) : Prop :=
  B.nilCheck v0 fun v10 =>
    B.pv (V.fieldAddr 2 v10) fun v11 =>
    B.ld h v11 fun v12 =>
    B.gd h v12 false (fun K => K v1 h) fun v14 h =>
    B.gd h v12 false (fun K => K v0 h) fun v15 h =>
    B.gd h v12 false (fun K => B.nilCheck v15 fun v => K v h) fun v16 h =>
    B.gd h v12 false (fun K => B.pv (V.fieldAddr 0 v16) fun v => K v h) fun v17 h =>
    B.gd h v12 false (fun K => B.ld h v17 fun v => K v h) fun v18 h =>
    B.gd h v12 false (fun K => B.pv (V.lenSl v18) fun v => K v h) fun v19 h =>
    B.gd h v12 false (fun K => K v0 h) fun v20 h =>
    B.gd h v12 false (fun K => B.nilCheck v20 fun v => K v h) fun v21 h =>
    B.gd h v12 false (fun K => B.pv (V.fieldAddr 1 v21) fun v => K v h) fun v22 h =>
    B.gd h v12 false (fun K => B.ld h v22 fun v => K v h) fun v23 h =>
    B.gd h v12 false (fun K => B.pv (V.bin .sub v19 v23) fun v => K v h) fun v24 h =>
    B.gd h v12 false (fun K => B.pv (V.bin .gtr v14 v24) fun v => K v h) fun v25 h =>
    B.pick v12 (.bool true) v25 fun v26 =>
    B.nilCheck v0 fun v27 =>
    B.pv (V.fieldAddr 2 v27) fun v28 =>
    B.st h v28 v26 fun h =>
    B.nilCheck v0 fun v30 =>
    B.pv (V.fieldAddr 2 v30) fun v31 =>
    B.ld h v31 fun v32 =>
    B.cond v32
    (Q (.int .i64 0) h)
    (tell_reader_number.k4 C N Q v0 v1 (.int .i64 0) h)
/-- (ptr storeman/tell.reader).number -/
@[simp] def tell_reader_number.cps (C : CSem) (N : Nat → Nat) (v0 v1 : AVal) (h : AHeap) (Q : AVal → AHeap → Prop) : Prop :=
  tell_reader_number.k5 C N Q v0 v1 h
def tell_reader_number.Imp (C : CSem) (N : Nat → Nat) : Prop := ∀ (v0 v1 : AVal) (h : AHeap) (Q : AVal → AHeap → Prop), tell_reader_number.cps C N v0 v1 h (dn Q) → C (N 65) [v0, v1] h Q
@[simp] def tell_reader_code.k1 (C : CSem) (N : Nat → Nat) (Q : AVal → AHeap → Prop) (v0 : AVal) (h : AHeap) : Prop :=
  B.nilCheck v0 fun v7 =>
    B.pv (V.fieldAddr 2 v7) fun v8 =>
    B.ld h v8 fun v9 =>
    B.cond v9
    (Q (.str []) h)
    (B.nilCheck v0 fun v12 =>
    B.pv (V.fieldAddr 0 v12) fun v13 =>
    B.ld h v13 fun v14 =>
    B.nilCheck v0 fun v16 =>
    B.pv (V.fieldAddr 1 v16) fun v17 =>
    B.ld h v17 fun v18 =>
    B.pv (V.cutSl 1 v14 (some v18) none) fun v19 =>
    B.call C (N 103) [v19] h fun v20 h =>
    B.pv (V.ext 0 v20) fun v21 =>
    B.pv (V.ext 1 v20) fun v22 =>
    B.pv (V.ext 2 v20) fun v23 =>
    B.pv (V.un .not v23) fun v26 =>
    B.nilCheck v0 fun v27 =>
    B.pv (V.fieldAddr 2 v27) fun v28 =>
    B.st h v28 v26 fun h =>
    B.nilCheck v0 fun v30 =>
    B.pv (V.fieldAddr 1 v30) fun v31 =>
    B.ld h v31 fun v32 =>
    B.pv (V.bin .add v32 v22) fun v34 =>
    B.nilCheck v0 fun v35 =>
    B.pv (V.fieldAddr 1 v35) fun v36 =>
    B.st h v36 v34 fun h =>
    Q v21 h)
/-- (ptr storeman/tell.reader).code -/
@[simp] def tell_reader_code.cps (C : CSem) (N : Nat → Nat) (v0 : AVal) (h : AHeap) (Q : AVal → AHeap → Prop) : Prop :=
  tell_reader_code.k1 C N Q v0 h
def tell_reader_code.Imp (C : CSem) (N : Nat → Nat) : Prop := ∀ (v0 : AVal) (h : AHeap) (Q : AVal → AHeap → Prop), tell_reader_code.cps C N v0 h (dn Q) → C (N 66) [v0] h Q
@[simp] def tell_reader_lot.k1 (C : CSem) (N : Nat → Nat) (Q : AVal → AHeap → Prop) (v0 : AVal) (h : AHeap) : Prop :=
  B.call C (N 65) [v0, (.int .i64 8)] h fun v6 h =>
    B.call C (N 66) [v0] h fun v8 h =>
    B.pv (A.bld [(0, none, v6), (1, none, v8)] [.int .i64 0, .str [], .int .i64 0, .int .i64 0, .int .i64 0, .bool false]) fun v9 =>
    B.pv (V.setN 0 6 v9 (.agg [.int .i64 0, .str [], .int .i64 0, .int .i64 0, .int .i64 0, .bool false])) fun c3 =>
    B.call C (N 65) [v0, (.int .i64 2)] h fun v11 h =>
    B.call C (N 65) [v0, (.int .i64 2)] h fun v13 h =>
    B.al c3 (B.al c3 (B.pv (V.setF 2 v11 c3) fun c3 =>
    B.al c3 (B.al c3 (B.pv (V.setF 3 v13 c3) fun c3 =>
    B.call C (N 65) [v0, (.int .i64 8)] h fun v19 h =>
    B.al c3 (B.pv (V.setF 4 v19 c3) fun c3 =>
    B.call C (N 65) [v0, (.int .i64 1)] h fun v22 h =>
    B.pv (V.bin .eql v22 (.int .i64 1)) fun v24 =>
    B.al c3 (B.pv (V.setF 5 v24 c3) fun c3 =>
    B.nilCheck v0 fun v28 =>
    B.pv (V.fieldAddr 2 v28) fun v29 =>
    B.ld h v29 fun v30 =>
    B.gd h v30 false (fun K => K v22 h) fun v32 h =>
    B.gd h v30 false (fun K => B.pv (V.bin .gtr v32 (.int .i64 1)) fun v => K v h) fun v33 h =>
    B.pick v30 (.bool true) v33 fun v34 =>
    B.nilCheck v0 fun v35 =>
    B.pv (V.fieldAddr 2 v35) fun v36 =>
    B.st h v36 v34 fun h =>
    B.pv (V.fieldN 0 6 c3) fun v37 =>
    B.pv (V.setN 0 6 v37 (.agg [.int .i64 0, .str [], .int .i64 0, .int .i64 0, .int .i64 0, .bool false])) fun c2 =>
    B.pv (oneOf (joinV (V.fieldN 0 6 c2) (some []))) fun v => Q v h))))))
/-- (ptr storeman/tell.reader).lot -/
@[simp] def tell_reader_lot.cps (C : CSem) (N : Nat → Nat) (v0 : AVal) (h : AHeap) (Q : AVal → AHeap → Prop) : Prop :=
  tell_reader_lot.k1 C N Q v0 h
def tell_reader_lot.Imp (C : CSem) (N : Nat → Nat) : Prop := ∀ (v0 : AVal) (h : AHeap) (Q : AVal → AHeap → Prop), tell_reader_lot.cps C N v0 h (dn Q) → C (N 67) [v0] h Q
@[simp] def tell_list_api_Lot.k1 (C : CSem) (N : Nat → Nat) (Q : AVal → AHeap → Prop) (Y1 : List AVal → AHeap → Prop) (v0 v1 v5 v6 : AVal) (h : AHeap) : Prop :=
  B.pv (V.bin .gtr v6 (.int .i64 0)) fun v10 =>
    B.gd h v10 true (fun K => K v0 h) fun v12 h =>
    B.gd h v10 true (fun K => B.nilCheck v12 fun v => K v h) fun v13 h =>
    B.gd h v10 true (fun K => B.pv (V.fieldAddr 2 v13) fun v => K v h) fun v14 h =>
    B.gd h v10 true (fun K => B.ld h v14 fun v => K v h) fun v15 h =>
    B.gd h v10 true (fun K => B.pv (V.un .not v15) fun v => K v h) fun v16 h =>
    B.pick v10 v16 (.bool false) fun v17 =>
    B.cond v17
    (B.callv h C v1 [] fun v22 h =>
    B.newO h (fillL [(0, some 6, v22)] (repL 1 [.int .i64 0, .str [], .int .i64 0, .int .i64 0, .int .i64 0, .bool false])) fun i23 h =>
    B.appW h 6 56 v5 (.sl i23 0 0 1 6 1) fun v24 h =>
    B.pv (V.bin .sub v6 (.int .i64 1)) fun v19 =>
    Y1 [v24, v19] h)
    (Q v5 h)
@[simp] def tell_list_api_Lot.l2 (C : CSem) (N : Nat → Nat) (Q : AVal → AHeap → Prop) (v0 v1 : AVal) : List AVal → AHeap → (List AVal → AHeap → Prop) → Prop
  | [v5, v6], h, Y1 => tell_list_api_Lot.k1 C N Q Y1 v0 v1 v5 v6 h
  | _, _, _ => False
/-- storeman/tell.list[storeman/api.Lot] -/
@[simp] def tell_list_api_Lot.cps (C : CSem) (N : Nat → Nat) (v0 v1 : AVal) (h : AHeap) (Q : AVal → AHeap → Prop) : Prop :=
  B.call C (N 65) [v0, (.int .i64 2)] h fun v8 h =>
    LoopR (tell_list_api_Lot.l2 C N Q v0 v1) [.nils, v8] h
def tell_list_api_Lot.Imp (C : CSem) (N : Nat → Nat) : Prop := ∀ (v0 v1 : AVal) (h : AHeap) (Q : AVal → AHeap → Prop), tell_list_api_Lot.cps C N v0 v1 h (dn Q) → C (N 68) [v0, v1] h Q
@[simp] def tell_reader_use.k1 (C : CSem) (N : Nat → Nat) (Q : AVal → AHeap → Prop) (v0 : AVal) (h : AHeap) : Prop :=
  B.call C (N 65) [v0, (.int .i64 8)] h fun v4 h =>
    B.call C (N 65) [v0, (.int .i64 8)] h fun v6 h =>
    B.call C (N 65) [v0, (.int .i64 8)] h fun v8 h =>
    B.pv (A.bld [(0, none, v4), (1, none, v6), (2, none, v8)] [.int .i64 0, .int .i64 0, .int .i64 0]) fun v9 =>
    B.pv (V.setN 0 3 v9 (.agg [.int .i64 0, .int .i64 0, .int .i64 0])) fun c2 =>
    B.pv (oneOf (joinV (V.fieldN 0 3 c2) (some []))) fun v => Q v h
/-- (ptr storeman/tell.reader).use -/
@[simp] def tell_reader_use.cps (C : CSem) (N : Nat → Nat) (v0 : AVal) (h : AHeap) (Q : AVal → AHeap → Prop) : Prop :=
  tell_reader_use.k1 C N Q v0 h
def tell_reader_use.Imp (C : CSem) (N : Nat → Nat) : Prop := ∀ (v0 : AVal) (h : AHeap) (Q : AVal → AHeap → Prop), tell_reader_use.cps C N v0 h (dn Q) → C (N 69) [v0] h Q
@[simp] def tell_list_api_Use.k1 (C : CSem) (N : Nat → Nat) (Q : AVal → AHeap → Prop) (Y1 : List AVal → AHeap → Prop) (v0 v1 v5 v6 : AVal) (h : AHeap) : Prop :=
  B.pv (V.bin .gtr v6 (.int .i64 0)) fun v10 =>
    B.gd h v10 true (fun K => K v0 h) fun v12 h =>
    B.gd h v10 true (fun K => B.nilCheck v12 fun v => K v h) fun v13 h =>
    B.gd h v10 true (fun K => B.pv (V.fieldAddr 2 v13) fun v => K v h) fun v14 h =>
    B.gd h v10 true (fun K => B.ld h v14 fun v => K v h) fun v15 h =>
    B.gd h v10 true (fun K => B.pv (V.un .not v15) fun v => K v h) fun v16 h =>
    B.pick v10 v16 (.bool false) fun v17 =>
    B.cond v17
    (B.callv h C v1 [] fun v22 h =>
    B.newO h (fillL [(0, some 3, v22)] (repL 1 [.int .i64 0, .int .i64 0, .int .i64 0])) fun i23 h =>
    B.appW h 3 24 v5 (.sl i23 0 0 1 3 1) fun v24 h =>
    B.pv (V.bin .sub v6 (.int .i64 1)) fun v19 =>
    Y1 [v24, v19] h)
    (Q v5 h)
@[simp] def tell_list_api_Use.l2 (C : CSem) (N : Nat → Nat) (Q : AVal → AHeap → Prop) (v0 v1 : AVal) : List AVal → AHeap → (List AVal → AHeap → Prop) → Prop
  | [v5, v6], h, Y1 => tell_list_api_Use.k1 C N Q Y1 v0 v1 v5 v6 h
  | _, _, _ => False
/-- storeman/tell.list[storeman/api.Use] -/
@[simp] def tell_list_api_Use.cps (C : CSem) (N : Nat → Nat) (v0 v1 : AVal) (h : AHeap) (Q : AVal → AHeap → Prop) : Prop :=
  B.call C (N 65) [v0, (.int .i64 2)] h fun v8 h =>
    LoopR (tell_list_api_Use.l2 C N Q v0 v1) [.nils, v8] h
def tell_list_api_Use.Imp (C : CSem) (N : Nat → Nat) : Prop := ∀ (v0 v1 : AVal) (h : AHeap) (Q : AVal → AHeap → Prop), tell_list_api_Use.cps C N v0 v1 h (dn Q) → C (N 70) [v0, v1] h Q
end Go.Ab

/- What is told: residuals: what each function does in the abstract memory, printed by a program of mine. Definitions alone. -/
set_option linter.unusedVariables false
namespace Go.Ab
@[simp] def window_Meet.k1 (C : CSem) (N : Nat → Nat) (Q : AVal → AHeap → Prop) (v0 v1 : AVal) (h : AHeap) : Prop :=
  B.pv (A.boxN 2 v0) fun c2 =>
    B.pv (A.boxN 2 v1) fun c3 =>
    B.pv (V.fieldN 0 2 c2) fun v6 =>
    B.call C (N 5) [v6] h fun v7 h =>
    B.pv (V.un .not v7) fun v8 =>
    B.gd h v8 false (fun K => B.pv (V.fieldN 0 2 c3) fun v => K v h) fun v10 h =>
    B.gd h v8 false (fun K => B.call C (N 5) [v10] h K) fun v11 h =>
    B.gd h v8 false (fun K => B.pv (V.un .not v11) fun v => K v h) fun v12 h =>
    B.pick v8 (.bool true) v12 fun v13 =>
    B.cond v13
    (B.pv (A.bld [] [.int .i64 0, .int .i64 0]) fun v14 =>
    B.pv (V.setN 0 2 v14 (.agg [.int .i64 0, .int .i64 0])) fun c4 =>
    B.pv (oneOf (joinV (V.fieldN 0 2 c4) (joinV (some (.bool false)) (some [])))) fun v => Q v h)
    (B.al c2 (B.pv (V.field1 0 c2) fun v16 =>
    B.al c3 (B.pv (V.field1 0 c3) fun v18 =>
    B.pv (V.max2 v16 v18) fun v19 =>
    B.al c2 (B.pv (V.field1 1 c2) fun v21 =>
    B.al c3 (B.pv (V.field1 1 c3) fun v23 =>
    B.pv (V.min2 v21 v23) fun v24 =>
    B.call C (N 16) [v19, v24] h fun v25 h =>
    B.pv (V.ext 0 v25) fun v26 =>
    B.pv (V.ext 1 v25) fun v27 =>
    B.pv (V.setN 0 2 v26 (.agg [.int .i64 0, .int .i64 0])) fun c4 =>
    B.pv (oneOf (joinV (V.fieldN 0 2 c4) (joinV (some v27) (some [])))) fun v => Q v h)))))
/-- storeman/window.Meet -/
@[simp] def window_Meet.cps (C : CSem) (N : Nat → Nat) (v0 v1 : AVal) (h : AHeap) (Q : AVal → AHeap → Prop) : Prop :=
  window_Meet.k1 C N Q v0 v1 h
def window_Meet.Imp (C : CSem) (N : Nat → Nat) : Prop := ∀ (v0 v1 : AVal) (h : AHeap) (Q : AVal → AHeap → Prop), window_Meet.cps C N v0 v1 h (dn Q) → C (N 1) [v0, v1] h Q
@[simp] def window_From.k1 (C : CSem) (N : Nat → Nat) (Q : AVal → AHeap → Prop) (v0 v1 : AVal) (h : AHeap) : Prop :=
  B.pv (A.boxN 2 v0) fun c2 =>
    B.pv (V.fieldN 0 2 c2) fun v6 =>
    B.call C (N 5) [v6] h fun v7 h =>
    B.pv (V.un .not v7) fun v8 =>
    B.cond v8
    (B.pv (A.bld [] [.int .i64 0, .int .i64 0]) fun v9 =>
    B.pv (V.setN 0 2 v9 (.agg [.int .i64 0, .int .i64 0])) fun c4 =>
    B.pv (oneOf (joinV (V.fieldN 0 2 c4) (joinV (some (.bool false)) (some [])))) fun v => Q v h)
    (B.al c2 (B.pv (V.field1 0 c2) fun v11 =>
    B.pv (V.max2 v11 v1) fun v13 =>
    B.al c2 (B.pv (V.field1 1 c2) fun v15 =>
    B.call C (N 16) [v13, v15] h fun v16 h =>
    B.pv (V.ext 0 v16) fun v17 =>
    B.pv (V.ext 1 v16) fun v18 =>
    B.pv (V.setN 0 2 v17 (.agg [.int .i64 0, .int .i64 0])) fun c4 =>
    B.pv (oneOf (joinV (V.fieldN 0 2 c4) (joinV (some v18) (some [])))) fun v => Q v h)))
/-- storeman/window.From -/
@[simp] def window_From.cps (C : CSem) (N : Nat → Nat) (v0 v1 : AVal) (h : AHeap) (Q : AVal → AHeap → Prop) : Prop :=
  window_From.k1 C N Q v0 v1 h
def window_From.Imp (C : CSem) (N : Nat → Nat) : Prop := ∀ (v0 v1 : AVal) (h : AHeap) (Q : AVal → AHeap → Prop), window_From.cps C N v0 v1 h (dn Q) → C (N 3) [v0, v1] h Q
@[simp] def window_Right.k1 (C : CSem) (N : Nat → Nat) (Q : AVal → AHeap → Prop) (v0 : AVal) (h : AHeap) : Prop :=
  B.pv (A.boxN 2 v0) fun c1 =>
    B.al c1 (B.pv (V.field1 0 c1) fun v4 =>
    B.pv (V.bin .leq (.int .i64 0) v4) fun v5 =>
    B.al c1 (B.gd h v5 true (fun K => K .undef h) fun _ h =>
    B.gd h v5 true (fun K => B.pv (V.field1 0 c1) fun v => K v h) fun v8 h =>
    B.al c1 (B.gd h v5 true (fun K => K .undef h) fun _ h =>
    B.gd h v5 true (fun K => B.pv (V.field1 1 c1) fun v => K v h) fun v10 h =>
    B.gd h v5 true (fun K => B.pv (V.bin .leq v8 v10) fun v => K v h) fun v11 h =>
    B.pick v5 v11 (.bool false) fun v12 =>
    B.al c1 (B.gd h v12 true (fun K => K .undef h) fun _ h =>
    B.gd h v12 true (fun K => B.pv (V.field1 1 c1) fun v => K v h) fun v15 h =>
    B.gd h v12 true (fun K => B.pv (V.bin .leq v15 (.int .i64 4001)) fun v => K v h) fun v16 h =>
    B.pick v12 v16 (.bool false) fun v17 =>
    Q v17 h))))
/-- storeman/window.Right -/
@[simp] def window_Right.cps (C : CSem) (N : Nat → Nat) (v0 : AVal) (h : AHeap) (Q : AVal → AHeap → Prop) : Prop :=
  window_Right.k1 C N Q v0 h
def window_Right.Imp (C : CSem) (N : Nat → Nat) : Prop := ∀ (v0 : AVal) (h : AHeap) (Q : AVal → AHeap → Prop), window_Right.cps C N v0 h (dn Q) → C (N 5) [v0] h Q
@[simp] def window_Has.k1 (C : CSem) (N : Nat → Nat) (Q : AVal → AHeap → Prop) (v0 v1 : AVal) (h : AHeap) : Prop :=
  B.pv (A.boxN 2 v0) fun c2 =>
    B.pv (V.fieldN 0 2 c2) fun v5 =>
    B.call C (N 5) [v5] h fun v6 h =>
    B.al c2 (B.gd h v6 true (fun K => K .undef h) fun _ h =>
    B.gd h v6 true (fun K => B.pv (V.field1 0 c2) fun v => K v h) fun v9 h =>
    B.gd h v6 true (fun K => K v1 h) fun v10 h =>
    B.gd h v6 true (fun K => B.pv (V.bin .leq v9 v10) fun v => K v h) fun v11 h =>
    B.pick v6 v11 (.bool false) fun v12 =>
    B.gd h v12 true (fun K => K v1 h) fun v14 h =>
    B.al c2 (B.gd h v12 true (fun K => K .undef h) fun _ h =>
    B.gd h v12 true (fun K => B.pv (V.field1 1 c2) fun v => K v h) fun v16 h =>
    B.gd h v12 true (fun K => B.pv (V.bin .lss v14 v16) fun v => K v h) fun v17 h =>
    B.pick v12 v17 (.bool false) fun v18 =>
    Q v18 h))
/-- storeman/window.Has -/
@[simp] def window_Has.cps (C : CSem) (N : Nat → Nat) (v0 v1 : AVal) (h : AHeap) (Q : AVal → AHeap → Prop) : Prop :=
  window_Has.k1 C N Q v0 v1 h
def window_Has.Imp (C : CSem) (N : Nat → Nat) : Prop := ∀ (v0 v1 : AVal) (h : AHeap) (Q : AVal → AHeap → Prop), window_Has.cps C N v0 v1 h (dn Q) → C (N 7) [v0, v1] h Q
@[simp] def window_Rows.k1 (C : CSem) (N : Nat → Nat) (Q : AVal → AHeap → Prop) (Y1 : List AVal → AHeap → Prop) (v3 v6 v7 v32 : AVal) (h : AHeap) : Prop :=
  B.pv (V.bin .lss v32 (.int .i64 4002)) fun v33 =>
    B.cond v33
    (B.pv (V.idxA 4002 1 v3 v32) fun v38 =>
    B.ld h v38 fun v39 =>
    B.pv (V.bin .add v7 v39) fun v40 =>
    B.pv (V.bin .eql v7 (.int .i64 0)) fun v43 =>
    B.gd h v43 true (fun K => K v40 h) fun v45 h =>
    B.gd h v43 true (fun K => B.pv (V.bin .gtr v45 (.int .i64 0)) fun v => K v h) fun v46 h =>
    B.pick v43 v46 (.bool false) fun v47 =>
    B.cond v47
    (B.pv (A.bld [(0, none, v32)] [.int .i64 0, .int .i64 0]) fun v50 =>
    B.newO h (fillL [(0, some 2, v50)] (repL 1 [.int .i64 0, .int .i64 0])) fun i51 h =>
    B.appW h 2 16 v6 (.sl i51 0 0 1 2 1) fun v52 h =>
    B.pv (V.bin .add v32 (.int .i64 1)) fun v67 =>
    Y1 [v52, v40, v67] h)
    (B.pv (V.bin .gtr v7 (.int .i64 0)) fun v55 =>
    B.gd h v55 true (fun K => K v40 h) fun v57 h =>
    B.gd h v55 true (fun K => B.pv (V.bin .eql v57 (.int .i64 0)) fun v => K v h) fun v58 h =>
    B.pick v55 v58 (.bool false) fun v59 =>
    B.cond v59
    (B.pv (V.lenSl v6) fun v62 =>
    B.pv (V.bin .sub v62 (.int .i64 1)) fun v63 =>
    B.pv (V.idxS 2 v6 v63) fun v65 =>
    B.pv (V.fieldAddr 1 v65) fun v66 =>
    B.st h v66 v32 fun h =>
    B.pv (V.bin .add v32 (.int .i64 1)) fun v67 =>
    Y1 [v6, v40, v67] h)
    (B.pv (V.bin .add v32 (.int .i64 1)) fun v67 =>
    Y1 [v6, v40, v67] h)))
    (Q v6 h)
@[simp] def window_Rows.l2 (C : CSem) (N : Nat → Nat) (Q : AVal → AHeap → Prop) (v3 : AVal) : List AVal → AHeap → (List AVal → AHeap → Prop) → Prop
  | [v6, v7, v32], h, Y1 => window_Rows.k1 C N Q Y1 v3 v6 v7 v32 h
  | _, _, _ => False
@[simp] def window_Rows.k3 (C : CSem) (N : Nat → Nat) (Q : AVal → AHeap → Prop) (Y2 : List AVal → AHeap → Prop) (v3 v10 v11 v12 : AVal) (h : AHeap) : Prop :=
  B.pv (V.bin .lss v12 v11) fun v13 =>
    B.cond v13
    (B.pv (V.idxS 2 v10 v12) fun v14 =>
    B.ldn h v14 2 fun v15 =>
    B.pv (V.setN 0 2 v15 (.agg [.int .i64 0, .int .i64 0])) fun c5 =>
    B.pv (V.fieldN 0 2 c5) fun v16 =>
    B.call C (N 5) [v16] h fun v17 h =>
    B.pv (V.un .not v17) fun v18 =>
    B.cond v18
    (Q .nils h)
    (B.al c5 (B.pv (V.field1 0 c5) fun v20 =>
    B.pv (V.idxA 4002 1 v3 v20) fun v21 =>
    B.ld h v21 fun v22 =>
    B.pv (V.bin .add v22 (.int .i64 1)) fun v23 =>
    B.pv (V.idxA 4002 1 v3 v20) fun v24 =>
    B.st h v24 v23 fun h =>
    B.al c5 (B.pv (V.field1 1 c5) fun v26 =>
    B.pv (V.idxA 4002 1 v3 v26) fun v27 =>
    B.ld h v27 fun v28 =>
    B.pv (V.bin .sub v28 (.int .i64 1)) fun v29 =>
    B.pv (V.idxA 4002 1 v3 v26) fun v30 =>
    B.st h v30 v29 fun h =>
    B.pv (V.bin .add v12 (.int .i64 1)) fun v31 =>
    Y2 [v31] h))))
    (LoopR (window_Rows.l2 C N Q v3) [.nils, (.int .i64 0), (.int .i64 0)] h)
@[simp] def window_Rows.l4 (C : CSem) (N : Nat → Nat) (Q : AVal → AHeap → Prop) (v3 v10 v11 : AVal) : List AVal → AHeap → (List AVal → AHeap → Prop) → Prop
  | [v12], h, Y2 => window_Rows.k3 C N Q Y2 v3 v10 v11 v12 h
  | _, _, _ => False
/-- storeman/window.Rows -/
@[simp] def window_Rows.cps (C : CSem) (N : Nat → Nat) (v0 : AVal) (h : AHeap) (Q : AVal → AHeap → Prop) : Prop :=
  B.newO h (some (zrep 4002 (.int .i64 0))) fun i3 h =>
    B.pv (V.lenSl v0) fun v11 =>
    LoopR (window_Rows.l4 C N Q (.ptr i3 0 0) v0 v11) [(.int .i64 0)] h
def window_Rows.Imp (C : CSem) (N : Nat → Nat) : Prop := ∀ (v0 : AVal) (h : AHeap) (Q : AVal → AHeap → Prop), window_Rows.cps C N v0 h (dn Q) → C (N 10) [v0] h Q
@[simp] def window_Count.k1 (C : CSem) (N : Nat → Nat) (Q : AVal → AHeap → Prop) (Y1 : List AVal → AHeap → Prop) (v3 v7 v8 v9 : AVal) (h : AHeap) : Prop :=
  B.pv (V.bin .lss v9 v8) fun v10 =>
    B.cond v10
    (B.pv (V.idxS 2 v7 v9) fun v11 =>
    B.ldn h v11 2 fun v12 =>
    B.pv (V.setN 0 2 v12 (.agg [.int .i64 0, .int .i64 0])) fun c5 =>
    B.al c5 (B.pv (V.field1 1 c5) fun v15 =>
    B.al c5 (B.pv (V.field1 0 c5) fun v17 =>
    B.pv (V.bin .sub v15 v17) fun v18 =>
    B.pv (V.bin .add v3 v18) fun v19 =>
    B.pv (V.bin .add v9 (.int .i64 1)) fun v20 =>
    Y1 [v19, v20] h)))
    (Q v3 h)
@[simp] def window_Count.l2 (C : CSem) (N : Nat → Nat) (Q : AVal → AHeap → Prop) (v7 v8 : AVal) : List AVal → AHeap → (List AVal → AHeap → Prop) → Prop
  | [v3, v9], h, Y1 => window_Count.k1 C N Q Y1 v3 v7 v8 v9 h
  | _, _, _ => False
/-- storeman/window.Count -/
@[simp] def window_Count.cps (C : CSem) (N : Nat → Nat) (v0 : AVal) (h : AHeap) (Q : AVal → AHeap → Prop) : Prop :=
  B.call C (N 10) [v0] h fun v7 h =>
    B.pv (V.lenSl v7) fun v8 =>
    LoopR (window_Count.l2 C N Q v7 v8) [(.int .i64 0), (.int .i64 0)] h
def window_Count.Imp (C : CSem) (N : Nat → Nat) : Prop := ∀ (v0 : AVal) (h : AHeap) (Q : AVal → AHeap → Prop), window_Count.cps C N v0 h (dn Q) → C (N 13) [v0] h Q
@[simp] def window_within.k1 (C : CSem) (N : Nat → Nat) (Q : AVal → AHeap → Prop) (v0 v1 : AVal) (h : AHeap) : Prop :=
  B.pv (V.bin .geq v0 v1) fun v8 =>
    B.cond v8
    (B.pv (A.bld [] [.int .i64 0, .int .i64 0]) fun v9 =>
    B.pv (V.setN 0 2 v9 (.agg [.int .i64 0, .int .i64 0])) fun c4 =>
    B.pv (oneOf (joinV (V.fieldN 0 2 c4) (joinV (some (.bool false)) (some [])))) fun v => Q v h)
    (B.pv (A.bld [(0, none, v0), (1, none, v1)] [.int .i64 0, .int .i64 0]) fun v12 =>
    B.pv (V.setN 0 2 v12 (.agg [.int .i64 0, .int .i64 0])) fun c4 =>
    B.pv (oneOf (joinV (V.fieldN 0 2 c4) (joinV (some (.bool true)) (some [])))) fun v => Q v h)
/-- storeman/window.within -/
@[simp] def window_within.cps (C : CSem) (N : Nat → Nat) (v0 v1 : AVal) (h : AHeap) (Q : AVal → AHeap → Prop) : Prop :=
  window_within.k1 C N Q v0 v1 h
def window_within.Imp (C : CSem) (N : Nat → Nat) : Prop := ∀ (v0 v1 : AVal) (h : AHeap) (Q : AVal → AHeap → Prop), window_within.cps C N v0 v1 h (dn Q) → C (N 16) [v0, v1] h Q
end Go.Ab
