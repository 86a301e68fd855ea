/- What is proved: a part of the way to the statement; each part is headed by what it proves. No conditions. -/
import Derived.Test.YtnlgkpcffblojaaQ6
import Derived.Test.YtnlgkpcffblojaaQ3
import Derived.Test.YtnlgkpcffblojaaQ7

/- What is proved: contracts of codes' functions, the program's and the document's. No conditions. -/
set_option linter.unusedVariables false
set_option linter.unusedSimpArgs false
namespace Go.Ab
variable {C : CSem} {N : Nat → Nat}

/-! Bytes. -/
theorem nextStr_at {h : AHeap} {id : Nat} {b : Blk} {s : List UInt8} {pos : Nat} {K : AVal → AHeap → Prop} (hb : h id = some b) (ho : b.obj = some (.iter s pos)) :
    (B.nextStr h (.ptr id 0 0) K : Prop) = if pos < s.length then K (.tup [.bool true, .int .i64 pos, .int .i32 (A.rune s pos).1]) (upd h id { b with obj := some (.iter s (pos + (A.rune s pos).2)) }) else K (.tup [.bool false]) h := by
  simp only [B.nextStr, A.nextStr, hb, ho]
theorem get_bang {s : List UInt8} {pos : Nat} {b : UInt8} (hb : s[pos]? = some b) : ((⟨s.toArray⟩ : ByteArray).get! pos) = b := by
  simp [ByteArray.get!, hb]
theorem rune_ascii {s : List UInt8} {pos : Nat} {b : UInt8} (hb : s[pos]? = some b) (h : b.toNat < 128) : A.rune s pos = (b.toNat, 1) := by
  unfold A.rune Utf8.decode
  simp only [Nat.add_zero, get_bang hb]
  rw [if_pos h]
theorem rune_high {s : List UInt8} {pos : Nat} {b : UInt8} (hb : s[pos]? = some b) (h : 128 ≤ b.toNat) : 128 ≤ (A.rune s pos).1 := by
  unfold A.rune Utf8.decode
  simp only [Nat.add_zero, get_bang hb]
  rw [if_neg (by omega)]
  split
  · split <;> simp_all [Utf8.runeError]
  · split
    · split <;> simp_all [Utf8.runeError]; omega
    · split
      · split <;> simp_all [Utf8.runeError]; omega
      · simp [Utf8.runeError]

/-! Codes. -/
def codeCh (i : Nat) (b : UInt8) : Bool := (decide (65 ≤ b.toNat) && decide (b.toNat ≤ 90)) || (decide (0 < i) && ((decide (48 ≤ b.toNat) && decide (b.toNat ≤ 57)) || decide (b.toNat = 45)))
def codeTo (s : List UInt8) : Nat → Bool
  | 0 => true
  | n + 1 => codeTo s n && codeCh n (s.getD n 0)
def codeRight (s : List UInt8) : Bool := !s.isEmpty && decide (s.length ≤ 12) && codeTo s s.length
theorem codeTo_bad {s : List UInt8} {k : Nat} (h : codeTo s k = true) {b : UInt8} (hb : s[k]? = some b) (hc : codeCh k b = false) : ∀ n, k < n → codeTo s n = false
  | 0, h => by omega
  | n + 1, hn => by
    by_cases e : n = k
    · subst e; simp [codeTo, List.getD, hb, hc]
    · rw [codeTo, codeTo_bad h hb hc n (by omega)]; rfl
theorem codeTo_step {s : List UInt8} {k : Nat} (h : codeTo s k = true) {b : UInt8} (hb : s[k]? = some b) (hc : codeCh k b = true) : codeTo s (k + 1) = true := by
  simp [codeTo, List.getD, hb, hc, h]
theorem codeRight_bad {s : List UInt8} {k : Nat} (h : codeTo s k = true) {b : UInt8} (hb : s[k]? = some b) (hc : codeCh k b = false) : codeRight s = false := by
  have := codeTo_bad h hb hc s.length (List.getElem?_eq_some_iff.1 hb).1
  simp [codeRight, this]

def code_Right.Spec (C : CSem) (N : Nat → Nat) : Prop := ∀ (s : List UInt8) (h : AHeap) (Q : AVal → AHeap → Prop), Q (.bool (codeRight s)) h → C (N 53) [.str s] h Q
def itB (s : List UInt8) (k : Nat) : Blk := { cells := [], gens := [], next := 1, own := true, obj := some (.iter s k) }
theorem code_Right.spec (i : code_Right.Imp C N) : code_Right.Spec C N := by
  intro s h Q hq
  apply i
  simp only [code_Right.cps]
  intro id hid
  refine LoopR.intro (fun n vs hh => ∃ k, k + n = s.length ∧ vs = [] ∧ hh = upd h id (itB s k) ∧ codeTo s k = true) s.length ?_ ⟨0, by simp, rfl, rfl, rfl⟩
  rintro Y n vs hh ⟨k, hn, rfl, rfl, hc⟩ hY
  simp only [code_Right.l3, code_Right.k2]
  rw [nextStr_at (upd_same ..) rfl]
  have hle : h.le (upd h id (itB s k)) := le_upd _ hid
  split
  · rename_i hk
    obtain ⟨b, hb⟩ := get_lt hk
    by_cases hlt : b.toNat < 128
    · rw [rune_ascii hb hlt, upd_upd]
      have next : codeCh k b = true → Y [] (upd h id { cells := (itB s k).cells, gens := (itB s k).gens, next := (itB s k).next, own := (itB s k).own, obj := some (.iter s (k + 1)) }) := fun hcc =>
        hY (n - 1) _ _ (by omega) ⟨k + 1, by omega, rfl, rfl, codeTo_step hc hb hcc⟩
      simp +contextual -dsimp
      refine B.cond_bool (fun h1 => ?_) (fun h1 => ?_)
      · exact next (by simp at h1; simp [codeCh]; omega)
      · simp +contextual -dsimp
        refine B.cond_bool (fun h2 => ?_) (fun h2 => ?_)
        · exact next (by simp at h2; simp [codeCh]; omega)
        · have := codeRight_bad hc hb (by simp at h1 h2; simp [codeCh]; omega)
          rw [this] at hq
          exact dn_le (le_upd _ hid) hq
    · have hr := rune_high hb (by omega)
      have := codeRight_bad hc hb (by simp [codeCh]; omega)
      rw [this] at hq
      simp +contextual -dsimp
      refine B.cond_bool (fun h1 => ?_) (fun h1 => ?_)
      · simp at h1; omega
      · simp +contextual -dsimp
        refine B.cond_bool (fun h2 => ?_) (fun h2 => ?_)
        · simp at h2; omega
        · exact dn_le (le_upd _ hid) hq
  · have hk : k = s.length := by omega
    subst hk
    have : codeRight s = (!decide (s = []) && decide ((s.length : Int) ≤ 12)) := by
      unfold codeRight
      rw [hc, Bool.and_true]
      cases s with
      | nil => rfl
      | cons a r => simp; omega
    rw [this] at hq
    simp +contextual -dsimp
    exact dn_le hle hq

def ref03_Right.Spec (C : CSem) (N : Nat → Nat) : Prop := ∀ (s : List UInt8) (h : AHeap) (Q : AVal → AHeap → Prop), Q (.bool (codeRight s)) h → C (N 61) [.str s] h Q
theorem idxStr_at {s : List UInt8} {k : Nat} {b : UInt8} (hb : s[k]? = some b) : V.idxStr (.str s) (.int .i64 (k : Int)) = some (.int .u8 b.toNat) := by
  simp [V.idxStr, hb]
theorem ref03_Right.spec (i : ref03_Right.Imp C N) : ref03_Right.Spec C N := by
  intro s h Q hq
  apply i
  simp +contextual -dsimp
  refine B.cond_bool (fun h1 => ?_) (fun h1 => ?_)
  · have : codeRight s = false := by
      simp at h1
      cases s with
      | nil => rfl
      | cons a r => simp [codeRight]; simp at h1; omega
    rw [this] at hq
    exact dn_same hq
  · simp at h1
    refine LoopR.intro (fun n vs hh => ∃ k : Nat, k + n = s.length ∧ vs = [.int .i64 k] ∧ hh = h ∧ codeTo s k = true) s.length ?_ ⟨0, by simp, by simp, rfl, rfl⟩
    rintro Y n vs hh ⟨k, hn, rfl, rfl, hc⟩ hY
    simp +contextual -dsimp
    refine B.cond_bool (fun h2 => ?_) (fun h2 => ?_)
    · simp at h2
      obtain ⟨b, hb⟩ := get_lt h2
      simp +contextual -dsimp [idxStr_at hb]
      refine B.cond_bool (fun h3 => ?_) (fun h3 => ?_)
      · have := codeRight_bad hc hb (by simp at h3; simp [codeCh]; omega)
        rw [this] at hq
        exact dn_same hq
      · simp +contextual -dsimp [inc64 (n := k) (by omega)]
        exact hY (n - 1) _ _ (by omega) ⟨k + 1, by omega, by simp, rfl, codeTo_step hc hb (by simp at h3; simp [codeCh]; omega)⟩
    · have hk : k = s.length := by simp at h2; omega
      subst hk
      have : codeRight s = true := by
        unfold codeRight
        rw [hc]
        cases s with
        | nil => simp at h1
        | cons a r => simp; simp at h1; omega
      rw [this] at hq
      exact dn_same hq

/-! Bytes put together. -/
/-- The code that bytes begin with, how many go by, whether there is one. -/
def codeGet : List UInt8 → List UInt8 × Nat × Bool
  | [] => ([], 0, false)
  | c :: r => if r.length < c.toNat ∨ (r.take c.toNat ≠ [] ∧ codeRight (r.take c.toNat) = false) then ([], 0, false) else (r.take c.toNat, 1 + c.toNat, true)
theorem codeGet_cons (c : UInt8) (r : List UInt8) : codeGet (c :: r) = if r.length < c.toNat ∨ (r.take c.toNat ≠ [] ∧ codeRight (r.take c.toNat) = false) then ([], 0, false) else (r.take c.toNat, 1 + c.toNat, true) := rfl
end Go.Ab

/- What is told: residuals: what each function does in the abstract memory, printed by a program of mine. Definitions alone. -/
set_option linter.unusedVariables false
namespace Go.Ab
end Go.Ab

/- What is proved: contracts of windows' functions. No conditions. -/
set_option linter.unusedVariables false
namespace Go.Ab
variable {C : CSem} {N : Nat → Nat}

def Window.right (w : Window) : Bool := decide (0 ≤ w.From) && decide (w.From ≤ w.Until) && decide (w.Until ≤ 4001)

def Window.zero : Window := ⟨0, 0⟩
end Go.Ab

/- What is told: residuals: what each function does in the abstract memory, printed by a program of mine. Definitions alone. -/
set_option linter.unusedVariables false
namespace Go.Ab
end Go.Ab

/- What is told: residuals: what each function does in the abstract memory, printed by a program of mine. Definitions alone. -/
set_option linter.unusedVariables false
namespace Go.Ab
end Go.Ab

/- What is told: residuals: what each function does in the abstract memory, printed by a program of mine. Definitions alone. -/
set_option linter.unusedVariables false
namespace Go.Ab
@[simp] def tell_Get.k1 (C : CSem) (N : Nat → Nat) (Q : AVal → AHeap → Prop) (v2 v5 c6 : AVal) (h : AHeap) : Prop :=
  B.nilCheck v5 fun v41 =>
    B.pv (V.fieldAddr 2 v41) fun v42 =>
    B.ld h v42 fun v43 =>
    B.gd h v43 false (fun K => B.pv (V.fieldN 0 7 c6) fun v => K v h) fun v45 h =>
    B.gd h v43 false (fun K => B.call C (N 29) [v45] h K) fun v46 h =>
    B.gd h v43 false (fun K => B.pv (V.un .not v46) fun v => K v h) fun v47 h =>
    B.pick v43 (.bool true) v47 fun v48 =>
    B.cond v48
    (B.pv (A.bld [] [.int .i64 0, .int .i64 0, .int .i64 0, .str [], .int .u8 0, .nils, .nils]) fun v49 =>
    B.stn h v2 7 v49 fun h =>
    B.pv (oneOf (joinV (A.ldnv h v2 7) (joinV (some (.int .i64 0)) (joinV (some (.int .i64 4)) (some []))))) fun v => Q v h)
    (B.pv (V.fieldN 0 7 c6) fun v50 =>
    B.nilCheck v5 fun v52 =>
    B.pv (V.fieldAddr 1 v52) fun v53 =>
    B.ld h v53 fun v54 =>
    (fun K => B.stn h v2 7 v50 fun h => K .undef h) (B.keepS h [(v53, none)] (fun _ h => B.pv (oneOf (joinV (A.ldnv h v2 7) (joinV (some v54) (joinV (some (.int .i64 0)) (some []))))) fun v => Q v h)))
end Go.Ab

/- What is told: residuals: what each function does in the abstract memory, printed by a program of mine. Definitions alone. -/
set_option linter.unusedVariables false
namespace Go.Ab
@[simp] def ref14_Get.k1 (C : CSem) (N : Nat → Nat) (Q : AVal → AHeap → Prop) (v2 v5 c6 : AVal) (h : AHeap) : Prop :=
  B.nilCheck v5 fun v82 =>
    B.pv (V.fieldAddr 2 v82) fun v83 =>
    B.ld h v83 fun v84 =>
    B.gd h v84 false (fun K => B.pv (V.fieldN 0 7 c6) fun v => K v h) fun v86 h =>
    B.gd h v84 false (fun K => B.call C (N 33) [v86] h K) fun v87 h =>
    B.gd h v84 false (fun K => B.pv (V.un .not v87) fun v => K v h) fun v88 h =>
    B.pick v84 (.bool true) v88 fun v89 =>
    B.cond v89
    (B.pv (A.bld [] [.int .i64 0, .int .i64 0, .int .i64 0, .str [], .int .u8 0, .nils, .nils]) fun v90 =>
    B.stn h v2 7 v90 fun h =>
    B.pv (oneOf (joinV (A.ldnv h v2 7) (joinV (some (.int .i64 0)) (joinV (some (.int .i64 4)) (some []))))) fun v => Q v h)
    (B.pv (V.fieldN 0 7 c6) fun v91 =>
    B.nilCheck v5 fun v93 =>
    B.pv (V.fieldAddr 1 v93) fun v94 =>
    B.ld h v94 fun v95 =>
    (fun K => B.stn h v2 7 v91 fun h => K .undef h) (B.keepS h [(v94, none)] (fun _ h => B.pv (oneOf (joinV (A.ldnv h v2 7) (joinV (some v95) (joinV (some (.int .i64 0)) (some []))))) fun v => Q v h)))
@[simp] def ref14_Get.k2 (C : CSem) (N : Nat → Nat) (Q : AVal → AHeap → Prop) (Y1 : List AVal → AHeap → Prop) (v2 v5 v8 c6 : AVal) (h : AHeap) : Prop :=
  B.pv (V.bin .gtr v8 (.int .i64 0)) fun v56 =>
    B.gd h v56 true (fun K => K v5 h) fun v58 h =>
    B.gd h v56 true (fun K => B.nilCheck v58 fun v => K v h) fun v59 h =>
    B.gd h v56 true (fun K => B.pv (V.fieldAddr 2 v59) fun v => K v h) fun v60 h =>
    B.gd h v56 true (fun K => B.ld h v60 fun v => K v h) fun v61 h =>
    B.gd h v56 true (fun K => B.pv (V.un .not v61) fun v => K v h) fun v62 h =>
    B.pick v56 v62 (.bool false) fun v63 =>
    B.cond v63
    (B.call C (N 71) [v5, (.int .i64 8)] h fun v67 h =>
    B.pv (A.bld [(0, none, v67)] [.int .i64 0, .int .i64 0, .int .i64 0]) fun v68 =>
    B.pv (V.setN 0 3 v68 (.agg [.int .i64 0, .int .i64 0, .int .i64 0])) fun c9 =>
    B.call C (N 71) [v5, (.int .i64 8)] h fun v70 h =>
    B.al c9 (B.pv (V.setF 1 v70 c9) fun c9 =>
    B.call C (N 71) [v5, (.int .i64 8)] h fun v73 h =>
    B.al c9 (B.pv (V.setF 2 v73 c9) fun c9 =>
    B.al c6 (B.pv (V.field1 6 c6) fun v76 =>
    B.pv (V.fieldN 0 3 c9) fun v77 =>
    B.newO h (fillL [(0, some 3, v77)] (repL 1 [.int .i64 0, .int .i64 0, .int .i64 0])) fun i78 h =>
    B.appW h 3 24 v76 (.sl i78 0 0 1 3 1) fun v79 h =>
    B.al c6 (B.pv (V.setF 6 v79 c6) fun c6 =>
    B.pv (V.bin .sub v8 (.int .i64 1)) fun v65 =>
    Y1 [v65, c6] h)))))
    (ref14_Get.k1 C N Q v2 v5 c6 h)
@[simp] def ref14_Get.l3 (C : CSem) (N : Nat → Nat) (Q : AVal → AHeap → Prop) (v2 v5 : AVal) : List AVal → AHeap → (List AVal → AHeap → Prop) → Prop
  | [v8, c6], h, Y1 => ref14_Get.k2 C N Q Y1 v2 v5 v8 c6 h
  | _, _, _ => False
@[simp] def ref14_Get.k4 (C : CSem) (N : Nat → Nat) (Q : AVal → AHeap → Prop) (Y2 : List AVal → AHeap → Prop) (v2 v5 v7 c6 : AVal) (h : AHeap) : Prop :=
  B.pv (V.bin .gtr v7 (.int .i64 0)) fun v36 =>
    B.gd h v36 true (fun K => K v5 h) fun v38 h =>
    B.gd h v36 true (fun K => B.nilCheck v38 fun v => K v h) fun v39 h =>
    B.gd h v36 true (fun K => B.pv (V.fieldAddr 2 v39) fun v => K v h) fun v40 h =>
    B.gd h v36 true (fun K => B.ld h v40 fun v => K v h) fun v41 h =>
    B.gd h v36 true (fun K => B.pv (V.un .not v41) fun v => K v h) fun v42 h =>
    B.pick v36 v42 (.bool false) fun v43 =>
    B.cond v43
    (B.al c6 (B.pv (V.field1 5 c6) fun v47 =>
    B.call C (N 72) [v5] h fun v49 h =>
    B.newO h (fillL [(0, some 6, v49)] (repL 1 [.int .i64 0, .str [], .int .i64 0, .int .i64 0, .int .i64 0, .bool false])) fun i50 h =>
    B.appW h 6 56 v47 (.sl i50 0 0 1 6 1) fun v51 h =>
    B.al c6 (B.pv (V.setF 5 v51 c6) fun c6 =>
    B.pv (V.bin .sub v7 (.int .i64 1)) fun v45 =>
    Y2 [v45, c6] h)))
    (B.call C (N 71) [v5, (.int .i64 2)] h fun v54 h =>
    LoopR (ref14_Get.l3 C N Q v2 v5) [v54, c6] h)
@[simp] def ref14_Get.l5 (C : CSem) (N : Nat → Nat) (Q : AVal → AHeap → Prop) (v2 v5 : AVal) : List AVal → AHeap → (List AVal → AHeap → Prop) → Prop
  | [v7, c6], h, Y2 => ref14_Get.k4 C N Q Y2 v2 v5 v7 c6 h
  | _, _, _ => False
end Go.Ab

/- What is told: residuals: what each function does in the abstract memory, printed by a program of mine. Definitions alone. -/
set_option linter.unusedVariables false
namespace Go.Ab
end Go.Ab

/- What is proved: contracts of answers' functions, the program's and the document's: are they right, their bytes. No conditions. -/
set_option linter.unusedVariables false
set_option linter.unusedSimpArgs false
namespace Go.Ab
variable {C : CSem} {N : Nat → Nat}

def lotRight (l : Lot) : Bool := decide (0 < l.Id) && codeRight l.Item && Window.right ⟨l.From, l.Until⟩ && decide (l.From < l.Until) && decide (0 < l.Qty) && decide (l.Qty ≤ 1073741824)
def useRight (u : Use) : Bool := decide (0 ≤ u.Want) && decide (1 ≤ u.Lot) && decide (1 ≤ u.Qty)
/-! Numbers as bytes. -/
/-- n in so many bytes, the highest first. -/
def be (n : Int) : Nat → List UInt8
  | 0 => []
  | k + 1 => byt (n.fdiv (2 ^ (8 * k))) :: be n k
@[simp] theorem be_len (n : Int) : ∀ k, (be n k).length = k
  | 0 => rfl
  | k + 1 => by simp [be, be_len n k]
/-! Answers. -/
def TellP.bare (t : TellP) : Bool := decide (t.Id = 0) && decide (t.Day = 0) && decide (t.Code = []) && decide (t.State = 0) && decide (t.Lots = []) && decide (t.Uses = [])
def TellP.head (t : TellP) : Bool := !(decide (t.Id < 0) || decide (t.Day < -1) || decide (4000 < t.Day) || !decide (t.Code = []) && !codeRight t.Code || decide (3 < (t.State.toNat : Int)) || decide (300 < (t.Lots.length : Int)) || decide (2000 < (t.Uses.length : Int)))
def TellP.full (t : TellP) : Bool := t.head && t.Lots.all lotRight && t.Uses.all useRight
def tellRight (t : TellP) : Bool := decide (0 ≤ t.Err) && decide (t.Err ≤ 999) && if 0 < t.Err then t.bare else t.full
def tell_Right.Spec (C : CSem) (N : Nat → Nat) : Prop := ∀ (t : TellP) (x y : AVal) (h : AHeap) (Q : AVal → AHeap → Prop), TellAt h t x y → t.Lots.length ≤ 100000000 → t.Uses.length ≤ 100000000 → Q (.bool (tellRight t)) h → C (N 29) [.agg (t.cs x y)] h Q
def ref14_Right.Spec (C : CSem) (N : Nat → Nat) : Prop := ∀ (t : TellP) (x y : AVal) (h : AHeap) (Q : AVal → AHeap → Prop), TellAt h t x y → t.Lots.length ≤ 100000000 → t.Uses.length ≤ 100000000 → Q (.bool (tellRight t)) h → C (N 33) [.agg (t.cs x y)] h Q
end Go.Ab

/- What is proved: contracts of windows' functions. No conditions. -/
set_option linter.unusedVariables false
namespace Go.Ab
variable {C : CSem} {N : Nat → Nat}

/-! Rows. -/
end Go.Ab

/- What is proved: stable orders, by ghost numbers. No conditions. -/
namespace Go.Ab
/-! Stable orders. -/
structure Weak {T : Type} (less : T → T → Bool) : Prop where
  asym : ∀ {a b}, less a b = true → less b a = false
  ntrans : ∀ {a b c}, less a b = false → less b c = false → less a c = false
section
variable {T : Type} {less : T → T → Bool}
theorem Weak.irr (W : Weak less) (a : T) : less a a = false := by
  cases h : less a a with
  | false => rfl
  | true => have := W.asym h; rw [h] at this; cases this
theorem Weak.trans (W : Weak less) {a b c : T} (h1 : less a b = true) (h2 : less b c = true) : less a c = true := by
  cases h : less a c with
  | true => rfl
  | false => have := W.ntrans h (W.asym h2); rw [h1] at this; cases this
/-- Ahead, or alike and of a smaller number. -/
def lt' (less : T → T → Bool) (x y : T × Nat) : Prop := less x.1 y.1 = true ∨ (less y.1 x.1 = false ∧ x.2 < y.2)
theorem lt'_trans (W : Weak less) {x y z : T × Nat} (h1 : lt' less x y) (h2 : lt' less y z) : lt' less x z := by
  unfold lt' at *
  rcases h1 with h1 | ⟨h1, n1⟩ <;> rcases h2 with h2 | ⟨h2, n2⟩
  · exact .inl (W.trans h1 h2)
  · left
    cases h : less x.1 z.1 with
    | true => rfl
    | false => have := W.ntrans h h2; rw [h1] at this; cases this
  · left
    cases h : less x.1 z.1 with
    | true => rfl
    | false => have := W.ntrans h1 h; rw [h2] at this; cases this
  · exact .inr ⟨W.ntrans h2 h1, by omega⟩
theorem lt'_asym (W : Weak less) {x y : T × Nat} (h1 : lt' less x y) (h2 : lt' less y x) : False := by
  have := lt'_trans W h1 h2
  unfold lt' at this
  rcases this with h | ⟨_, h⟩
  · rw [W.irr] at h; cases h
  · omega
theorem lt'_gt {x y : T × Nat} (hn : y.2 < x.2) : lt' less x y ↔ less x.1 y.1 = true := ⟨fun h => h.elim id fun ⟨_, h⟩ => by omega, .inl⟩
theorem lt'_le (W : Weak less) {x y : T × Nat} (hn : x.2 < y.2) : lt' less x y ↔ less y.1 x.1 = false :=
  ⟨fun h => h.elim (fun h => W.asym h) fun ⟨h, _⟩ => h, fun h => .inr ⟨h, hn⟩⟩
/-- S is L in stable order. -/
def StableSort (less : T → T → Bool) (L S : List T) : Prop := ∃ G : List (T × Nat), G.map (·.1) = S ∧ G.Perm L.zipIdx ∧ G.Pairwise (lt' less)
theorem StableSort.unique (W : Weak less) {L S S' : List T} (h : StableSort less L S) (k : StableSort less L S') : S = S' := by
  obtain ⟨G, rfl, p, s⟩ := h
  obtain ⟨H, rfl, q, t⟩ := k
  have := List.Perm.eq_of_pairwise (le := lt' less) (fun a b _ _ h1 h2 => (lt'_asym W h1 h2).elim) s t (p.trans q.symm)
  rw [this]
theorem StableSort.perm {L S : List T} (h : StableSort less L S) : S.Perm L := by
  obtain ⟨G, rfl, p, _⟩ := h
  have := p.map (·.1)
  simpa using this
theorem StableSort.sorted (W : Weak less) {L S : List T} (h : StableSort less L S) : S.Pairwise fun a b => less b a = false := by
  obtain ⟨G, rfl, _, s⟩ := h
  rw [List.pairwise_map]
  exact s.imp fun h => h.elim (fun h => W.asym h) fun ⟨h, _⟩ => h
end
end Go.Ab

/- What is proved: elements of one's own list loaded, stored, exchanged; numbers. No conditions. -/
set_option linter.unusedVariables false
set_option linter.unusedSimpArgs false
namespace Go.Ab
variable {C : CSem} {N : Nat → Nat}

/-! Numbers. -/
theorem add64 {a b : Nat} (h : a + b < 4611686018427387904) : V.bin .add (.int .i64 (a : Int)) (.int .i64 (b : Int)) = some (.int .i64 ((a + b : Nat) : Int)) := by
  rw [V.bin_add, wrap_i64 (by omega) (by omega)]; simp
theorem add1 {a : Nat} (h : a < 4611686018427387904) : V.bin .add (.int .i64 (a : Int)) (.int .i64 1) = some (.int .i64 ((a + 1 : Nat) : Int)) := by
  rw [V.bin_add, wrap_i64 (by omega) (by omega)]; simp
theorem sub64 {a b : Nat} (h : b ≤ a) (ha : a < 4611686018427387904) : V.bin .sub (.int .i64 (a : Int)) (.int .i64 (b : Int)) = some (.int .i64 ((a - b : Nat) : Int)) := by
  rw [V.bin_sub, wrap_i64 (by omega) (by omega)]; congr 2; omega
theorem sub1 {a : Nat} (h : 1 ≤ a) (ha : a < 4611686018427387904) : V.bin .sub (.int .i64 (a : Int)) (.int .i64 1) = some (.int .i64 ((a - 1 : Nat) : Int)) := by
  rw [V.bin_sub, wrap_i64 (by omega) (by omega)]; congr 2; omega
theorem lssN {a b : Nat} : V.bin .lss (.int .i64 (a : Int)) (.int .i64 (b : Int)) = some (.bool (decide (a < b))) := by rw [V.bin_lss]; congr 3; exact propext (by omega)
theorem leqN {a b : Nat} : V.bin .leq (.int .i64 (a : Int)) (.int .i64 (b : Int)) = some (.bool (decide (a ≤ b))) := by rw [V.bin_leq]; congr 3; exact propext (by omega)
theorem gtrN {a b : Nat} : V.bin .gtr (.int .i64 (a : Int)) (.int .i64 (b : Int)) = some (.bool (decide (b < a))) := by rw [V.bin_gtr]; congr 3; exact propext (by omega)
theorem neqN {a b : Nat} : V.bin .neq (.int .i64 (a : Int)) (.int .i64 (b : Int)) = some (.bool (!decide (a = b))) := by rw [V.bin_neq]; congr 4; exact propext (by omega)
theorem eql1 {a : Nat} : V.bin .eql (.int .i64 (a : Int)) (.int .i64 1) = some (.bool (decide (a = 1))) := by rw [V.bin_eql]; congr 3; exact propext (by omega)

/-- What is asked of the elements of a list: their cells, how they are loaded and stored. -/
structure SeqSpec (E : ElOps) {X : Type} (cs : X → List AVal) (v : X → AVal) : Prop where
  pos : 0 < E.es
  small : E.bytes ≤ 1000
  zlen : E.z.length = E.es
  len : ∀ t, (cs t).length = E.es
  new : ∀ t, fillL [(0, E.kp, v t)] (repL 1 E.z) = some (cs t)
  ld : ∀ {h : AHeap} {x : AVal} {L R : List (List AVal)} {i : Nat} {t : X} {K : AVal → Prop}, SlX h E.es x L R → L[i]? = some (cs t) → K (v t) → E.ld h (elp E.es x i 0) K
  kpt : ∀ {h : AHeap} {x : AVal} {L R : List (List AVal)} {i : Nat} {t : X}, SlX h E.es x L R → L[i]? = some (cs t) → Kp h (elp E.es x i 0) E.kp
  st : ∀ {h0 h : AHeap} {x : AVal} {L R : List (List AVal)} {i : Nat} {c : List AVal} {t : X} {K : AHeap → Prop}, Owns h0 h [.sl E.es x L R] → L[i]? = some c →
    (∀ h', Owns h0 h' [.sl E.es x (L.set i (cs t)) R] → K h') → E.st h (elp E.es x i 0) (v t) K
theorem SeqSpec.comp {E : ElOps} {X Y : Type} {cs : X → List AVal} {v : X → AVal} (S : SeqSpec E cs v) (f : Y → X) : SeqSpec E (fun y => cs (f y)) (fun y => v (f y)) :=
  ⟨S.pos, S.small, S.zlen, fun t => S.len _, fun t => S.new _, fun h1 h2 h3 => S.ld h1 h2 h3, fun h1 h2 => S.kpt h1 h2, fun h1 h2 h3 => S.st h1 h2 h3⟩
theorem seqF {X : Type} {es bytes f : Nat} {z : List AVal} {sh : List Ck} {cs : X → List AVal} (hp : 0 < es) (hb : bytes ≤ 1000) (hz : z.length = es) (hl : ∀ t, (cs t).length = es) : SeqSpec (opsF es bytes z f sh) cs (fun t => .agg (cs t)) where
  pos := hp
  small := hb
  zlen := hz
  len := hl
  new t := by
    have hrep : repL 1 z = z := by unfold repL; split <;> simp
    have h1 := hl t
    show fillL [(0, some es, AVal.agg (cs t))] (repL 1 z) = _
    rw [hrep]
    simp [h1, hz]
  ld hs hc hk := by
    simp only [opsF, B.ldn_eq] at hs ⊢
    rw [hs.elem hc]; exact hk
  kpt hs hc := ⟨_, hs.elem hc⟩
  st ho hc hk := ho.stElem 0 rfl hc (hl _) fun h' h1 _ => hk h' h1
/-- A list of one's own, element by element. -/
def Rw (E : ElOps) {X : Type} (cs : X → List AVal) (h0 h : AHeap) (x : AVal) (G : List X) (R : List (List AVal)) : Prop := Owns h0 h [.sl E.es x (G.map cs) R]
section
variable {E : ElOps} {X : Type} {cs : X → List AVal} {v : X → AVal} {h0 h : AHeap} {x : AVal} {G : List X} {R : List (List AVal)}
theorem Rw.idx (ho : Rw E cs h0 h x G R) {i : Nat} (hi : i < G.length) : V.idxS E.es x (.int .i64 (i : Int)) = some (elp E.es x i 0) := (Owns.slAt ho 0 rfl).idxN (by simpa using hi)
theorem Rw.lenE (ho : Rw E cs h0 h x G R) : V.lenSl x = some (.int .i64 G.length) := by have := (Owns.slAt ho 0 rfl).lenSl; simpa using this
theorem Rw.le (ho : Rw E cs h0 h x G R) : h0.le h := Owns.le ho
theorem Rw.ld (ho : Rw E cs h0 h x G R) (S : SeqSpec E cs v) {i : Nat} {t : X} (hg : G[i]? = some t) {K : AVal → Prop} (hk : K (v t)) : E.ld h (elp E.es x i 0) K :=
  S.ld (Owns.slAt ho 0 rfl) (by rw [List.getElem?_map, hg]; rfl) hk
theorem Rw.st (ho : Rw E cs h0 h x G R) (S : SeqSpec E cs v) {i : Nat} {t : X} (hi : i < G.length) {K : AHeap → Prop} (hk : ∀ h', Rw E cs h0 h' x (G.set i t) R → K h') : E.st h (elp E.es x i 0) (v t) K :=
  S.st ho (c := cs G[i]) (by rw [List.getElem?_map, List.getElem?_eq_getElem hi]; rfl) fun h' h1 => hk h' (by unfold Rw; rwa [List.map_set])
theorem set_mid {P Q : List X} {a b : X} {i : Nat} (hi : i = P.length) : (P ++ a :: Q).set i b = P ++ b :: Q := by subst hi; simp
theorem get_mid {P Q : List X} {a : X} {i : Nat} (hi : i = P.length) : (P ++ a :: Q)[i]? = some a := by subst hi; simp
theorem set_mid2 {P Q T : List X} {a b c : X} {j : Nat} (hj : j = P.length + 1 + Q.length) : (P ++ a :: (Q ++ b :: T)).set j c = P ++ a :: (Q ++ c :: T) := by
  have := set_mid (P := P ++ a :: Q) (Q := T) (a := b) (b := c) (i := j) (by simp; omega)
  simpa using this
theorem get_mid2 {P Q T : List X} {a b : X} {j : Nat} (hj : j = P.length + 1 + Q.length) : (P ++ a :: (Q ++ b :: T))[j]? = some b := by
  have := get_mid (P := P ++ a :: Q) (Q := T) (a := b) (i := j) (by simp; omega)
  simpa using this
theorem Rw.swapUp {P Q T : List X} {a b : X} {i j : Nat} (ho : Rw E cs h0 h x (P ++ a :: (Q ++ b :: T)) R) (S : SeqSpec E cs v) (hi : i = P.length) (hj : j = P.length + 1 + Q.length) {K : AHeap → Prop}
    (hk : ∀ h', Rw E cs h0 h' x (P ++ b :: (Q ++ a :: T)) R → K h') : E.st h (elp E.es x i 0) (v b) fun h => E.st h (elp E.es x j 0) (v a) K := by
  refine ho.st S (by simp; omega) fun h1 o1 => ?_
  rw [set_mid hi] at o1
  refine o1.st S (by simp; omega) fun h2 o2 => hk h2 ?_
  rwa [set_mid2 hj] at o2
theorem Rw.swapDn {P Q T : List X} {a b : X} {i j : Nat} (ho : Rw E cs h0 h x (P ++ a :: (Q ++ b :: T)) R) (S : SeqSpec E cs v) (hi : i = P.length) (hj : j = P.length + 1 + Q.length) {K : AHeap → Prop}
    (hk : ∀ h', Rw E cs h0 h' x (P ++ b :: (Q ++ a :: T)) R → K h') : E.st h (elp E.es x j 0) (v a) fun h => E.st h (elp E.es x i 0) (v b) K := by
  refine ho.st S (by simp; omega) fun h1 o1 => ?_
  rw [set_mid2 hj] at o1
  refine o1.st S (by simp; omega) fun h2 o2 => hk h2 ?_
  rwa [set_mid hi] at o2
end

/-- A comparison that leaves the memory. -/
structure CmpSpec (C : CSem) {X : Type} (v : X → AVal) (c : X → X → Int) (f : AVal) (h0 : AHeap) : Prop where
  call : ∀ (h : AHeap) (a b : X) (K : AVal → AHeap → Prop), h0.le h → K (.int .i64 (c a b)) h → B.callv h C f [v a, v b] K

section
variable {E : ElOps} {T : Type} {cs : T → List AVal} {v : T → AVal} {c : T → T → Int} {h0 h : AHeap} {x f : AVal} {R : List (List AVal)} {Q : AVal → AHeap → Prop}
/-- Ahead, by a comparison's answer. -/
def lessC (c : T → T → Int) (a b : T) : Bool := decide (c a b < 0)

theorem nil_or_snoc {X : Type} (L : List X) : L = [] ∨ ∃ L0 y, L = L0 ++ [y] := by
  rcases List.eq_nil_or_concat L with h | ⟨A, b, h⟩
  · exact .inl h
  · exact .inr ⟨A, b, by rw [h, List.concat_eq_append]⟩
/-- Insertion sort, stable. -/
theorem insertionSort_spec (S : SeqSpec E cs v) (W : Weak (lessC c)) {P M U : List (T × Nat)} (hlen : (P ++ (M ++ U)).length ≤ 100000000) (ht : M.Pairwise fun a b => a.2 < b.2)
    (hc : CmpSpec C v c f h0) {a b : Nat} (ha : a = P.length) (hb : b = P.length + M.length) (ho : Rw E (fun p : T × Nat => cs p.1) h0 h x (P ++ (M ++ U)) R)
    (hq : ∀ h' M', M'.Perm M → M'.Pairwise (lt' (lessC c)) → Rw E (fun p : T × Nat => cs p.1) h0 h' x (P ++ (M' ++ U)) R → Q (.tup []) h') :
    slices_insertionSortCmpFuncG.cps C E x (.int .i64 (a : Int)) (.int .i64 (b : Int)) f h Q := by
  have S' := S.comp (fun p : T × Nat => p.1)
  subst ha
  have hlen' : P.length + M.length + U.length ≤ 100000000 := by simpa [Nat.add_assoc] using hlen
  simp -dsimp only [slices_insertionSortCmpFuncG.cps, add1 (show P.length < 4611686018427387904 by omega), B.pv_some]
  cases M with
  | nil =>
    intro Y hY
    refine hY _ _ ?_
    simp -dsimp only [slices_insertionSortCmpFuncG.l3, lssN, B.pv_some]
    rw [show decide (P.length + 1 < b) = false by simp at hb ⊢; omega, B.cond_false]
    exact hq h [] (List.Perm.refl _) .nil ho
  | cons m M1 =>
  simp only [List.length_cons] at hlen' hb
  rw [List.pairwise_cons] at ht
  refine LoopR.intro (fun t vs hh => ∃ (i : Nat) (L M2 : List (T × Nat)), t = M2.length ∧ vs = [.int .i64 i] ∧ i = P.length + L.length ∧ i + M2.length = b ∧ Rw E (fun p : T × Nat => cs p.1) h0 hh x (P ++ (L ++ (M2 ++ U))) R ∧
    (L ++ M2).Perm (m :: M1) ∧ L.Pairwise (lt' (lessC c)) ∧ M2.Pairwise (fun a b => a.2 < b.2) ∧ ∀ p ∈ L, ∀ q ∈ M2, p.2 < q.2) M1.length ?_
    ⟨P.length + 1, [m], M1, rfl, rfl, by simp, by omega, by simpa using ho, List.Perm.refl _, List.pairwise_singleton .., ht.2, by simpa using ht.1⟩
  rintro Y t vs hh ⟨i, L, M2, rfl, rfl, hi, hib, o, hp, hs, ht2, htt⟩ hY
  simp -dsimp only [slices_insertionSortCmpFuncG.l3, lssN, B.pv_some]
  cases M2 with
  | nil =>
    rw [show decide (i < b) = false by simp at hib ⊢; omega, B.cond_false]
    rw [List.append_nil] at hp
    exact hq hh L hp hs o
  | cons x0 M2 =>
    simp only [List.length_cons] at hib
    rw [show decide (i < b) = true by simp; omega, B.cond_true]
    rw [List.pairwise_cons] at ht2
    have hll : P.length + (L.length + (M2.length + 1)) = b := by omega
    refine LoopR.intro (fun t vs h2 => ∃ (L1 L2 : List (T × Nat)), t = L1.length ∧ vs = [.int .i64 ((P.length + L1.length : Nat) : Int)] ∧ L = L1 ++ L2 ∧ Rw E (fun p : T × Nat => cs p.1) h0 h2 x (P ++ (L1 ++ x0 :: (L2 ++ (M2 ++ U)))) R ∧
      ∀ q ∈ L2, lt' (lessC c) x0 q) L.length ?_ ⟨L, [], rfl, by rw [hi], by simp, by simpa using o, by simp⟩
    rintro Z t vs h2 ⟨L1, L2, rfl, rfl, rfl, o2, hx⟩ hZ
    rw [List.pairwise_append] at hs
    have fin : (L1 = [] ∨ ∃ L0 y, L1 = L0 ++ [y] ∧ lt' (lessC c) y x0) → Y [.int .i64 ((i + 1 : Nat) : Int)] h2 := fun hz => by
      have hlow : ∀ p ∈ L1, lt' (lessC c) p x0 := by
        rcases hz with rfl | ⟨L0, y, rfl, hy⟩
        · simp
        · intro p hpm
          rcases List.mem_append.1 hpm with h1 | h1
          · exact lt'_trans W ((List.pairwise_append.1 hs.1).2.2 p h1 y (by simp)) hy
          · rw [List.mem_singleton.1 h1]; exact hy
      refine hY M2.length _ _ (by simp) ⟨i + 1, L1 ++ x0 :: L2, M2, rfl, rfl, by simp at hi ⊢; omega, by omega, by simpa using o2, ?_, ?_, ht2.2, ?_⟩
      · refine List.Perm.trans ?_ hp
        simp only [List.append_assoc, List.cons_append]
        refine List.Perm.append_left _ ?_
        exact (List.perm_middle (l₁ := L2) (l₂ := M2) (a := x0)).symm
      · rw [List.pairwise_append, List.pairwise_cons]
        refine ⟨hs.1, ⟨hx, hs.2.1⟩, fun p h1 q h2 => ?_⟩
        rcases List.mem_cons.1 h2 with rfl | h2
        · exact hlow p h1
        · exact hs.2.2 p h1 q h2
      · intro p h1 q h2
        rcases List.mem_append.1 h1 with h1 | h1
        · exact htt p (List.mem_append_left _ h1) q (List.mem_cons_of_mem _ h2)
        · rcases List.mem_cons.1 h1 with rfl | h1
          · exact ht2.1 q h2
          · exact htt p (List.mem_append_right _ h1) q (List.mem_cons_of_mem _ h2)
    have hll2 : i = P.length + (L1.length + L2.length) := by simpa using hi
    simp -dsimp only [slices_insertionSortCmpFuncG.l2, slices_insertionSortCmpFuncG.k1, gtrN, B.pv_some]
    obtain rfl | ⟨L0, y, rfl⟩ := nil_or_snoc L1
    · simp -dsimp [add1 (show i < 4611686018427387904 by omega)]
      exact fin (.inl rfl)
    · have hyx : y.2 < x0.2 := htt y (by simp) x0 (by simp)
      have o2' := o2
      simp only [List.append_assoc, List.cons_append, List.nil_append] at o2'
      simp only [List.length_append, List.length_singleton] at hll2 hlen' hll
      have hj : P.length + (L0 ++ [y]).length = P.length + L0.length + 1 := by simp [Nat.add_assoc]
      rw [show decide (P.length < P.length + (L0 ++ [y]).length) = true by simp]
      rw [hj]
      simp -dsimp only [B.gd_t, B.gdb_pure, B.gdb_true, gv_true, sub1 (show 1 ≤ P.length + L0.length + 1 by omega) (by omega), Nat.add_sub_cancel, o2.idx (i := P.length + L0.length + 1) (by simp; omega), o2.idx (i := P.length + L0.length) (by simp), B.pv_some]
      have o3 : Rw E (fun p : T × Nat => cs p.1) h0 h2 x ((P ++ L0) ++ y :: ([] ++ x0 :: (L2 ++ (M2 ++ U)))) R := by simpa using o2
      have gy : ((P ++ L0) ++ y :: ([] ++ x0 :: (L2 ++ (M2 ++ U))))[P.length + L0.length]? = some y := get_mid (by simp)
      have gx : ((P ++ L0) ++ y :: ([] ++ x0 :: (L2 ++ (M2 ++ U))))[P.length + L0.length + 1]? = some x0 := get_mid2 (by simp)
      refine o3.ld S' gx ?_
      refine o3.ld S' gy ?_
      refine hc.call _ _ _ _ o2.le ?_
      simp -dsimp only [B.gd_t, B.gdb_pure, B.gdb_true, gv_true, V.bin_lss, B.pv_some, B.pick_t]
      refine B.cond_bool (fun hb2 => ?_) (fun hb2 => ?_)
      · simp -dsimp only [sub1 (show 1 ≤ P.length + L0.length + 1 by omega) (by omega), Nat.add_sub_cancel, o2.idx (i := P.length + L0.length + 1) (by simp; omega), o2.idx (i := P.length + L0.length) (by simp), B.pv_some]
        refine o3.ld S' gy ?_
        refine o3.ld S' gx ?_
        refine o3.swapDn S' (by simp) (by simp) fun h4 o4 => ?_
        refine hZ L0.length _ _ (by simp) ⟨L0, y :: L2, rfl, rfl, by simp, by simpa using o4, ?_⟩
        intro q hq2
        rcases List.mem_cons.1 hq2 with rfl | hq2
        · exact (lt'_gt hyx).2 hb2
        · exact hx q hq2
      · simp -dsimp only [add1 (show i < 4611686018427387904 by omega), B.pv_some]
        exact fin (.inr ⟨L0, y, rfl, (lt'_le W hyx).2 hb2⟩)
end
end Go.Ab

/- What is proved: two parts of one's own list exchanged; a list turned about a place. No conditions. -/
set_option linter.unusedVariables false
set_option linter.unusedSimpArgs false
namespace Go.Ab
variable {C : CSem} {N : Nat → Nat}
section
variable {E : ElOps} {X : Type} {cs : X → List AVal} {v : X → AVal} {h0 h : AHeap} {x f : AVal} {R : List (List AVal)} {Q : AVal → AHeap → Prop}

theorem swapRange_spec (S : SeqSpec E cs v) {P A M D U : List X} (hn : A.length = D.length) (hlen : (P ++ (A ++ (M ++ (D ++ U)))).length ≤ 100000000) {a b n : Nat} (ha : a = P.length) (hb : b = P.length + A.length + M.length) (hna : n = A.length)
    (ho : Rw E cs h0 h x (P ++ (A ++ (M ++ (D ++ U)))) R)
    (hq : ∀ h', Rw E cs h0 h' x (P ++ (D ++ (M ++ (A ++ U)))) R → Q (.tup []) h') :
    slices_swapRangeCmpFuncG.cps C E x (.int .i64 (a : Int)) (.int .i64 (b : Int)) (.int .i64 (n : Int)) f h Q := by
  simp only [List.length_append] at hlen
  refine LoopR.intro (fun t vs hh => ∃ (A1 A2 D1 D2 : List X), t = A2.length ∧ vs = [.int .i64 (A1.length : Int)] ∧ A = A1 ++ A2 ∧ D = D1 ++ D2 ∧ A1.length = D1.length ∧ Rw E cs h0 hh x (P ++ (D1 ++ (A2 ++ (M ++ (A1 ++ (D2 ++ U)))))) R) A.length ?_
    ⟨[], A, [], D, rfl, rfl, rfl, rfl, rfl, by simpa using ho⟩
  rintro Y t vs hh ⟨A1, A2, D1, D2, rfl, rfl, rfl, rfl, hl, o⟩ hY
  simp only [List.length_append] at hn hlen hb hna
  simp -dsimp only [slices_swapRangeCmpFuncG.l2, slices_swapRangeCmpFuncG.k1, lssN, B.pv_some]
  cases A2 with
  | nil =>
    have : D2 = [] := List.eq_nil_of_length_eq_zero (by simp at hn; omega)
    subst this
    rw [show decide (A1.length < n) = false by simp at hna ⊢; omega, B.cond_false]
    exact hq hh (by simpa using o)
  | cons p A2 =>
    cases D2 with
    | nil => simp at hn; omega
    | cons q D2 =>
      simp only [List.length_cons] at hn hlen hb hna
      rw [show decide (A1.length < n) = true by simp; omega, B.cond_true]
      have o3 : Rw E cs h0 hh x ((P ++ D1) ++ p :: ((A2 ++ (M ++ A1)) ++ q :: (D2 ++ U))) R := by simpa using o
      have i1 : a + A1.length = (P ++ D1).length := by simp; omega
      have i2 : b + A1.length = (P ++ D1).length + 1 + (A2 ++ (M ++ A1)).length := by simp; omega
      simp -dsimp only [add64 (a := a) (b := A1.length) (by omega), add64 (a := b) (b := A1.length) (by omega), o3.idx (i := a + A1.length) (by simp; omega), o3.idx (i := b + A1.length) (by simp; omega), B.pv_some]
      refine o3.ld S (get_mid2 i2) ?_
      refine o3.ld S (get_mid i1) ?_
      refine o3.swapUp S i1 i2 fun h4 o4 => ?_
      simp -dsimp only [add1 (a := A1.length) (by omega), B.pv_some]
      exact hY A2.length _ _ (by simp) ⟨A1 ++ [p], A2, D1 ++ [q], D2, rfl, by simp, by simp, by simp, by simp [hl], by simpa using o4⟩

theorem rotate_spec (S : SeqSpec E cs v) {f1 : Nat} (s1 : ∀ (x v1 v2 v3 f : AVal) (h : AHeap) (Q : AVal → AHeap → Prop), slices_swapRangeCmpFuncG.cps C E x v1 v2 v3 f h (dn Q) → C f1 [x, v1, v2, v3, f] h Q)
    {P A D U : List X} (hA : A ≠ []) (hD : D ≠ []) (hlen : (P ++ (A ++ (D ++ U))).length ≤ 100000000) {a m b : Nat} (ha : a = P.length) (hm : m = P.length + A.length) (hb : b = P.length + A.length + D.length)
    (ho : Rw E cs h0 h x (P ++ (A ++ (D ++ U))) R) (hq : ∀ h', Rw E cs h0 h' x (P ++ (D ++ (A ++ U))) R → Q (.tup []) h') :
    slices_rotateCmpFuncG.cps C E f1 x (.int .i64 (a : Int)) (.int .i64 (m : Int)) (.int .i64 (b : Int)) f h Q := by
  simp only [List.length_append] at hlen
  simp -dsimp only [slices_rotateCmpFuncG.cps, sub64 (a := m) (b := a) (by omega) (by omega), sub64 (a := b) (b := m) (by omega) (by omega), B.pv_some]
  refine LoopR.intro (fun t vs hh => ∃ (P' A' D' U' : List X), t = A'.length + D'.length ∧ vs = [.int .i64 (A'.length : Int), .int .i64 (D'.length : Int)] ∧ A' ≠ [] ∧ D' ≠ [] ∧ P'.length + A'.length = m ∧ m + D'.length + U'.length ≤ 100000000 ∧ P' ++ (D' ++ (A' ++ U')) = P ++ (D ++ (A ++ U)) ∧
    Rw E cs h0 hh x (P' ++ (A' ++ (D' ++ U'))) R) (A.length + D.length) ?_ ⟨P, A, D, U, rfl, by rw [show m - a = A.length by omega, show b - m = D.length by omega], hA, hD, hm.symm, by omega, rfl, ho⟩
  rintro Y t vs hh ⟨P', A', D', U', rfl, rfl, hA', hD', hm', hU', he, o⟩ hY
  have ka := List.length_pos_iff.2 hA'
  have kd := List.length_pos_iff.2 hD'
  simp -dsimp only [slices_rotateCmpFuncG.l2, slices_rotateCmpFuncG.k1, neqN, gtrN, B.pv_some]
  refine B.cond_bool (fun h1 => ?_) (fun h1 => ?_)
  · simp only [Bool.not_eq_true', decide_eq_false_iff_not] at h1
    simp -dsimp only [gtrN, B.pv_some]
    refine B.cond_bool (fun h2 => ?_) (fun h2 => ?_)
    · simp only [decide_eq_true_eq] at h2
      simp -dsimp only [sub64 (a := m) (b := A'.length) (by omega) (by omega), B.pv_some]
      have t1 : (A'.take D'.length).length = D'.length := by simp; omega
      have o2 : Rw E cs h0 hh x (P' ++ (A'.take D'.length ++ (A'.drop D'.length ++ (D' ++ U')))) R := by rw [← List.append_assoc (A'.take _), List.take_append_drop]; exact o
      refine s1 _ _ _ _ _ _ _ (swapRange_spec S t1 (by simp; omega) (by omega) (by simp; omega) t1.symm o2 fun h3 o3 => dn_same ?_)
      simp -dsimp only [sub64 (a := A'.length) (b := D'.length) (by omega) (by omega), B.pv_some]
      refine hY _ _ _ ?_ ⟨P' ++ D', A'.drop D'.length, A'.take D'.length, U', rfl, ?_, ?_, ?_, ?_, ?_, ?_, by simpa using o3⟩
      · simp; omega
      · rw [t1]; simp
      · intro e; simp at e; omega
      · intro e; rw [e] at t1; simp at t1; omega
      · simp; omega
      · rw [t1]; omega
      · rw [← he]; simp only [List.append_assoc]; rw [← List.append_assoc (A'.take _), List.take_append_drop]
    · simp only [decide_eq_false_iff_not] at h2
      simp -dsimp only [sub64 (a := m) (b := A'.length) (by omega) (by omega), add64 (a := m) (b := D'.length) (by omega), sub64 (a := m + D'.length) (b := A'.length) (by omega) (by omega), B.pv_some]
      have t1 : (D'.drop (D'.length - A'.length)).length = A'.length := by simp; omega
      have t2 : (D'.take (D'.length - A'.length)).length = D'.length - A'.length := by simp
      have o2 : Rw E cs h0 hh x (P' ++ (A' ++ (D'.take (D'.length - A'.length) ++ (D'.drop (D'.length - A'.length) ++ U')))) R := by rw [← List.append_assoc (D'.take _), List.take_append_drop]; exact o
      refine s1 _ _ _ _ _ _ _ (swapRange_spec S t1.symm (by simp only [List.length_append, t1, t2]; omega) (by omega) (by rw [t2]; omega) rfl o2 fun h3 o3 => dn_same ?_)
      simp -dsimp only [sub64 (a := D'.length) (b := A'.length) (by omega) (by omega), B.pv_some]
      refine hY _ _ _ ?_ ⟨P', D'.drop (D'.length - A'.length), D'.take (D'.length - A'.length), A' ++ U', rfl, ?_, ?_, ?_, ?_, ?_, ?_, o3⟩
      · rw [t1, t2]; omega
      · rw [t1, t2]
      · intro e; rw [e] at t1; simp at t1; omega
      · intro e; rw [e] at t2; simp at t2; omega
      · rw [t1]; omega
      · rw [t2]; simp; omega
      · rw [← he]; rw [← List.append_assoc (D'.take _), List.take_append_drop]
  · simp only [Bool.not_eq_false', decide_eq_true_eq] at h1
    simp -dsimp only [sub64 (a := m) (b := A'.length) (by omega) (by omega), B.pv_some]
    refine s1 _ _ _ _ _ _ _ (swapRange_spec S (P := P') (M := []) h1 (by simp only [List.length_append, List.length_nil]; omega) (by omega) (by simp; omega) rfl (U := U') (by simpa using o) fun h3 o3 => dn_same ?_)
    exact hq h3 (by rw [← he]; simpa using o3)
end
end Go.Ab

/- What is proved: two sorted parts merged in place, stable: where one of them is a single element. No conditions. -/
set_option linter.unusedVariables false
set_option linter.unusedSimpArgs false
namespace Go.Ab
variable {C : CSem} {N : Nat → Nat}
theorem toU64 {a : Nat} (h : a < 4611686018427387904) : V.toInt .u64 (.int .i64 (a : Int)) = some (.int .u64 (a : Int)) := by
  rw [V.toInt_int]; congr 2
  simp only [IntKind.wrap, IntKind.bits, IntKind.signed]; simp; omega
theorem shr1 {a : Nat} : V.bin .shr (.int .u64 (a : Int)) (.int .u64 1) = some (.int .u64 ((a / 2 : Nat) : Int)) := by
  simp only [V.bin, V.shift]
  rw [if_neg (by omega), Nat.min_eq_left (by simp [IntKind.bits])]
  congr 2
  rw [Int.fdiv_eq_ediv_of_nonneg _ (by simp)]; simp
theorem toI64 {a : Nat} (h : a < 4611686018427387904) : V.toInt .i64 (.int .u64 (a : Int)) = some (.int .i64 (a : Int)) := by
  rw [V.toInt_int, wrap_i64 (by omega) (by omega)]
section
variable {E : ElOps} {T : Type} {cs : T → List AVal} {v : T → AVal} {c : T → T → Int} {h0 h : AHeap} {x f : AVal} {R : List (List AVal)} {Q : AVal → AHeap → Prop}

/-- An element split off the middle. -/
theorem split_at {X : Type} {L : List X} {k : Nat} (h : k < L.length) : ∃ L1 z L2, L = L1 ++ z :: L2 ∧ L1.length = k :=
  ⟨L.take k, L[k], L.drop (k + 1), by rw [← List.drop_eq_getElem_cons h, List.take_append_drop], by simp; omega⟩

/-- One element on the left. -/
theorem symMergeL_spec (S : SeqSpec E cs v) (W : Weak (lessC c)) {f1 f2 : Nat} {P D U : List (T × Nat)} {y : T × Nat} (hlen : (P ++ y :: (D ++ U)).length ≤ 100000000) (hs : D.Pairwise (lt' (lessC c))) (ht : ∀ q ∈ D, y.2 < q.2)
    (hc : CmpSpec C v c f h0) {a m b : Nat} (ha : a = P.length) (hm : m = P.length + 1) (hb : b = P.length + 1 + D.length) (ho : Rw E (fun p : T × Nat => cs p.1) h0 h x (P ++ y :: (D ++ U)) R)
    (hq : ∀ h' M', M'.Perm (y :: D) → M'.Pairwise (lt' (lessC c)) → Rw E (fun p : T × Nat => cs p.1) h0 h' x (P ++ (M' ++ U)) R → Q (.tup []) h') :
    slices_symMergeCmpFuncG.cps C E f1 f2 x (.int .i64 (a : Int)) (.int .i64 (m : Int)) (.int .i64 (b : Int)) f h Q := by
  have S' := S.comp (fun p : T × Nat => p.1)
  subst ha
  have hlen' : P.length + 1 + D.length + U.length ≤ 100000000 := by simp at hlen; omega
  simp -dsimp only [slices_symMergeCmpFuncG.cps, slices_symMergeCmpFuncG.k17, sub64 (a := m) (b := P.length) (by omega) (by omega), show m - P.length = 1 by omega, eql1, B.pv_some]
  simp -dsimp only [Int.natCast_one, V.bin_eql, B.pv_some, decide_true, B.cond_true]
  refine LoopR.intro (fun t vs hh => hh = h ∧ ∃ (D1 D2 D3 : List (T × Nat)), t = D2.length ∧ vs = [.int .i64 ((m + D1.length : Nat) : Int), .int .i64 ((m + D1.length + D2.length : Nat) : Int)] ∧ D = D1 ++ (D2 ++ D3) ∧ (∀ q ∈ D1, lt' (lessC c) q y) ∧ ∀ q ∈ D3, lt' (lessC c) y q) D.length ?_
    ⟨rfl, [], D, [], rfl, by simp; omega, by simp, by simp, by simp⟩
  rintro Y t vs hh ⟨rfl, D1, D2, D3, rfl, rfl, rfl, h1, h3⟩ hY
  simp only [List.length_append] at hlen' hb
  simp -dsimp only [slices_symMergeCmpFuncG.l16, slices_symMergeCmpFuncG.k15, lssN, B.pv_some]
  refine B.cond_bool (fun hk => ?_) (fun hk => ?_)
  · simp only [decide_eq_true_eq] at hk
    have hmid : (m + D1.length + (m + D1.length + D2.length)) / 2 = m + D1.length + D2.length / 2 := by omega
    simp -dsimp only [add64 (a := m + D1.length) (b := m + D1.length + D2.length) (by omega), toU64 (a := m + D1.length + (m + D1.length + D2.length)) (by omega), shr1, hmid, toI64 (a := m + D1.length + D2.length / 2) (by omega), B.pv_some]
    obtain ⟨E1, z, E2, rfl, hE⟩ := split_at (L := D2) (k := D2.length / 2) (by omega)
    rw [← hE]
    simp only [List.length_append, List.length_cons] at hlen' hb hk
    have g1 : (P ++ y :: (D1 ++ (E1 ++ z :: E2 ++ D3) ++ U))[m + D1.length + E1.length]? = some z := by
      have := get_mid (P := P ++ y :: (D1 ++ E1)) (Q := E2 ++ D3 ++ U) (a := z) (i := m + D1.length + E1.length) (by simp; omega)
      simpa using this
    have g2 : (P ++ y :: (D1 ++ (E1 ++ z :: E2 ++ D3) ++ U))[P.length]? = some y := get_mid rfl
    simp -dsimp only [ho.idx (i := m + D1.length + E1.length) (by simp; omega), ho.idx (i := P.length) (by simp), B.pv_some]
    refine ho.ld S' g1 ?_
    refine ho.ld S' g2 ?_
    refine hc.call _ _ _ _ ho.le ?_
    simp -dsimp only [V.bin_lss, B.pv_some]
    have hzy : y.2 < z.2 := ht z (by simp)
    have hs' := hs
    simp only [List.pairwise_append, List.pairwise_cons, List.mem_append, List.mem_cons] at hs'
    refine B.cond_bool (fun hl => ?_) (fun hl => ?_)
    · have lz : lt' (lessC c) z y := (lt'_gt hzy).2 hl
      simp -dsimp only [add1 (a := m + D1.length + E1.length) (by omega), B.pv_some]
      refine hY E2.length _ _ (by simp; omega) ⟨rfl, D1 ++ E1 ++ [z], E2, D3, rfl, by simp; omega, by simp, ?_, h3⟩
      intro q hq
      simp only [List.mem_append, List.mem_singleton] at hq
      rcases hq with (hq | hq) | rfl
      · exact h1 q hq
      · exact lt'_trans W (hs'.2.1.1.2.2 q hq z (.inl rfl)) lz
      · exact lz
    · have lz : lt' (lessC c) y z := (lt'_le W hzy).2 hl
      refine hY E1.length _ _ (by simp) ⟨rfl, D1, E1, z :: E2 ++ D3, rfl, rfl, by simp, h1, ?_⟩
      intro q hq
      simp only [List.cons_append, List.mem_cons, List.mem_append] at hq
      rcases hq with rfl | hq | hq
      · exact lz
      · exact lt'_trans W lz (hs'.2.1.1.2.1.1 q hq)
      · exact h3 q hq
  · simp only [decide_eq_false_iff_not] at hk
    have e : D2 = [] := List.eq_nil_of_length_eq_zero (by omega)
    subst e
    simp only [List.length_nil, List.nil_append, Nat.add_zero] at hlen' hb hs hq ho
    refine LoopR.intro (fun t vs hh => ∃ (B1 B2 : List (T × Nat)), t = B2.length ∧ vs = [.int .i64 ((P.length + B1.length : Nat) : Int)] ∧ D1 = B1 ++ B2 ∧ Rw E (fun p : T × Nat => cs p.1) h0 hh x (P ++ (B1 ++ y :: (B2 ++ (D3 ++ U)))) R) D1.length ?_
      ⟨[], D1, rfl, by simp, rfl, by simpa using ho⟩
    rintro Z t vs h2 ⟨B1, B2, rfl, rfl, rfl, o2⟩ hZ
    simp only [List.length_append] at hlen' hb
    simp -dsimp only [slices_symMergeCmpFuncG.l14, slices_symMergeCmpFuncG.k13, List.length_append, sub1 (a := m + (B1.length + B2.length)) (by omega) (by omega), lssN, B.pv_some]
    cases B2 with
    | nil =>
      rw [show decide (P.length + B1.length < m + (B1.length + ([] : List (T × Nat)).length) - 1) = false by simp; omega, B.cond_false]
      refine hq h2 (B1 ++ y :: D3) ?_ ?_ (by simpa using o2)
      · simp
      · simp only [List.append_nil] at hs h1
        rw [List.pairwise_append] at hs ⊢
        rw [List.pairwise_cons]
        refine ⟨hs.1, ⟨h3, hs.2.1⟩, fun p hp q hq2 => ?_⟩
        rcases List.mem_cons.1 hq2 with rfl | hq2
        · exact h1 p hp
        · exact hs.2.2 p hp q hq2
    | cons z B2 =>
      simp only [List.length_cons] at hlen' hb ⊢
      rw [show decide (P.length + B1.length < m + (B1.length + (B2.length + 1)) - 1) = true by simp; omega, B.cond_true]
      have o3 : Rw E (fun p : T × Nat => cs p.1) h0 h2 x ((P ++ B1) ++ y :: ([] ++ z :: (B2 ++ (D3 ++ U)))) R := by simpa using o2
      have i1 : P.length + B1.length = (P ++ B1).length := by simp
      have i2 : P.length + B1.length + 1 = (P ++ B1).length + 1 + ([] : List (T × Nat)).length := by simp
      simp -dsimp only [add1 (a := P.length + B1.length) (by omega), o3.idx (i := P.length + B1.length + 1) (by simp; omega), o3.idx (i := P.length + B1.length) (by simp), B.pv_some]
      refine o3.ld S' (get_mid2 i2) ?_
      refine o3.ld S' (get_mid i1) ?_
      refine o3.swapUp S' i1 i2 fun h4 o4 => ?_
      refine hZ B2.length _ _ (by simp) ⟨B1 ++ [z], B2, rfl, by simp [Nat.add_assoc], by simp, by simpa using o4⟩
end
end Go.Ab

/- What is proved: two sorted parts merged in place, stable: one element on the right; the split of two long parts. No conditions. -/
set_option linter.unusedVariables false
set_option linter.unusedSimpArgs false
namespace Go.Ab
variable {C : CSem} {N : Nat → Nat}
section
variable {E : ElOps} {T : Type} {cs : T → List AVal} {v : T → AVal} {c : T → T → Int} {h0 h : AHeap} {x f : AVal} {R : List (List AVal)} {Q : AVal → AHeap → Prop}

/-- One element on the right. -/
theorem symMergeR_spec (S : SeqSpec E cs v) (W : Weak (lessC c)) {f1 f2 : Nat} {P A U : List (T × Nat)} {y : T × Nat} (hA : 2 ≤ A.length) (hlen : (P ++ (A ++ y :: U)).length ≤ 100000000) (hs : A.Pairwise (lt' (lessC c))) (ht : ∀ q ∈ A, q.2 < y.2)
    (hc : CmpSpec C v c f h0) {a m b : Nat} (ha : a = P.length) (hm : m = P.length + A.length) (hb : b = P.length + A.length + 1) (ho : Rw E (fun p : T × Nat => cs p.1) h0 h x (P ++ (A ++ y :: U)) R)
    (hq : ∀ h' M', M'.Perm (A ++ [y]) → M'.Pairwise (lt' (lessC c)) → Rw E (fun p : T × Nat => cs p.1) h0 h' x (P ++ (M' ++ U)) R → Q (.tup []) h') :
    slices_symMergeCmpFuncG.cps C E f1 f2 x (.int .i64 (a : Int)) (.int .i64 (m : Int)) (.int .i64 (b : Int)) f h Q := by
  have S' := S.comp (fun p : T × Nat => p.1)
  subst ha
  have hlen' : P.length + A.length + 1 + U.length ≤ 100000000 := by simp at hlen; omega
  simp -dsimp only [slices_symMergeCmpFuncG.cps, slices_symMergeCmpFuncG.k17, slices_symMergeCmpFuncG.k12, sub64 (a := m) (b := P.length) (by omega) (by omega), sub64 (a := b) (b := m) (by omega) (by omega), eql1, B.pv_some]
  rw [show decide (m - P.length = 1) = false by simp; omega, B.cond_false]
  simp -dsimp only [slices_symMergeCmpFuncG.k12, sub64 (a := b) (b := m) (by omega) (by omega), eql1, B.pv_some]
  rw [show decide (b - m = 1) = true by simp; omega, B.cond_true]
  refine LoopR.intro (fun t vs hh => hh = h ∧ ∃ (D1 D2 D3 : List (T × Nat)), t = D2.length ∧ vs = [.int .i64 ((P.length + D1.length : Nat) : Int), .int .i64 ((P.length + D1.length + D2.length : Nat) : Int)] ∧ A = D1 ++ (D2 ++ D3) ∧ (∀ q ∈ D1, lt' (lessC c) q y) ∧ ∀ q ∈ D3, lt' (lessC c) y q) A.length ?_
    ⟨rfl, [], A, [], rfl, by simp; omega, by simp, by simp, by simp⟩
  rintro Y t vs hh ⟨rfl, D1, D2, D3, rfl, rfl, rfl, h1, h3⟩ hY
  simp only [List.length_append] at hlen' hb hm
  simp -dsimp only [slices_symMergeCmpFuncG.l11, slices_symMergeCmpFuncG.k10, lssN, B.pv_some]
  have g0 : (P ++ (D1 ++ (D2 ++ D3) ++ y :: U))[m]? = some y := by
    have := get_mid (P := P ++ (D1 ++ (D2 ++ D3))) (Q := U) (a := y) (i := m) (by simp; omega)
    simpa using this
  refine B.cond_bool (fun hk => ?_) (fun hk => ?_)
  · simp only [decide_eq_true_eq] at hk
    have hmid : (P.length + D1.length + (P.length + D1.length + D2.length)) / 2 = P.length + D1.length + D2.length / 2 := by omega
    simp -dsimp only [add64 (a := P.length + D1.length) (b := P.length + D1.length + D2.length) (by omega), toU64 (a := P.length + D1.length + (P.length + D1.length + D2.length)) (by omega), shr1, hmid, toI64 (a := P.length + D1.length + D2.length / 2) (by omega), B.pv_some]
    obtain ⟨E1, z, E2, rfl, hE⟩ := split_at (L := D2) (k := D2.length / 2) (by omega)
    rw [← hE]
    simp only [List.length_append, List.length_cons] at hlen' hb hk hm
    have g1 : (P ++ (D1 ++ (E1 ++ z :: E2 ++ D3) ++ y :: U))[P.length + D1.length + E1.length]? = some z := by
      have := get_mid (P := P ++ (D1 ++ E1)) (Q := E2 ++ D3 ++ y :: U) (a := z) (i := P.length + D1.length + E1.length) (by simp; omega)
      simpa using this
    simp -dsimp only [ho.idx (i := P.length + D1.length + E1.length) (by simp; omega), ho.idx (i := m) (by simp; omega), B.pv_some]
    refine ho.ld S' g0 ?_
    refine ho.ld S' g1 ?_
    refine hc.call _ _ _ _ ho.le ?_
    simp -dsimp only [V.bin_lss, V.un_not, B.pv_some]
    have hzy : z.2 < y.2 := ht z (by simp)
    have hs' := hs
    simp only [List.pairwise_append, List.pairwise_cons, List.mem_append, List.mem_cons] at hs'
    refine B.cond_bool (fun hl => ?_) (fun hl => ?_)
    · simp only [Bool.not_eq_true'] at hl
      have lz : lt' (lessC c) z y := (lt'_le W hzy).2 hl
      simp -dsimp only [add1 (a := P.length + D1.length + E1.length) (by omega), B.pv_some]
      refine hY E2.length _ _ (by simp; omega) ⟨rfl, D1 ++ E1 ++ [z], E2, D3, rfl, by simp; omega, by simp, ?_, h3⟩
      intro q hq
      simp only [List.mem_append, List.mem_singleton] at hq
      rcases hq with (hq | hq) | rfl
      · exact h1 q hq
      · exact lt'_trans W (hs'.2.1.1.2.2 q hq z (.inl rfl)) lz
      · exact lz
    · simp only [Bool.not_eq_false'] at hl
      have lz : lt' (lessC c) y z := (lt'_gt hzy).2 hl
      refine hY E1.length _ _ (by simp) ⟨rfl, D1, E1, z :: E2 ++ D3, rfl, rfl, by simp, h1, ?_⟩
      intro q hq
      simp only [List.cons_append, List.mem_cons, List.mem_append] at hq
      rcases hq with rfl | hq | hq
      · exact lz
      · exact lt'_trans W lz (hs'.2.1.1.2.1.1 q hq)
      · exact h3 q hq
  · simp only [decide_eq_false_iff_not] at hk
    have e : D2 = [] := List.eq_nil_of_length_eq_zero (by omega)
    subst e
    simp only [List.length_nil, List.nil_append, Nat.add_zero, Nat.zero_add] at hlen' hb hs hq ho hm
    refine LoopR.intro (fun t vs hh => ∃ (B1 B2 : List (T × Nat)), t = B1.length ∧ vs = [.int .i64 ((P.length + D1.length + B1.length : Nat) : Int)] ∧ D3 = B1 ++ B2 ∧ Rw E (fun p : T × Nat => cs p.1) h0 hh x (P ++ (D1 ++ (B1 ++ y :: (B2 ++ U)))) R) D3.length ?_
      ⟨D3, [], rfl, by simp; omega, by simp, by simpa using ho⟩
    rintro Z t vs h2 ⟨B1, B2, rfl, rfl, rfl, o2⟩ hZ
    simp only [List.length_append] at hlen' hb hm
    simp -dsimp only [slices_symMergeCmpFuncG.l9, slices_symMergeCmpFuncG.k8, gtrN, B.pv_some]
    obtain rfl | ⟨B0, z, rfl⟩ := nil_or_snoc B1
    · rw [show decide (P.length + D1.length < P.length + D1.length + ([] : List (T × Nat)).length) = false by simp, B.cond_false]
      refine hq h2 (D1 ++ y :: B2) ?_ ?_ (by simpa using o2)
      · simp only [List.nil_append, List.append_assoc]
        exact List.Perm.append_left _ (List.perm_append_singleton y B2).symm
      · simp only [List.nil_append] at hs h3
        rw [List.pairwise_append] at hs ⊢
        rw [List.pairwise_cons]
        refine ⟨hs.1, ⟨h3, hs.2.1⟩, fun p hp q hq2 => ?_⟩
        rcases List.mem_cons.1 hq2 with rfl | hq2
        · exact h1 p hp
        · exact hs.2.2 p hp q hq2
    · have eL : (B0 ++ [z]).length = B0.length + 1 := by simp
      rw [eL] at hlen' hb hm ⊢
      rw [show decide (P.length + D1.length < P.length + D1.length + (B0.length + 1)) = true by simp, B.cond_true]
      have o3 : Rw E (fun p : T × Nat => cs p.1) h0 h2 x ((P ++ (D1 ++ B0)) ++ z :: ([] ++ y :: (B2 ++ U))) R := by simpa using o2
      have i1 : P.length + D1.length + B0.length = (P ++ (D1 ++ B0)).length := by simp; omega
      have i2 : P.length + D1.length + (B0.length + 1) = (P ++ (D1 ++ B0)).length + 1 + ([] : List (T × Nat)).length := by simp; omega
      have i3 : P.length + D1.length + (B0.length + 1) - 1 = P.length + D1.length + B0.length := by omega
      simp -dsimp only [sub1 (a := P.length + D1.length + (B0.length + 1)) (by omega) (by omega), i3, o3.idx (i := P.length + D1.length + (B0.length + 1)) (by simp; omega), o3.idx (i := P.length + D1.length + B0.length) (by simp; omega), B.pv_some]
      refine o3.ld S' (get_mid i1) ?_
      refine o3.ld S' (get_mid2 i2) ?_
      refine o3.swapDn S' i1 i2 fun h4 o4 => ?_
      refine hZ B0.length _ _ (by simp) ⟨B0, z :: B2, rfl, rfl, by simp, by simpa using o4⟩

/-- A mathematical split of two sorted parts: the places found fit. -/
theorem pw_get {X : Type} {r : X → X → Prop} {L : List X} (h : L.Pairwise r) {i j : Nat} {a b : X} (hij : i < j) (ha : L[i]? = some a) (hb : L[j]? = some b) : r a b := by
  obtain ⟨h1, rfl⟩ := List.getElem?_eq_some_iff.1 ha
  obtain ⟨h2, rfl⟩ := List.getElem?_eq_some_iff.1 hb
  exact List.pairwise_iff_getElem.1 h i j h1 h2 hij
theorem mem_take_get {X : Type} {L : List X} {n : Nat} {a : X} (h : a ∈ L.take n) : ∃ i, i < n ∧ L[i]? = some a := by
  obtain ⟨i, hi⟩ := List.getElem?_of_mem h
  have : i < n := by have := (List.getElem?_eq_some_iff.1 hi).1; simp at this; omega
  exact ⟨i, this, by rwa [List.getElem?_take_of_lt this] at hi⟩
theorem mem_drop_get {X : Type} {L : List X} {n : Nat} {a : X} (h : a ∈ L.drop n) : ∃ i, n ≤ i ∧ L[i]? = some a := by
  obtain ⟨i, hi⟩ := List.getElem?_of_mem h
  rw [List.getElem?_drop] at hi
  exact ⟨n + i, by omega, hi⟩
theorem pw_low {less : T → T → Bool} (W : Weak less) {L : List (T × Nat)} (h : L.Pairwise (lt' less)) {i j : Nat} {a b w : T × Nat} (hij : i ≤ j) (ha : L[i]? = some a) (hb : L[j]? = some b) (hw : lt' less b w) : lt' less a w := by
  rcases Nat.lt_or_eq_of_le hij with k | rfl
  · exact lt'_trans W (pw_get h k ha hb) hw
  · rw [ha] at hb; cases hb; exact hw
theorem pw_high {less : T → T → Bool} (W : Weak less) {L : List (T × Nat)} (h : L.Pairwise (lt' less)) {i j : Nat} {a b w : T × Nat} (hij : i ≤ j) (ha : L[i]? = some a) (hb : L[j]? = some b) (hw : lt' less w a) : lt' less w b := by
  rcases Nat.lt_or_eq_of_le hij with k | rfl
  · exact lt'_trans W hw (pw_get h k ha hb)
  · rw [ha] at hb; cases hb; exact hw
end
end Go.Ab

/- What is proved: two sorted parts merged in place, stable. No conditions. -/
set_option linter.unusedVariables false
set_option linter.unusedSimpArgs false
namespace Go.Ab
variable {C : CSem} {N : Nat → Nat}
theorem and_lss {h : AHeap} {a b c d : Nat} {X Y : AHeap → Prop} (hx : a < b → c < d → X h) (hy : ¬(a < b ∧ c < d) → Y h) :
    (B.pv (V.bin .lss (.int .i64 (a : Int)) (.int .i64 (b : Int))) fun v => B.gd h v true (fun K => K (.int .i64 (c : Int)) h) fun v2 h => B.gd h v true (fun K => K (.int .i64 (d : Int)) h) fun v3 h =>
      B.gd h v true (fun K => B.pv (V.bin .lss v2 v3) fun v => K v h) fun v4 h => B.pick v v4 (.bool false) fun v5 => B.cond v5 (X h) (Y h) : Prop) := by
  rw [lssN]
  simp -dsimp only [B.pv_some]
  by_cases h1 : a < b
  · rw [show decide (a < b) = true by simpa using h1]
    simp -dsimp only [B.gd_t, B.gdb_true, lssN, B.pv_some, B.pick_t]
    refine B.cond_bool (fun h2 => hx h1 (by simpa using h2)) (fun h2 => hy fun k => by simp at h2; omega)
  · rw [show decide (a < b) = false by simpa using h1]
    simp -dsimp only [B.gd_t, B.gdb_false, B.pick_f, B.cond_false]
    exact hy fun k => h1 k.1

section
variable {E : ElOps} {T : Type} {cs : T → List AVal} {v : T → AVal} {c : T → T → Int} {h0 h : AHeap} {x f : AVal} {R : List (List AVal)} {Q : AVal → AHeap → Prop}

theorem symTail (S : SeqSpec E cs v) {f1 f2 f3 : Nat} {P A1 A2 D1 D2 U : List (T × Nat)} {a m b mid st en : Nat}
    (s1 : ∀ (x v1 v2 v3 f : AVal) (h : AHeap) (Q : AVal → AHeap → Prop), slices_symMergeCmpFuncG.cps C E f1 f2 x v1 v2 v3 f h (dn Q) → C f1 [x, v1, v2, v3, f] h Q)
    (s2 : ∀ (x v1 v2 v3 f : AVal) (h : AHeap) (Q : AVal → AHeap → Prop), slices_rotateCmpFuncG.cps C E f3 x v1 v2 v3 f h (dn Q) → C f2 [x, v1, v2, v3, f] h Q)
    (s3 : ∀ (x v1 v2 v3 f : AVal) (h : AHeap) (Q : AVal → AHeap → Prop), slices_swapRangeCmpFuncG.cps C E x v1 v2 v3 f h (dn Q) → C f3 [x, v1, v2, v3, f] h Q)
    (ih1 : ∀ (U : List (T × Nat)) (h : AHeap) (Q : AVal → AHeap → Prop), A1 ≠ [] → D1 ≠ [] → (P ++ (A1 ++ (D1 ++ U))).length ≤ 100000000 → Rw E (fun p : T × Nat => cs p.1) h0 h x (P ++ (A1 ++ (D1 ++ U))) R →
      (∀ h' M', M'.Perm (A1 ++ D1) → M'.Pairwise (lt' (lessC c)) → Rw E (fun p : T × Nat => cs p.1) h0 h' x (P ++ (M' ++ U)) R → Q (.tup []) h') → slices_symMergeCmpFuncG.cps C E f1 f2 x (.int .i64 (a : Int)) (.int .i64 (st : Int)) (.int .i64 (mid : Int)) f h Q)
    (ih2 : ∀ (P : List (T × Nat)) (h : AHeap) (Q : AVal → AHeap → Prop), A2 ≠ [] → D2 ≠ [] → P.length = mid → (P ++ (A2 ++ (D2 ++ U))).length ≤ 100000000 → Rw E (fun p : T × Nat => cs p.1) h0 h x (P ++ (A2 ++ (D2 ++ U))) R →
      (∀ h' M', M'.Perm (A2 ++ D2) → M'.Pairwise (lt' (lessC c)) → Rw E (fun p : T × Nat => cs p.1) h0 h' x (P ++ (M' ++ U)) R → Q (.tup []) h') → slices_symMergeCmpFuncG.cps C E f1 f2 x (.int .i64 (mid : Int)) (.int .i64 (en : Int)) (.int .i64 (b : Int)) f h Q)
    (hlen : P.length + A1.length + A2.length + D1.length + D2.length + U.length ≤ 100000000) (ha : a = P.length) (hst : st = P.length + A1.length) (hmid : mid = P.length + A1.length + D1.length) (hm : m = P.length + A1.length + A2.length)
    (hen : en = P.length + A1.length + A2.length + D1.length) (hb : b = P.length + A1.length + A2.length + D1.length + D2.length)
    (pA : (A1 ++ A2).Pairwise (lt' (lessC c))) (pD : (D1 ++ D2).Pairwise (lt' (lessC c))) (x1 : ∀ p ∈ A1, ∀ q ∈ D2, lt' (lessC c) p q) (x2 : ∀ p ∈ D1, ∀ q ∈ A2, lt' (lessC c) p q)
    (ho : Rw E (fun p : T × Nat => cs p.1) h0 h x (P ++ (A1 ++ (A2 ++ (D1 ++ (D2 ++ U))))) R)
    (hq : ∀ h' M', M'.Perm ((A1 ++ A2) ++ (D1 ++ D2)) → M'.Pairwise (lt' (lessC c)) → Rw E (fun p : T × Nat => cs p.1) h0 h' x (P ++ (M' ++ U)) R → Q (.tup []) h') :
    slices_symMergeCmpFuncG.k3 C E f1 f2 Q x (.int .i64 (a : Int)) (.int .i64 (m : Int)) (.int .i64 (b : Int)) f (.int .i64 (mid : Int)) (.int .i64 (st : Int)) (.int .i64 (en : Int)) h := by
  have S' := S.comp (fun p : T × Nat => p.1)
  rw [List.pairwise_append] at pA pD
  have fin : ∀ h' M1 M2, M1.Perm (A1 ++ D1) → M1.Pairwise (lt' (lessC c)) → M2.Perm (A2 ++ D2) → M2.Pairwise (lt' (lessC c)) → Rw E (fun p : T × Nat => cs p.1) h0 h' x (P ++ (M1 ++ (M2 ++ U))) R → Q (.tup []) h' := by
    intro h' M1 M2 p1 w1 p2 w2 o
    refine hq h' (M1 ++ M2) ?_ ?_ (by simpa using o)
    · refine (p1.append p2).trans ?_
      simp only [List.append_assoc]
      refine List.Perm.append_left _ ?_
      rw [← List.append_assoc, ← List.append_assoc]
      exact List.Perm.append_right _ List.perm_append_comm
    · rw [List.pairwise_append]
      refine ⟨w1, w2, fun p hp q hq => ?_⟩
      rcases List.mem_append.1 (p1.mem_iff.1 hp) with h1 | h1 <;> rcases List.mem_append.1 (p2.mem_iff.1 hq) with h2 | h2
      · exact pA.2.2 p h1 q h2
      · exact x1 p h1 q h2
      · exact x2 p h1 q h2
      · exact pD.2.2 p h1 q h2
  have k1 : ∀ h' M1, M1.Perm (A1 ++ D1) → M1.Pairwise (lt' (lessC c)) → Rw E (fun p : T × Nat => cs p.1) h0 h' x (P ++ (M1 ++ (A2 ++ (D2 ++ U)))) R →
      slices_symMergeCmpFuncG.k1 C E f1 f2 Q x (.int .i64 (b : Int)) f (.int .i64 (mid : Int)) (.int .i64 (en : Int)) h' := by
    intro h' M1 p1 w1 o
    have l1 := p1.length_eq
    rw [List.length_append] at l1
    refine and_lss (fun k1 k2 => ?_) (fun k => ?_)
    · refine s1 _ _ _ _ _ _ _ (ih2 (P ++ M1) h' _ ?_ ?_ ?_ ?_ (by simpa using o) fun h2 M2 p2 w2 o2 => dn_same (fin h2 M1 M2 p1 w1 p2 w2 (by simpa using o2)))
      · rintro rfl; simp at hen; omega
      · rintro rfl; simp at hb; omega
      · simp; omega
      · simp; omega
    · have : A2 = [] ∨ D2 = [] := by
        rcases Nat.eq_zero_or_pos A2.length with e | e
        · exact .inl (List.eq_nil_of_length_eq_zero e)
        · exact .inr (List.eq_nil_of_length_eq_zero (by omega))
      refine fin h' M1 (A2 ++ D2) p1 w1 (List.Perm.refl _) ?_ (by simpa using o)
      rcases this with rfl | rfl
      · simpa using pD.2.1
      · simpa using pA.2.1
  have k2 : ∀ h', Rw E (fun p : T × Nat => cs p.1) h0 h' x (P ++ (A1 ++ (D1 ++ (A2 ++ (D2 ++ U))))) R →
      slices_symMergeCmpFuncG.k2 C E f1 f2 Q x (.int .i64 (a : Int)) (.int .i64 (b : Int)) f (.int .i64 (mid : Int)) (.int .i64 (st : Int)) (.int .i64 (en : Int)) h' := by
    intro h' o
    refine and_lss (fun k1' k2 => ?_) (fun k => ?_)
    · refine s1 _ _ _ _ _ _ _ (ih1 (A2 ++ (D2 ++ U)) h' _ ?_ ?_ ?_ o fun h2 M1 p1 w1 o2 => dn_same (k1 h2 M1 p1 w1 o2))
      · rintro rfl; simp at hst; omega
      · rintro rfl; simp at hmid; omega
      · simp; omega
    · have : A1 = [] ∨ D1 = [] := by
        rcases Nat.eq_zero_or_pos A1.length with e | e
        · exact .inl (List.eq_nil_of_length_eq_zero e)
        · exact .inr (List.eq_nil_of_length_eq_zero (by omega))
      refine k1 h' (A1 ++ D1) (List.Perm.refl _) ?_ (by simpa using o)
      rcases this with rfl | rfl
      · simpa using pD.1
      · simpa using pA.1
  refine and_lss (fun g1 g2 => ?_) (fun k => ?_)
  · refine s2 _ _ _ _ _ _ _ (rotate_spec S' s3 (P := P ++ A1) (A := A2) (D := D1) (U := D2 ++ U) ?_ ?_ (by simp; omega) (by simp; omega) (by simp; omega) (by simp; omega) (by simpa using ho) fun h2 o2 => dn_same (k2 h2 (by simpa using o2)))
    · rintro rfl; simp at hm; omega
    · rintro rfl; simp at hen; omega
  · refine k2 h ?_
    have : A2 = [] ∨ D1 = [] := by
      rcases Nat.eq_zero_or_pos A2.length with e | e
      · exact .inl (List.eq_nil_of_length_eq_zero e)
      · exact .inr (List.eq_nil_of_length_eq_zero (by omega))
    rcases this with rfl | rfl <;> simpa using ho
end
end Go.Ab

/- What is proved: stable sorting of one's own list by a comparison. No conditions. -/
set_option linter.unusedVariables false
set_option linter.unusedSimpArgs false
namespace Go.Ab
variable {C : CSem} {N : Nat → Nat}
section
variable {E : ElOps} {T : Type} {cs : T → List AVal} {v : T → AVal} {c : T → T → Int} {h0 h : AHeap} {x f : AVal} {R : List (List AVal)} {Q : AVal → AHeap → Prop}

theorem symLoop (S : SeqSpec E cs v) (W : Weak (lessC c)) {f1 f2 : Nat} {P A D U : List (T × Nat)} {a m b mid n pp μ s0 r0 : Nat} (hc : CmpSpec C v c f h0)
    (pA : A.Pairwise (lt' (lessC c))) (pD : D.Pairwise (lt' (lessC c))) (ht : ∀ p ∈ A, ∀ q ∈ D, p.2 < q.2)
    (hlen : P.length + A.length + D.length + U.length ≤ 100000000) (ha : a = P.length) (hm : m = P.length + A.length) (hb : b = P.length + A.length + D.length) (hmid : mid = P.length + μ) (hn : n = mid + m) (hpp : pp = n - 1)
    (q1 : s0 ≤ r0) (q2 : r0 ≤ A.length) (q3 : r0 ≤ μ) (q4 : μ ≤ s0 + D.length) (e1 : s0 = 0 ∨ μ = s0 + D.length) (e2 : r0 = A.length ∨ r0 = μ)
    (ho : Rw E (fun p : T × Nat => cs p.1) h0 h x (P ++ (A ++ (D ++ U))) R)
    (hq : ∀ A1 A2 D1 D2, A = A1 ++ A2 → D = D1 ++ D2 → A1.length + D1.length = μ → (∀ p ∈ A1, ∀ q ∈ D2, lt' (lessC c) p q) → (∀ p ∈ D1, ∀ q ∈ A2, lt' (lessC c) p q) →
      slices_symMergeCmpFuncG.k3 C E f1 f2 Q x (.int .i64 (a : Int)) (.int .i64 (m : Int)) (.int .i64 (b : Int)) f (.int .i64 (mid : Int)) (.int .i64 ((P.length + A1.length : Nat) : Int)) (.int .i64 ((m + D1.length : Nat) : Int)) h) :
    LoopR (slices_symMergeCmpFuncG.l5 C E f1 f2 Q x (.int .i64 (a : Int)) (.int .i64 (m : Int)) (.int .i64 (b : Int)) f (.int .i64 (mid : Int)) (.int .i64 (n : Int)) (.int .i64 (pp : Int))) [.int .i64 ((P.length + s0 : Nat) : Int), .int .i64 ((P.length + r0 : Nat) : Int)] h := by
  have S' := S.comp (fun p : T × Nat => p.1)
  refine LoopR.intro (fun t vs hh => hh = h ∧ ∃ (s r : Nat), t = r - s ∧ vs = [.int .i64 ((P.length + s : Nat) : Int), .int .i64 ((P.length + r : Nat) : Int)] ∧ s0 ≤ s ∧ s ≤ r ∧ r ≤ r0 ∧
    (s = s0 ∨ 0 < s ∧ ∃ u w, A[s - 1]? = some u ∧ D[μ - s]? = some w ∧ lt' (lessC c) u w) ∧ (r = r0 ∨ ∃ u w, A[r]? = some u ∧ D[μ - 1 - r]? = some w ∧ lt' (lessC c) w u)) (r0 - s0) ?_
    ⟨rfl, s0, r0, rfl, rfl, Nat.le_refl _, q1, Nat.le_refl _, .inl rfl, .inl rfl⟩
  rintro Y t vs hh ⟨rfl, s, r, rfl, rfl, i1, i2, i3, lo, hi⟩ hY
  simp -dsimp only [slices_symMergeCmpFuncG.l5, slices_symMergeCmpFuncG.k4, lssN, B.pv_some]
  refine B.cond_bool (fun hk => ?_) (fun hk => ?_)
  · simp only [decide_eq_true_eq] at hk
    have hk' : s < r := by omega
    have hmd : (P.length + s + (P.length + r)) / 2 = P.length + (s + r) / 2 := by omega
    have k1 : s ≤ (s + r) / 2 := by omega
    have k2 : (s + r) / 2 < r := by omega
    have hpk : pp - (P.length + (s + r) / 2) = m + (μ - 1 - (s + r) / 2) := by omega
    simp -dsimp only [add64 (a := P.length + s) (b := P.length + r) (by omega), toU64 (a := P.length + s + (P.length + r)) (by omega), shr1, hmd, toI64 (a := P.length + (s + r) / 2) (by omega), sub64 (a := pp) (b := P.length + (s + r) / 2) (by omega) (by omega), hpk, B.pv_some]
    generalize hkk : (s + r) / 2 = k at *
    have gA : A[k]? = some A[k] := List.getElem?_eq_getElem (by omega)
    have gD : D[μ - 1 - k]? = some D[μ - 1 - k] := List.getElem?_eq_getElem (by omega)
    have g1 : (P ++ (A ++ (D ++ U)))[m + (μ - 1 - k)]? = some D[μ - 1 - k] := by
      rw [List.getElem?_append_right (by omega), List.getElem?_append_right (by omega), List.getElem?_append_left (by omega), show m + (μ - 1 - k) - P.length - A.length = μ - 1 - k by omega]; exact gD
    have g2 : (P ++ (A ++ (D ++ U)))[P.length + k]? = some A[k] := by
      rw [List.getElem?_append_right (by omega), List.getElem?_append_left (by omega), show P.length + k - P.length = k by omega]; exact gA
    simp -dsimp only [ho.idx (i := m + (μ - 1 - k)) (by simp; omega), ho.idx (i := P.length + k) (by simp; omega), B.pv_some]
    refine ho.ld S' g1 ?_
    refine ho.ld S' g2 ?_
    refine hc.call _ _ _ _ ho.le ?_
    simp -dsimp only [V.bin_lss, V.un_not, B.pv_some]
    have htt : A[k].2 < D[μ - 1 - k].2 := ht _ (List.getElem_mem _) _ (List.getElem_mem _)
    refine B.cond_bool (fun hl => ?_) (fun hl => ?_)
    · simp only [Bool.not_eq_true'] at hl
      have lz : lt' (lessC c) A[k] D[μ - 1 - k] := (lt'_le W htt).2 hl
      simp -dsimp only [add1 (a := P.length + k) (by omega), B.pv_some]
      refine hY (r - (k + 1)) _ _ (by omega) ⟨rfl, k + 1, r, rfl, by rw [Nat.add_assoc], by omega, by omega, i3, .inr ⟨by omega, A[k], D[μ - 1 - k], by rw [Nat.add_sub_cancel]; exact gA, by rw [show μ - (k + 1) = μ - 1 - k by omega]; exact gD, lz⟩, hi⟩
    · simp only [Bool.not_eq_false'] at hl
      have lz : lt' (lessC c) D[μ - 1 - k] A[k] := (lt'_gt htt).2 hl
      refine hY (k - s) _ _ (by omega) ⟨rfl, s, k, rfl, rfl, i1, by omega, by omega, lo, .inr ⟨A[k], D[μ - 1 - k], gA, gD, lz⟩⟩
  · simp only [decide_eq_false_iff_not] at hk
    have e : s = r := by omega
    subst e
    simp -dsimp only [sub64 (a := n) (b := P.length + s) (by omega) (by omega), show n - (P.length + s) = m + (μ - s) by omega, B.pv_some]
    have := hq (A.take s) (A.drop s) (D.take (μ - s)) (D.drop (μ - s)) (List.take_append_drop _ _).symm (List.take_append_drop _ _).symm (by simp; omega) ?_ ?_
    · rw [show (A.take s).length = s by simp; omega, show (D.take (μ - s)).length = μ - s by simp; omega] at this
      exact this
    · intro p hp q hq2
      obtain ⟨i, k1, k2⟩ := mem_take_get hp
      obtain ⟨j, k3, k4⟩ := mem_drop_get hq2
      rcases lo with rfl | ⟨k0, u, w, hu, hw, huw⟩
      · rcases e1 with e1 | e1
        · omega
        · have := (List.getElem?_eq_some_iff.1 k4).1; omega
      · exact pw_high W pD (show μ - s ≤ j by omega) hw k4 (pw_low W pA (show i ≤ s - 1 by omega) k2 hu huw)
    · intro p hp q hq2
      obtain ⟨i, k1, k2⟩ := mem_take_get hp
      obtain ⟨j, k3, k4⟩ := mem_drop_get hq2
      rcases hi with rfl | ⟨u, w, hu, hw, huw⟩
      · rcases e2 with e2 | e2
        · have := (List.getElem?_eq_some_iff.1 k4).1; omega
        · omega
      · exact pw_high W pA (show s ≤ j by omega) hu k4 (pw_low W pD (show i ≤ μ - 1 - s by omega) k2 hw huw)

/-- Two sorted parts are merged. -/
theorem symMerge_spec (S : SeqSpec E cs v) (W : Weak (lessC c)) {f1 f2 f3 : Nat} (hc : CmpSpec C v c f h0)
    (s1 : ∀ (x v1 v2 v3 f : AVal) (h : AHeap) (Q : AVal → AHeap → Prop), slices_symMergeCmpFuncG.cps C E f1 f2 x v1 v2 v3 f h (dn Q) → C f1 [x, v1, v2, v3, f] h Q)
    (s2 : ∀ (x v1 v2 v3 f : AVal) (h : AHeap) (Q : AVal → AHeap → Prop), slices_rotateCmpFuncG.cps C E f3 x v1 v2 v3 f h (dn Q) → C f2 [x, v1, v2, v3, f] h Q)
    (s3 : ∀ (x v1 v2 v3 f : AVal) (h : AHeap) (Q : AVal → AHeap → Prop), slices_swapRangeCmpFuncG.cps C E x v1 v2 v3 f h (dn Q) → C f3 [x, v1, v2, v3, f] h Q) :
    ∀ (k : Nat) (P A D U : List (T × Nat)) (a m b : Nat) (h : AHeap) (Q : AVal → AHeap → Prop), A.length + D.length = k → A ≠ [] → D ≠ [] → (P ++ (A ++ (D ++ U))).length ≤ 100000000 → a = P.length → m = P.length + A.length → b = P.length + A.length + D.length →
      A.Pairwise (lt' (lessC c)) → D.Pairwise (lt' (lessC c)) → (∀ p ∈ A, ∀ q ∈ D, p.2 < q.2) → Rw E (fun p : T × Nat => cs p.1) h0 h x (P ++ (A ++ (D ++ U))) R →
      (∀ h' M', M'.Perm (A ++ D) → M'.Pairwise (lt' (lessC c)) → Rw E (fun p : T × Nat => cs p.1) h0 h' x (P ++ (M' ++ U)) R → Q (.tup []) h') →
      slices_symMergeCmpFuncG.cps C E f1 f2 x (.int .i64 (a : Int)) (.int .i64 (m : Int)) (.int .i64 (b : Int)) f h Q := by
  intro k
  induction k using Nat.strongRecOn with
  | ind k ih =>
  intro P A D U a m b h Q hk hA hD hlen ha hm hb pA pD ht ho hq
  have kA := List.length_pos_iff.2 hA
  have kD := List.length_pos_iff.2 hD
  by_cases hA1 : A.length = 1
  · obtain ⟨y, rfl⟩ := List.length_eq_one_iff.1 hA1
    exact symMergeL_spec S W (D := D) hlen pD (fun q hq => ht y (by simp) q hq) hc ha hm hb ho hq
  by_cases hD1 : D.length = 1
  · obtain ⟨y, rfl⟩ := List.length_eq_one_iff.1 hD1
    exact symMergeR_spec S W (by omega) hlen pA (fun q hq => ht q hq y (by simp)) hc ha hm hb ho hq
  simp only [List.length_append] at hlen
  generalize hμ : (A.length + D.length) / 2 = μ
  have hmd : (a + b) / 2 = P.length + μ := by omega
  have main : ∀ A1 A2 D1 D2, A = A1 ++ A2 → D = D1 ++ D2 → A1.length + D1.length = μ → (∀ p ∈ A1, ∀ q ∈ D2, lt' (lessC c) p q) → (∀ p ∈ D1, ∀ q ∈ A2, lt' (lessC c) p q) →
      slices_symMergeCmpFuncG.k3 C E f1 f2 Q x (.int .i64 (a : Int)) (.int .i64 (m : Int)) (.int .i64 (b : Int)) f (.int .i64 ((P.length + μ : Nat) : Int)) (.int .i64 ((P.length + A1.length : Nat) : Int)) (.int .i64 ((m + D1.length : Nat) : Int)) h := by
    rintro A1 A2 D1 D2 rfl rfl hl x1 x2
    simp only [List.length_append] at hlen hb hm hk hA1 hD1 hμ kA kD
    have pA' := List.pairwise_append.1 pA
    have pD' := List.pairwise_append.1 pD
    refine symTail S s1 s2 s3 (P := P) (A1 := A1) (A2 := A2) (D1 := D1) (D2 := D2) (U := U) ?_ ?_ (by omega) ha rfl (by omega) (by omega) (by omega) (by omega) pA pD x1 x2 (by simpa using ho) hq
    · intro U h Q n1 n2 hl2 o hq
      exact ih _ (show A1.length + D1.length < k by omega) P A1 D1 U _ _ _ h Q rfl n1 n2 hl2 ha rfl (by omega) pA'.1 pD'.1 (fun p hp q hq => ht p (List.mem_append_left _ hp) q (List.mem_append_left _ hq)) o hq
    · intro P2 h Q n1 n2 hp hl2 o hq
      exact ih _ (show A2.length + D2.length < k by omega) P2 A2 D2 U _ _ _ h Q rfl n1 n2 hl2 hp.symm (by omega) (by omega) pA'.2.1 pD'.2.1 (fun p hp q hq => ht p (List.mem_append_right _ hp) q (List.mem_append_right _ hq)) o hq
  simp -dsimp only [slices_symMergeCmpFuncG.cps, slices_symMergeCmpFuncG.k17, sub64 (a := m) (b := a) (by omega) (by omega), eql1, B.pv_some]
  rw [show decide (m - a = 1) = false by simp; omega, B.cond_false]
  simp -dsimp only [slices_symMergeCmpFuncG.k12, sub64 (a := b) (b := m) (by omega) (by omega), eql1, B.pv_some]
  rw [show decide (b - m = 1) = false by simp; omega, B.cond_false]
  simp -dsimp only [slices_symMergeCmpFuncG.k7, slices_symMergeCmpFuncG.k6, add64 (a := a) (b := b) (by omega), toU64 (a := a + b) (by omega), shr1, hmd, toI64 (a := P.length + μ) (by omega), add64 (a := P.length + μ) (b := m) (by omega), gtrN, B.pv_some]
  refine B.cond_bool (fun hg => ?_) (fun hg => ?_)
  · simp only [decide_eq_true_eq] at hg
    simp -dsimp only [sub64 (a := P.length + μ + m) (b := b) (by omega) (by omega), sub1 (a := P.length + μ + m) (by omega) (by omega), show P.length + μ + m - b = P.length + (μ - D.length) by omega, B.pv_some]
    exact symLoop S W (P := P) (A := A) (D := D) (U := U) (s0 := μ - D.length) (r0 := μ) hc pA pD ht (by omega) ha hm hb rfl rfl rfl (by omega) (by omega) (by omega) (by omega) (.inr (by omega)) (.inr rfl) ho main
  · simp only [decide_eq_false_iff_not] at hg
    simp -dsimp only [sub1 (a := P.length + μ + m) (by omega) (by omega), B.pv_some]
    have := symLoop S W (f1 := f1) (f2 := f2) (P := P) (A := A) (D := D) (U := U) (s0 := 0) (r0 := A.length) (Q := Q) hc pA pD ht (by omega) ha hm hb rfl rfl rfl (by omega) (by omega) (by omega) (by omega) (.inl rfl) (.inl rfl) ho main
    rw [show P.length + 0 = a by omega, show P.length + A.length = m by omega] at this
    exact this
end
end Go.Ab

/- What is proved: slices.SortStableFunc, whatever the elements and the comparison. No conditions. -/
set_option linter.unusedVariables false
set_option linter.unusedSimpArgs false
namespace Go.Ab
variable {C : CSem} {N : Nat → Nat}
theorem mul2l {a : Nat} (h : a < 2305843009213693952) : V.bin .mul (.int .i64 2) (.int .i64 (a : Int)) = some (.int .i64 ((2 * a : Nat) : Int)) := by
  rw [V.bin_mul, wrap_i64 (by omega) (by omega)]; simp
theorem mul2r {a : Nat} (h : a < 2305843009213693952) : V.bin .mul (.int .i64 (a : Int)) (.int .i64 2) = some (.int .i64 ((2 * a : Nat) : Int)) := by
  rw [V.bin_mul, wrap_i64 (by omega) (by omega)]; congr 2; omega
def Apt {T : Type} (A D : List (T × Nat)) : Prop := ∀ p ∈ A, ∀ q ∈ D, p.2 < q.2
theorem Apt.perm {T : Type} {A A' D D' : List (T × Nat)} (h : Apt A D) (h1 : ∀ p ∈ A', p ∈ A) (h2 : ∀ p ∈ D', p ∈ D) : Apt A' D' := fun p hp q hq => h p (h1 p hp) q (h2 q hq)
theorem flat_full {X : Type} {bs : Nat} : ∀ {Bs : List (List X)}, (∀ B ∈ Bs, B.length = bs) → Bs.flatten.length = Bs.length * bs
  | [], _ => by simp
  | B :: Bs, h => by
    simp only [List.flatten_cons, List.length_append, List.length_cons, Nat.add_mul, Nat.one_mul]
    rw [h B (by simp), flat_full fun B hB => h B (by simp [hB])]; omega

section
variable {E : ElOps} {T : Type} {cs : T → List AVal} {v : T → AVal} {c : T → T → Int} {h0 h : AHeap} {x f : AVal} {R : List (List AVal)} {Q : AVal → AHeap → Prop}

/-- The merging of blocks of a length, until one is left. -/
theorem mergeAll_spec (S : SeqSpec E cs v) (W : Weak (lessC c)) {f1 f2 f3 f4 : Nat} (hc : CmpSpec C v c f h0)
    (s1 : ∀ (x v1 v2 v3 f : AVal) (h : AHeap) (Q : AVal → AHeap → Prop), slices_symMergeCmpFuncG.cps C E f1 f2 x v1 v2 v3 f h (dn Q) → C f1 [x, v1, v2, v3, f] h Q)
    (s2 : ∀ (x v1 v2 v3 f : AVal) (h : AHeap) (Q : AVal → AHeap → Prop), slices_rotateCmpFuncG.cps C E f3 x v1 v2 v3 f h (dn Q) → C f2 [x, v1, v2, v3, f] h Q)
    (s3 : ∀ (x v1 v2 v3 f : AVal) (h : AHeap) (Q : AVal → AHeap → Prop), slices_swapRangeCmpFuncG.cps C E x v1 v2 v3 f h (dn Q) → C f3 [x, v1, v2, v3, f] h Q)
    {G0 M0 : List (T × Nat)} {Bs0 : List (List (T × Nat))} {bs0 n : Nat} (hbs : 0 < bs0) (hb1 : bs0 ≤ 200000000) (hn : n = G0.length) (hlen : G0.length ≤ 100000000)
    (hf : ∀ B ∈ Bs0, B.length = bs0 ∧ B.Pairwise (lt' (lessC c))) (hM : M0.length < bs0) (hMs : M0.Pairwise (lt' (lessC c))) (hap : (Bs0 ++ [M0]).Pairwise Apt) (hp : (Bs0.flatten ++ M0).Perm G0)
    (ho : Rw E (fun p : T × Nat => cs p.1) h0 h x (Bs0.flatten ++ M0) R)
    (hq : ∀ h' M', M'.Perm G0 → M'.Pairwise (lt' (lessC c)) → Rw E (fun p : T × Nat => cs p.1) h0 h' x M' R → Q (.tup []) h') :
    LoopR (slices_stableCmpFuncG.l5 C E f1 f4 Q x (.int .i64 (n : Int)) f) [.int .i64 (bs0 : Int)] h := by
  have sm := symMerge_spec (R := R) (h0 := h0) (x := x) S W hc s1 s2 s3
  refine LoopR.intro (fun t vs hh => ∃ (bs : Nat) (Bs : List (List (T × Nat))) (M : List (T × Nat)), t = n - bs ∧ vs = [.int .i64 (bs : Int)] ∧ 0 < bs ∧ bs ≤ 200000000 ∧ (∀ B ∈ Bs, B.length = bs ∧ B.Pairwise (lt' (lessC c))) ∧ M.length < bs ∧ M.Pairwise (lt' (lessC c)) ∧
    (Bs ++ [M]).Pairwise Apt ∧ (Bs.flatten ++ M).Perm G0 ∧ Rw E (fun p : T × Nat => cs p.1) h0 hh x (Bs.flatten ++ M) R) (n - bs0) ?_ ⟨bs0, Bs0, M0, rfl, rfl, hbs, hb1, hf, hM, hMs, hap, hp, ho⟩
  rintro Y t vs hh ⟨bs, Bs, M, rfl, rfl, hbs, hb1, hf, hM, hMs, hap, hp, o⟩ hY
  simp -dsimp only [slices_stableCmpFuncG.l5, slices_stableCmpFuncG.k4, lssN, B.pv_some]
  have hl := hp.length_eq
  rw [List.length_append, flat_full fun B hB => (hf B hB).1] at hl
  refine B.cond_bool (fun hk => ?_) (fun hk => ?_)
  · simp only [decide_eq_true_eq] at hk
    simp -dsimp only [mul2l (a := bs) (by omega), B.pv_some]
    refine LoopR.intro (fun t vs h2 => ∃ (Cs Bs : List (List (T × Nat))), t = Bs.length ∧ vs = [.int .i64 ((Cs.flatten.length : Nat) : Int), .int .i64 ((Cs.flatten.length + 2 * bs : Nat) : Int)] ∧ (∀ B ∈ Cs, B.length = 2 * bs ∧ B.Pairwise (lt' (lessC c))) ∧ (∀ B ∈ Bs, B.length = bs ∧ B.Pairwise (lt' (lessC c))) ∧
      (Cs ++ (Bs ++ [M])).Pairwise Apt ∧ (Cs.flatten ++ (Bs.flatten ++ M)).Perm G0 ∧ Rw E (fun p : T × Nat => cs p.1) h0 h2 x (Cs.flatten ++ (Bs.flatten ++ M)) R) Bs.length ?_ ⟨[], Bs, rfl, by simp, by simp, hf, by simpa using hap, by simpa using hp, by simpa using o⟩
    clear hf hap hp o hl
    rintro Z t vs h2 ⟨Cs, Bs, rfl, rfl, hC, hf, hap, hp, o⟩ hZ
    have hl := hp.length_eq
    have hlB := flat_full fun B hB => (hf B hB).1
    simp only [List.length_append] at hl
    simp -dsimp only [slices_stableCmpFuncG.l3, slices_stableCmpFuncG.k2, leqN, B.pv_some]
    rw [List.pairwise_append, List.pairwise_append] at hap
    match Bs, hf, hap, hp, o, hZ, hlB, hl with
    | [], hf, hap, hp, o, hZ, hlB, hl =>
      simp only [List.length_nil, Nat.zero_mul, List.flatten_nil, List.nil_append] at hlB hl hap hp o
      rw [show decide (Cs.flatten.length + 2 * bs ≤ n) = false by simp only [decide_eq_false_iff_not]; omega, B.cond_false]
      simp -dsimp only [slices_stableCmpFuncG.k1, add64 (a := Cs.flatten.length) (b := bs) (by omega), lssN, mul2r (a := bs) (by omega), B.pv_some]
      rw [show decide (Cs.flatten.length + bs < n) = false by simp only [decide_eq_false_iff_not]; omega, B.cond_false]
      simp -dsimp only [mul2r (a := bs) (by omega), B.pv_some]
      refine hY (n - 2 * bs) _ _ (by omega) ⟨2 * bs, Cs, M, rfl, rfl, by omega, by omega, hC, by omega, hMs, ?_, hp, o⟩
      rw [List.pairwise_append]; exact ⟨hap.1, List.pairwise_singleton .., hap.2.2⟩
    | [B1], hf, hap, hp, o, hZ, hlB, hl =>
      simp only [List.length_singleton, Nat.one_mul, List.flatten_cons, List.flatten_nil, List.append_nil] at hlB hl hp o
      have hB1 := hf B1 (by simp)
      have hB1l := hB1.1
      rw [show decide (Cs.flatten.length + 2 * bs ≤ n) = false by simp only [decide_eq_false_iff_not]; omega, B.cond_false]
      simp -dsimp only [slices_stableCmpFuncG.k1, add64 (a := Cs.flatten.length) (b := bs) (by omega), lssN, B.pv_some]
      have hBM : Apt B1 M := by
        have := hap.2.1.2.2 B1 (by simp) M (by simp); exact this
      have hCB : ∀ A ∈ Cs, Apt A B1 := fun A hA => hap.2.2 A hA B1 (by simp)
      have hCM : ∀ A ∈ Cs, Apt A M := fun A hA => hap.2.2 A hA M (by simp)
      refine B.cond_bool (fun hg => ?_) (fun hg => ?_)
      · simp only [decide_eq_true_eq] at hg
        refine s1 _ _ _ _ _ _ _ (sm _ Cs.flatten B1 M [] _ _ _ h2 _ rfl (by rintro rfl; simp at hB1; omega) (by rintro rfl; simp only [List.length_nil] at hl; omega) (by simp only [List.length_append, List.length_nil]; omega) rfl (by rw [hB1.1]) (by omega) hB1.2 hMs hBM (by simpa using o) fun h3 M' p3 w3 o3 => dn_same ?_)
        simp -dsimp only [mul2r (a := bs) (by omega), B.pv_some]
        have l3 := p3.length_eq
        rw [List.length_append] at l3
        refine hY (n - 2 * bs) _ _ (by omega) ⟨2 * bs, Cs, M', rfl, rfl, by omega, by omega, hC, by omega, w3, ?_, ?_, by simpa using o3⟩
        · rw [List.pairwise_append]
          refine ⟨hap.1, List.pairwise_singleton .., fun A hA D hD => ?_⟩
          rw [List.mem_singleton.1 hD]
          intro p hpA q hq
          rcases List.mem_append.1 (p3.mem_iff.1 hq) with k | k
          · exact hCB A hA p hpA q k
          · exact hCM A hA p hpA q k
        · exact (List.Perm.append_left _ p3).trans hp
      · simp only [decide_eq_false_iff_not] at hg
        have : M = [] := List.eq_nil_of_length_eq_zero (by omega)
        subst this
        simp -dsimp only [mul2r (a := bs) (by omega), B.pv_some]
        refine hY (n - 2 * bs) _ _ (by omega) ⟨2 * bs, Cs, B1, rfl, rfl, by omega, by omega, hC, by omega, hB1.2, ?_, by simpa using hp, by simpa using o⟩
        rw [List.pairwise_append]
        refine ⟨hap.1, List.pairwise_singleton .., fun A hA D hD => ?_⟩
        rw [List.mem_singleton.1 hD]
        exact hCB A hA
    | B1 :: B2 :: Bs, hf, hap, hp, o, hZ, hlB, hl =>
      simp only [List.length_cons, List.flatten_cons, List.length_append] at hlB hl
      have hB1 := hf B1 (by simp)
      have hB2 := hf B2 (by simp)
      simp only [List.flatten_cons, List.append_assoc] at hp o
      rw [show decide (Cs.flatten.length + 2 * bs ≤ n) = true by simp only [decide_eq_true_eq]; omega, B.cond_true]
      simp -dsimp only [add64 (a := Cs.flatten.length) (b := bs) (by omega), B.pv_some]
      have h12 : Apt B1 B2 := by
        have := hap.2.1.1; rw [List.pairwise_cons] at this; exact this.1 B2 (by simp)
      refine s1 _ _ _ _ _ _ _ (sm _ Cs.flatten B1 B2 (Bs.flatten ++ M) _ _ _ h2 _ rfl (by rintro rfl; simp at hB1; omega) (by rintro rfl; simp at hB2; omega) (by simp only [List.length_append]; omega) rfl (by rw [hB1.1]) (by omega) hB1.2 hB2.2 h12 o fun h3 M' p3 w3 o3 => dn_same ?_)
      simp -dsimp only [mul2l (a := bs) (by omega), add64 (a := Cs.flatten.length + 2 * bs) (b := 2 * bs) (by omega), B.pv_some]
      have l3 := p3.length_eq
      rw [List.length_append] at l3
      have e3 : (Cs ++ [M']).flatten = Cs.flatten ++ M' := by simp
      refine hZ Bs.length _ _ (by simp; omega) ⟨Cs ++ [M'], Bs, rfl, ?_, ?_, fun B hB => hf B (by simp [hB]), ?_, ?_, ?_⟩
      · rw [e3, List.length_append]; rw [show Cs.flatten.length + M'.length = Cs.flatten.length + 2 * bs by omega]
      · intro B hB
        rcases List.mem_append.1 hB with k | k
        · exact hC B k
        · rw [List.mem_singleton.1 k]; exact ⟨by omega, w3⟩
      · have a1 := hap.2.1.1
        rw [List.pairwise_cons, List.pairwise_cons] at a1
        rw [List.append_assoc, List.pairwise_append]
        refine ⟨hap.1, ?_, ?_⟩
        · rw [List.singleton_append, List.pairwise_cons]
          refine ⟨fun D hD p hpM q hq => ?_, ?_⟩
          · rcases List.mem_append.1 (p3.mem_iff.1 hpM) with k | k
            · rcases List.mem_append.1 hD with kk | kk
              · exact a1.1 D (by simp [kk]) p k q hq
              · exact hap.2.1.2.2 B1 (by simp) D kk p k q hq
            · rcases List.mem_append.1 hD with kk | kk
              · exact a1.2.1 D kk p k q hq
              · exact hap.2.1.2.2 B2 (by simp) D kk p k q hq
          · rw [List.pairwise_append]
            exact ⟨a1.2.2, List.pairwise_singleton .., fun A hA D hD => hap.2.1.2.2 A (by simp [hA]) D hD⟩
        · intro A hA D hD
          rcases List.mem_append.1 hD with k | k
          · rw [List.mem_singleton.1 k]
            intro p hpA q hq
            rcases List.mem_append.1 (p3.mem_iff.1 hq) with kk | kk
            · exact hap.2.2 A hA B1 (by simp) p hpA q kk
            · exact hap.2.2 A hA B2 (by simp) p hpA q kk
          · refine hap.2.2 A hA D ?_
            rcases List.mem_append.1 k with kk | kk
            · simp [kk]
            · simp at kk; simp [kk]
      · rw [e3, List.append_assoc]
        refine List.Perm.trans (List.Perm.append_left _ ?_) hp
        rw [← List.append_assoc B1]
        exact List.Perm.append_right _ p3
      · rw [e3, List.append_assoc]; exact o3
  · simp only [decide_eq_false_iff_not] at hk
    refine hq hh (Bs.flatten ++ M) hp ?_ o
    match Bs, hf, hl with
    | [], _, _ => simpa using hMs
    | [B1], hf, hl =>
      have hB1 := hf B1 (by simp)
      simp at hl
      have : M = [] := List.eq_nil_of_length_eq_zero (by omega)
      subst this
      simpa using hB1.2
    | B1 :: B2 :: Bs, hf, hl =>
      simp only [List.length_cons, Nat.add_mul, Nat.one_mul] at hl
      omega
end
end Go.Ab

/- What is proved: slices.SortStableFunc gives the stable order, whatever the elements and the comparison. No conditions. -/
set_option linter.unusedVariables false
set_option linter.unusedSimpArgs false
namespace Go.Ab
variable {C : CSem} {N : Nat → Nat}
section
variable {E : ElOps} {T : Type} {cs : T → List AVal} {v : T → AVal} {c : T → T → Int} {h0 h : AHeap} {x f : AVal} {R : List (List AVal)} {Q : AVal → AHeap → Prop}

/-- The five functions of the library, by their numbers. -/
structure SortFns (C : CSem) (E : ElOps) (f1 f2 f3 f4 f5 : Nat) : Prop where
  s1 : ∀ (x v1 v2 v3 f : AVal) (h : AHeap) (Q : AVal → AHeap → Prop), slices_symMergeCmpFuncG.cps C E f1 f2 x v1 v2 v3 f h (dn Q) → C f1 [x, v1, v2, v3, f] h Q
  s2 : ∀ (x v1 v2 v3 f : AVal) (h : AHeap) (Q : AVal → AHeap → Prop), slices_rotateCmpFuncG.cps C E f3 x v1 v2 v3 f h (dn Q) → C f2 [x, v1, v2, v3, f] h Q
  s3 : ∀ (x v1 v2 v3 f : AVal) (h : AHeap) (Q : AVal → AHeap → Prop), slices_swapRangeCmpFuncG.cps C E x v1 v2 v3 f h (dn Q) → C f3 [x, v1, v2, v3, f] h Q
  s4 : ∀ (x v1 v2 f : AVal) (h : AHeap) (Q : AVal → AHeap → Prop), slices_insertionSortCmpFuncG.cps C E x v1 v2 f h (dn Q) → C f4 [x, v1, v2, f] h Q
  s5 : ∀ (x v1 f : AVal) (h : AHeap) (Q : AVal → AHeap → Prop), slices_stableCmpFuncG.cps C E f1 f4 x v1 f h (dn Q) → C f5 [x, v1, f] h Q

theorem stable_spec (S : SeqSpec E cs v) (W : Weak (lessC c)) {f1 f2 f3 f4 f5 : Nat} (F : SortFns C E f1 f2 f3 f4 f5) (hc : CmpSpec C v c f h0)
    {G0 : List (T × Nat)} {n : Nat} (hn : n = G0.length) (hlen : G0.length ≤ 100000000) (ht : G0.Pairwise fun a b => a.2 < b.2) (ho : Rw E (fun p : T × Nat => cs p.1) h0 h x G0 R)
    (hq : ∀ h' M', M'.Perm G0 → M'.Pairwise (lt' (lessC c)) → Rw E (fun p : T × Nat => cs p.1) h0 h' x M' R → Q (.tup []) h') :
    slices_stableCmpFuncG.cps C E f1 f4 x (.int .i64 (n : Int)) f h Q := by
  show LoopR (slices_stableCmpFuncG.l7 C E f1 f4 Q x (.int .i64 (n : Int)) f (.int .i64 ((20 : Nat) : Int))) [.int .i64 ((0 : Nat) : Int), .int .i64 ((20 : Nat) : Int)] h
  refine LoopR.intro (fun t vs hh => ∃ (Bs : List (List (T × Nat))) (M : List (T × Nat)), t = M.length ∧ vs = [.int .i64 ((Bs.flatten.length : Nat) : Int), .int .i64 ((Bs.flatten.length + 20 : Nat) : Int)] ∧ (∀ B ∈ Bs, B.length = 20 ∧ B.Pairwise (lt' (lessC c))) ∧
    M.Pairwise (fun a b => a.2 < b.2) ∧ (Bs ++ [M]).Pairwise Apt ∧ (Bs.flatten ++ M).Perm G0 ∧ Rw E (fun p : T × Nat => cs p.1) h0 hh x (Bs.flatten ++ M) R) G0.length ?_
    ⟨[], G0, rfl, by simp, by simp, ht, List.pairwise_singleton .., by simp, by simpa using ho⟩
  rintro Y t vs hh ⟨Bs, M, rfl, rfl, hf, hM, hap, hp, o⟩ hY
  have hl := hp.length_eq
  rw [List.length_append] at hl
  simp -dsimp only [slices_stableCmpFuncG.l7, slices_stableCmpFuncG.k6, leqN, B.pv_some]
  refine B.cond_bool (fun hk => ?_) (fun hk => ?_)
  · simp only [decide_eq_true_eq] at hk
    have t1 : (M.take 20).length = 20 := by simp; omega
    have eM := (List.take_append_drop 20 M).symm
    have o2 : Rw E (fun p : T × Nat => cs p.1) h0 hh x (Bs.flatten ++ (M.take 20 ++ M.drop 20)) R := by rw [← eM]; exact o
    have hM2 := hM
    rw [eM, List.pairwise_append] at hM2
    refine F.s4 _ _ _ _ _ _ (insertionSort_spec S W (P := Bs.flatten) (M := M.take 20) (U := M.drop 20) (by rw [← eM, List.length_append]; omega) hM2.1 hc rfl (by rw [t1]) o2 fun h2 M' p2 w2 o3 => dn_same ?_)
    have l2 := p2.length_eq
    rw [t1] at l2
    simp -dsimp only [add64 (a := Bs.flatten.length + 20) (b := 20) (by omega), B.pv_some]
    have e3 : (Bs ++ [M']).flatten = Bs.flatten ++ M' := by simp
    rw [List.pairwise_append] at hap
    refine hY (M.drop 20).length _ _ (by simp; omega) ⟨Bs ++ [M'], M.drop 20, rfl, ?_, ?_, hM2.2.1, ?_, ?_, ?_⟩
    · rw [e3, List.length_append, l2]
    · intro B hB
      rcases List.mem_append.1 hB with k | k
      · exact hf B k
      · rw [List.mem_singleton.1 k]; exact ⟨l2, w2⟩
    · rw [List.append_assoc, List.pairwise_append, List.singleton_append, List.pairwise_cons]
      refine ⟨hap.1, ⟨fun D hD p hp q hq => ?_, List.pairwise_singleton ..⟩, fun A hA D hD p hp q hq => ?_⟩
      · rw [List.mem_singleton.1 hD] at hq
        exact hM2.2.2 p (p2.mem_iff.1 hp) q hq
      · rcases List.mem_cons.1 hD with rfl | hD
        · exact hap.2.2 A hA M (by simp) p hp q (List.mem_of_mem_take (p2.mem_iff.1 hq))
        · rw [List.mem_singleton.1 hD] at hq
          exact hap.2.2 A hA M (by simp) p hp q (List.mem_of_mem_drop hq)
    · rw [e3, List.append_assoc]
      refine List.Perm.trans (List.Perm.append_left _ ?_) hp
      conv => rhs; rw [eM]
      exact List.Perm.append_right _ p2
    · rw [e3, List.append_assoc]; exact o3
  · simp only [decide_eq_false_iff_not] at hk
    refine F.s4 _ _ _ _ _ _ (insertionSort_spec S W (P := Bs.flatten) (M := M) (U := []) (by rw [List.append_nil, List.length_append]; omega) hM hc rfl (by omega) (by simpa using o) fun h2 M' p2 w2 o3 => dn_same ?_)
    have l2 := p2.length_eq
    rw [List.append_nil] at o3
    rw [List.pairwise_append] at hap
    refine mergeAll_spec S W hc F.s1 F.s2 F.s3 (by omega) (by omega) hn hlen hf (by omega) w2 ?_ ((List.Perm.append_left _ p2).trans hp) o3 hq
    rw [List.pairwise_append]
    refine ⟨hap.1, List.pairwise_singleton .., fun A hA D hD p hp q hq => ?_⟩
    rw [List.mem_singleton.1 hD] at hq
    exact hap.2.2 A hA M (by simp) p hp q (p2.mem_iff.1 hq)

theorem zipIdx_up {X : Type} (L : List X) : L.zipIdx.Pairwise fun a b => a.2 < b.2 := by
  rw [List.pairwise_iff_getElem]
  intro i j h1 h2 hij
  simp [List.getElem_zipIdx]
  omega

/-- slices.SortStableFunc. -/
theorem sortStable_spec (S : SeqSpec E cs v) (W : Weak (lessC c)) {f1 f2 f3 f4 f5 : Nat} (F : SortFns C E f1 f2 f3 f4 f5) (hc : CmpSpec C v c f h0)
    {L : List T} (hlen : L.length ≤ 100000000) (ho : Rw E cs h0 h x L R)
    (hq : ∀ h' L', StableSort (lessC c) L L' → Rw E cs h0 h' x L' R → Q (.tup []) h') :
    slices_SortStableFuncG.cps C E f5 x f h Q := by
  simp -dsimp only [slices_SortStableFuncG.cps, ho.lenE, B.pv_some]
  have e : (L.zipIdx.map fun p : T × Nat => cs p.1) = L.map cs := by
    have := congrArg (List.map cs) (List.zipIdx_map_fst 0 L)
    rw [List.map_map] at this
    exact this
  refine F.s5 _ _ _ _ _ (stable_spec (G0 := L.zipIdx) S W F hc (by simp) (by simpa using hlen) (zipIdx_up L) (by unfold Rw; rw [e]; exact ho) fun h' M' p w o => dn_same ?_)
  refine hq h' (M'.map (·.1)) ⟨M', rfl, p, w⟩ ?_
  unfold Rw at o ⊢
  rw [List.map_map]; exact o
end
end Go.Ab

/- What is proved: a list sorted one by one, each behind all that are not above it, stands in the stable order. No conditions. -/
set_option linter.unusedVariables false
set_option linter.unusedSimpArgs false
namespace Go.Ab
section
variable {T : Type} {c : T → T → Int}
/-- Where x goes, among the first n. -/
def posB (c : T → T → Int) (x : T) (out : List T) : Nat → Nat
  | 0 => 0
  | n + 1 => match out[n]? with
    | some o => if c x o < 0 then posB c x out n else n + 1
    | none => n + 1
def insB (c : T → T → Int) (out : List T) (x : T) : List T := out.take (posB c x out out.length) ++ x :: out.drop (posB c x out out.length)
def sortB (c : T → T → Int) (L : List T) : List T := L.foldl (insB c) []
theorem posB_le (x : T) (out : List T) : ∀ n, posB c x out n ≤ n
  | 0 => Nat.le_refl _
  | n + 1 => by
    unfold posB
    have := posB_le x out n
    split
    · split <;> omega
    · omega
theorem posB_above (x : T) (out : List T) : ∀ n, n ≤ out.length → ∀ i o, posB c x out n ≤ i → i < n → out[i]? = some o → c x o < 0
  | 0, _, i, o, _, h, _ => by omega
  | n + 1, hn, i, o, h1, h2, h3 => by
    unfold posB at h1
    rw [List.getElem?_eq_getElem (show n < out.length by omega)] at h1
    simp only at h1
    split at h1
    · rename_i hc
      by_cases e : i = n
      · subst e
        rw [List.getElem?_eq_getElem (show i < out.length by omega)] at h3
        cases h3; exact hc
      · exact posB_above x out n (by omega) i o h1 (by omega) h3
    · omega
theorem posB_last (x : T) (out : List T) : ∀ n, n ≤ out.length → posB c x out n = 0 ∨ ∃ o, out[posB c x out n - 1]? = some o ∧ ¬ c x o < 0
  | 0, _ => .inl rfl
  | n + 1, hn => by
    have hg := List.getElem?_eq_getElem (show n < out.length by omega)
    by_cases hc : c x out[n] < 0
    · have e : posB c x out (n + 1) = posB c x out n := by
        rw [posB, hg]; simp [hc]
      rw [e]; exact posB_last x out n (by omega)
    · have e : posB c x out (n + 1) = n + 1 := by
        rw [posB, hg]; simp [hc]
      rw [e]; exact .inr ⟨out[n], by rw [Nat.add_sub_cancel]; exact hg, hc⟩

theorem insB_step (W : Weak (lessC c)) {G : List (T × Nat)} {x : T} {n : Nat} (hs : G.Pairwise (lt' (lessC c))) (ht : ∀ p ∈ G, p.2 < n) :
    ∃ G' : List (T × Nat), G'.map (·.1) = insB c (G.map (·.1)) x ∧ G'.Perm (G ++ [(x, n)]) ∧ G'.Pairwise (lt' (lessC c)) := by
  generalize hk : posB c x (G.map (·.1)) (G.map (·.1)).length = k
  have hkl : k ≤ G.length := by have := posB_le (c := c) x (G.map (·.1)) (G.map (·.1)).length; rw [hk] at this; simpa using this
  refine ⟨G.take k ++ (x, n) :: G.drop k, ?_, ?_, ?_⟩
  · unfold insB; rw [hk]; simp
  · have h1 : (G.take k ++ (x, n) :: G.drop k).Perm ((x, n) :: (G.take k ++ G.drop k)) := List.perm_middle
    rw [List.take_append_drop] at h1
    exact h1.trans (List.perm_append_singleton _ _).symm
  · have hG := hs
    rw [← List.take_append_drop k G, List.pairwise_append] at hs
    rw [List.pairwise_append, List.pairwise_cons]
    have up : ∀ p ∈ G.drop k, lt' (lessC c) (x, n) p := fun p hp => by
      obtain ⟨i, h1, h2⟩ := mem_drop_get hp
      have hi := (List.getElem?_eq_some_iff.1 h2).1
      have := posB_above (c := c) x (G.map (·.1)) _ (Nat.le_refl _) i p.1 (by rw [hk]; exact h1) (by simpa using hi) (by rw [List.getElem?_map, h2]; rfl)
      exact .inl (by simpa [lessC] using this)
    have lo : ∀ p ∈ G.take k, lt' (lessC c) p (x, n) := fun p hp => by
      obtain ⟨i, h1, h2⟩ := mem_take_get hp
      rcases posB_last (c := c) x (G.map (·.1)) _ (Nat.le_refl _) with h0 | ⟨o, ho, hc⟩
      · rw [hk] at h0; omega
      · rw [hk, List.getElem?_map] at ho
        cases hq : G[k - 1]? with
        | none => rw [hq] at ho; cases ho
        | some q =>
          rw [hq] at ho; cases ho
          refine pw_low W hG (show i ≤ k - 1 by omega) h2 hq ?_
          exact (lt'_le (x := q) (y := (x, n)) W (ht q (List.mem_of_getElem? hq))).2 (by simpa [lessC] using hc)
    refine ⟨hs.1, ⟨up, hs.2.1⟩, fun p hp q hq => ?_⟩
    rcases List.mem_cons.1 hq with rfl | hq
    · exact lo p hp
    · exact hs.2.2 p hp q hq
theorem sortB_stable (W : Weak (lessC c)) (L : List T) : StableSort (lessC c) L (sortB c L) := by
  suffices h : ∀ k, k ≤ L.length → ∃ G : List (T × Nat), G.map (·.1) = (L.take k).foldl (insB c) [] ∧ G.Perm (L.zipIdx.take k) ∧ G.Pairwise (lt' (lessC c)) by
    have := h L.length (Nat.le_refl _)
    rw [List.take_length, List.take_of_length_le (by simp)] at this
    exact this
  intro k
  induction k with
  | zero => exact fun _ => ⟨[], rfl, by simp, .nil⟩
  | succ k ih =>
    intro hk
    obtain ⟨G, h1, h2, h3⟩ := ih (by omega)
    have hg : L.zipIdx.take (k + 1) = L.zipIdx.take k ++ [(L[k], k)] := by
      rw [List.take_add_one, List.getElem?_eq_getElem (by rw [List.length_zipIdx]; omega)]
      simp [List.getElem_zipIdx]
    have hl : L.take (k + 1) = L.take k ++ [L[k]] := by
      rw [List.take_add_one, List.getElem?_eq_getElem (show k < L.length by omega)]; rfl
    have ht : ∀ p ∈ G, p.2 < k := fun p hp => by
      obtain ⟨i, i1, i2⟩ := mem_take_get (h2.mem_iff.1 hp)
      obtain ⟨j1, j2⟩ := List.getElem?_eq_some_iff.1 i2
      rw [List.getElem_zipIdx] at j2
      rw [← j2]; simpa using i1
    obtain ⟨G', g1, g2, g3⟩ := insB_step W (x := L[k]) h3 ht
    refine ⟨G', ?_, ?_, g3⟩
    · rw [g1, hl, List.foldl_append, h1]; rfl
    · rw [hg]; exact g2.trans (List.Perm.append_right _ h2)
theorem stable_sortB (W : Weak (lessC c)) {L S : List T} (h : StableSort (lessC c) L S) : S = sortB c L := h.unique W (sortB_stable W L)
end
end Go.Ab

/- What is proved: contracts of lots' functions, the program's. No conditions. -/
set_option linter.unusedVariables false
set_option linter.unusedSimpArgs false
namespace Go.Ab
variable {C : CSem} {N : Nat → Nat}

def cmpInt (a b : Int) : Int := if a < b then -1 else if b < a then 1 else 0
def orInt (a b : Int) : Int := if a = 0 then b else a
def cmp_isNaN_int.Spec (C : CSem) (N : Nat → Nat) : Prop := ∀ (a : Int) (h : AHeap) (Q : AVal → AHeap → Prop), Q (.bool false) h → C (N 171) [.int .i64 a] h Q
theorem cmp_isNaN_int.spec (i : cmp_isNaN_int.Imp C N) : cmp_isNaN_int.Spec C N := by
  intro a h Q hq
  apply i
  simp -dsimp
  exact dn_same hq
def cmp_Compare_int.Spec (C : CSem) (N : Nat → Nat) : Prop := ∀ (a b : Int) (h : AHeap) (Q : AVal → AHeap → Prop), Q (.int .i64 (cmpInt a b)) h → C (N 157) [.int .i64 a, .int .i64 b] h Q
theorem cmp_Compare_int.spec (i : cmp_Compare_int.Imp C N) (s1 : cmp_isNaN_int.Spec C N) : cmp_Compare_int.Spec C N := by
  intro a b h Q hq
  apply i
  simp -dsimp
  refine s1 _ _ _ ?_
  refine s1 _ _ _ ?_
  simp -dsimp
  refine B.cond_bool (fun hb => ?_) (fun hb => ?_) <;> simp -dsimp at hb ⊢
  · rw [cmpInt, if_pos hb] at hq; exact dn_same hq
  · refine B.cond_bool (fun hc => ?_) (fun hc => ?_) <;> simp -dsimp at hc ⊢
    · rw [cmpInt, if_neg (by omega), if_pos hc] at hq; exact dn_same hq
    · rw [cmpInt, if_neg (by omega), if_neg (by omega)] at hq; exact dn_same hq
def cmp_Or_int.Spec (C : CSem) (N : Nat → Nat) : Prop := ∀ (x : AVal) (a b : Int) (R : List (List AVal)) (h : AHeap) (Q : AVal → AHeap → Prop), SlX h 1 x [[.int .i64 a], [.int .i64 b]] R → Q (.int .i64 (orInt a b)) h → C (N 158) [x] h Q
theorem cmp_Or_int.spec (i : cmp_Or_int.Imp C N) : cmp_Or_int.Spec C N := by
  intro x a b R h Q hx hq
  apply i
  have e1 := hx.lenSl
  have e2 : V.idxS 1 x (.int .i64 0) = some (elp 1 x 0 0) := hx.idxN (i := 0) (by simp)
  have e3 : V.idxS 1 x (.int .i64 1) = some (elp 1 x 1 0) := hx.idxN (i := 1) (by simp)
  have e4 := hx.cell (i := 0) (c := .int .i64 a) rfl
  have e5 := hx.cell (i := 1) (c := .int .i64 b) rfl
  have w1 : IntKind.i64.wrap 1 = 1 := wrap_i64 (by omega) (by omega)
  have w2 : IntKind.i64.wrap 2 = 2 := wrap_i64 (by omega) (by omega)
  simp -dsimp [e1]
  intro Y hY
  refine hY _ _ ?_
  simp -dsimp [e2, e4, w1]
  refine B.cond_bool (fun hb => ?_) (fun hb => ?_) <;> simp -dsimp at hb ⊢
  · rw [orInt, if_neg hb] at hq; exact dn_same hq
  · rw [orInt, if_pos hb] at hq
    refine hY _ _ ?_
    simp -dsimp [e3, e5, w1, w2]
    refine B.cond_bool (fun hc => ?_) (fun hc => ?_) <;> simp -dsimp at hc ⊢
    · exact dn_same hq
    · refine hY _ _ ?_
      simp -dsimp [w1, w2]
      rw [hc] at hq; exact dn_same hq

/-- A list of one's own out of another. -/
theorem clone_spec {E : ElOps} {X : Type} {cs : X → List AVal} {v : X → AVal} (S : SeqSpec E cs v) {x : AVal} {L : List X} {R : List (List AVal)} {h : AHeap} {Q : AVal → AHeap → Prop} (hx : SlX h E.es x (L.map cs) R) (hlen : L.length ≤ 100000000)
    (hq : ∀ x' h', Rw E cs h h' x' L [] → Q x' h') : slices_CloneG.cps C E x h Q := by
  have cp : B.appW h E.es E.bytes .sz x (fun v7 h => Q v7 h) := by
    have hm := Nat.mul_le_mul hlen S.small
    refine Owns.appW ((Owns.start h).sz E.es) 0 rfl hx S.pos (by simp; omega) (by simp [maxLen]; omega) fun x' h' h1 _ => hq x' h' ?_
    simpa [Rw] using h1
  rcases hx.2 with ⟨e1, e2, rfl | rfl⟩ | ⟨id, g, off, cp', b, hi, rfl, h3⟩
  · simp -dsimp [V.eqSl]
    refine hq _ _ ?_
    unfold Rw
    rw [e1]
    exact (Owns.start h).nils E.es
  · simp -dsimp [V.eqSl]
    exact cp
  · simp -dsimp [V.eqSl]
    rw [List.length_map] at cp
    exact cp
/-! What of a list a function keeps. -/
end Go.Ab

/- What is proved: contracts of lots' functions: what is over, what is an item's, what can be used; the document's order. No conditions. -/
set_option linter.unusedVariables false
set_option linter.unusedSimpArgs false
namespace Go.Ab
variable {C : CSem} {N : Nat → Nat}
/-! The document's order. -/
end Go.Ab

/- What is proved: contracts of the document's functions on lots. No conditions. -/
set_option linter.unusedVariables false
set_option linter.unusedSimpArgs false
namespace Go.Ab
variable {C : CSem} {N : Nat → Nat}
theorem take_one {X : Type} {L : List X} {k : Nat} (hb : k < L.length) : L.take (k + 1) = L.take k ++ [L[k]] := by rw [List.take_add_one, List.getElem?_eq_getElem hb]; rfl
end Go.Ab

/- What is proved: contract of the document's sort of lots. No conditions. -/
set_option linter.unusedVariables false
set_option linter.unusedSimpArgs false
namespace Go.Ab
variable {C : CSem} {N : Nat → Nat}
theorem posB_step {T : Type} {c : T → T → Int} {x o : T} {out : List T} {n : Nat} (h : out[n]? = some o) : posB c x out (n + 1) = if c x o < 0 then posB c x out n else n + 1 := by
  rw [posB, h]
end Go.Ab

/- What is proved: contracts of what the statements share about lists of plain things: marks, the same, lent, kept, written over, copied, apart. No conditions. Printed by a program of mine. -/
set_option linter.unusedVariables false
set_option linter.unusedSimpArgs false
set_option maxRecDepth 100000
namespace Go.Ab
variable {C : CSem} {N : Nat → Nat}

@[irreducible] def mark (k i : Int) : Int := IntKind.i64.wrap (IntKind.i64.wrap (1000003 * IntKind.i64.wrap (k + 7)) + i)
def kit_mark.Spec (C : CSem) (N : Nat → Nat) : Prop := ∀ (k i : Int) (h : AHeap) (Q : AVal → AHeap → Prop), Q (.int .i64 (mark k i)) h → C (N 20) [.int .i64 k, .int .i64 i] h Q
theorem kit_mark.spec (i : kit_mark.Imp C N) : kit_mark.Spec C N := by
  intro k j h Q hq
  apply i
  simp +contextual -dsimp
  unfold mark at hq
  exact dn_same hq

/-- A list of lists: x, of n, these xs; what they hold, and behind. -/
structure LL where
  x : AVal
  n : Nat
  xs : Nat → AVal
  D : Nat → List (List AVal)
  R : Nat → List (List AVal)
  W : List (List AVal)
def LL.obs (es : Nat) (t : LL) : List Ob := Objs es t.n t.xs t.D t.R
structure LL.ok (t : LL) (h0 : AHeap) : Prop where
  is : SlX h0 1 t.x (fills t.n fun j => [t.xs j]) t.W
  n_le : t.n ≤ 100000000
  len_le : ∀ j, j < t.n → (t.D j).length ≤ 100000000
def FlatSpec (C : CSem) (es g : Nat) : Prop := ∀ (t : LL) (h0 h : AHeap) (Q : AVal → AHeap → Prop), t.ok h0 → Owns h0 h (t.obs es) → (∀ h', h0.le h' → Q (.bool true) h') → C g [t.x] h Q
def FlatNil (C : CSem) (g : Nat) : Prop := ∀ (x : AVal) (W : List (List AVal)) (h0 h : AHeap) (Q : AVal → AHeap → Prop), SlX h0 1 x [] W → h0.le h → (∀ h', h0.le h' → Q (.bool true) h') → C g [x] h Q
theorem LoopR.once {F : List AVal → AHeap → (List AVal → AHeap → Prop) → Prop} {vs : List AVal} {h : AHeap} (hF : ∀ Y, F vs h Y) : LoopR F vs h := fun Y hY => hY vs h (hF Y)
theorem flatG_nil {E : ElOps} {x : AVal} {W : List (List AVal)} {h0 h : AHeap} {Q : AVal → AHeap → Prop} (hx : SlX h0 1 x [] W) (hle : h0.le h) (hq : ∀ h', h0.le h' → Q (.bool true) h') : flatG E C x h Q := by
  have hl := (hx.mono hle).lenSl
  refine LoopR.once fun Y1 => ?_
  simp -dsimp [hl]
  refine (Owns.start h).mks (bytes := 24) (es := 1) (n := 0) (c := 0) (z := [.nils]) rfl (by omega) (by omega) (by omega) (by omega) fun y h1 ho => ?_
  have hl1 := (hx.mono (AHeap.le_trans hle ho.le)).lenSl
  refine LoopR.once fun Y2 => ?_
  simp -dsimp [hl1]
  refine LoopR.once fun Y3 => ?_
  simp -dsimp [hl1]
  refine LoopR.once fun Y4 => ?_
  simp -dsimp [hl1]
  refine LoopR.once fun Y5 => ?_
  simp -dsimp [hl1]
  exact hq _ (AHeap.le_trans hle ho.le)


def markWindow (k i : Int) : Window := ⟨mark k i, 0⟩
def kit_markWindow.Spec (C : CSem) (N : Nat → Nat) : Prop := ∀ (k i : Int) (h : AHeap) (Q : AVal → AHeap → Prop), Q (.agg (markWindow k i).cs) h → C (N 18) [.int .i64 k, .int .i64 i] h Q
theorem kit_markWindow.spec (i : kit_markWindow.Imp C N) (s1 : kit_mark.Spec C N) : kit_markWindow.Spec C N := by
  intro k j h Q hq
  apply i
  simp +contextual -dsimp
  refine s1 _ _ _ _ ?_
  simp +contextual -dsimp
  exact dn_same hq
theorem kit_flatWindows.spec (i : kit_flatWindows.Imp C N) (s1 : kit_markWindow.Spec C N) : FlatSpec C 2 (N 85) := fun t h0 h Q ht ho hq =>
  i t.x h Q (flatG_spec (elF wF (bytes := 16) (z := [.int .i64 0, .int .i64 0]) rfl (by omega) s1) ht.is ho ht.n_le ht.len_le fun h' hle => dn_same (hq h' hle))

def markLot (k i : Int) : Lot := ⟨mark k i, [], 0, 0, 0, false⟩
def kit_markLot.Spec (C : CSem) (N : Nat → Nat) : Prop := ∀ (k i : Int) (h : AHeap) (Q : AVal → AHeap → Prop), Q (.agg (markLot k i).cs) h → C (N 77) [.int .i64 k, .int .i64 i] h Q
theorem kit_markLot.spec (i : kit_markLot.Imp C N) (s1 : kit_mark.Spec C N) : kit_markLot.Spec C N := by
  intro k j h Q hq
  apply i
  simp +contextual -dsimp
  refine s1 _ _ _ _ ?_
  simp +contextual -dsimp
  exact dn_same hq
abbrev marksLot : List (List AVal) := marks lotF (markLot 1) 12

def kit_SameLots.Spec (C : CSem) (N : Nat → Nat) : Prop := ∀ (x y : AVal) (L M : List Lot) (R S : List (List AVal)) (h : AHeap) (Q : AVal → AHeap → Prop), SlX h 6 x (L.map Lot.cs) R → SlX h 6 y (M.map Lot.cs) S → L.length < 4611686018427387904 →
  Q (.bool (decide (L = M))) h → C (N 74) [x, y] h Q
theorem kit_SameLots.spec (i : kit_SameLots.Imp C N) : kit_SameLots.Spec C N := fun x y L M R S h Q hx hy hlen hq =>
  i x y h Q (sameG_spec lotF hx hy hlen (dn_same hq))

theorem kit_flatLots.spec (i : kit_flatLots.Imp C N) (s1 : kit_markLot.Spec C N) : FlatSpec C 6 (N 86) := fun t h0 h Q ht ho hq =>
  i t.x h Q (flatG_spec (elF lotF (bytes := 56) (z := [.int .i64 0, .str [], .int .i64 0, .int .i64 0, .int .i64 0, .bool false]) rfl (by omega) s1) ht.is ho ht.n_le ht.len_le fun h' hle => dn_same (hq h' hle))

def markWant (k i : Int) : Want := ⟨[], mark k i, 0⟩
def kit_markWant.Spec (C : CSem) (N : Nat → Nat) : Prop := ∀ (k i : Int) (h : AHeap) (Q : AVal → AHeap → Prop), Q (.agg (markWant k i).cs) h → C (N 107) [.int .i64 k, .int .i64 i] h Q
theorem kit_markWant.spec (i : kit_markWant.Imp C N) (s1 : kit_mark.Spec C N) : kit_markWant.Spec C N := by
  intro k j h Q hq
  apply i
  simp +contextual -dsimp
  refine s1 _ _ _ _ ?_
  simp +contextual -dsimp
  exact dn_same hq
theorem kit_flatWants.spec (i : kit_flatWants.Imp C N) (s1 : kit_markWant.Spec C N) : FlatSpec C 3 (N 87) := fun t h0 h Q ht ho hq =>
  i t.x h Q (flatG_spec (elF wantF (bytes := 32) (z := [.str [], .int .i64 0, .int .i64 0]) rfl (by omega) s1) ht.is ho ht.n_le ht.len_le fun h' hle => dn_same (hq h' hle))

def markUse (k i : Int) : Use := ⟨0, mark k i, 0⟩
def kit_markUse.Spec (C : CSem) (N : Nat → Nat) : Prop := ∀ (k i : Int) (h : AHeap) (Q : AVal → AHeap → Prop), Q (.agg (markUse k i).cs) h → C (N 78) [.int .i64 k, .int .i64 i] h Q
theorem kit_markUse.spec (i : kit_markUse.Imp C N) (s1 : kit_mark.Spec C N) : kit_markUse.Spec C N := by
  intro k j h Q hq
  apply i
  simp +contextual -dsimp
  refine s1 _ _ _ _ ?_
  simp +contextual -dsimp
  exact dn_same hq
abbrev marksUse : List (List AVal) := marks useF (markUse 1) 12

def kit_SameUses.Spec (C : CSem) (N : Nat → Nat) : Prop := ∀ (x y : AVal) (L M : List Use) (R S : List (List AVal)) (h : AHeap) (Q : AVal → AHeap → Prop), SlX h 3 x (L.map Use.cs) R → SlX h 3 y (M.map Use.cs) S → L.length < 4611686018427387904 →
  Q (.bool (decide (L = M))) h → C (N 75) [x, y] h Q
theorem kit_SameUses.spec (i : kit_SameUses.Imp C N) : kit_SameUses.Spec C N := fun x y L M R S h Q hx hy hlen hq =>
  i x y h Q (sameG_spec useF hx hy hlen (dn_same hq))

theorem kit_flatUses.spec (i : kit_flatUses.Imp C N) (s1 : kit_markUse.Spec C N) : FlatSpec C 3 (N 88) := fun t h0 h Q ht ho hq =>
  i t.x h Q (flatG_spec (elF useF (bytes := 24) (z := [.int .i64 0, .int .i64 0, .int .i64 0]) rfl (by omega) s1) ht.is ho ht.n_le ht.len_le fun h' hle => dn_same (hq h' hle))

def markPart (k i : Int) : Part := ⟨[], mark k i⟩
def kit_markPart.Spec (C : CSem) (N : Nat → Nat) : Prop := ∀ (k i : Int) (h : AHeap) (Q : AVal → AHeap → Prop), Q (.agg (markPart k i).cs) h → C (N 108) [.int .i64 k, .int .i64 i] h Q
theorem kit_markPart.spec (i : kit_markPart.Imp C N) (s1 : kit_mark.Spec C N) : kit_markPart.Spec C N := by
  intro k j h Q hq
  apply i
  simp +contextual -dsimp
  refine s1 _ _ _ _ ?_
  simp +contextual -dsimp
  exact dn_same hq
theorem kit_flatParts.spec (i : kit_flatParts.Imp C N) (s1 : kit_markPart.Spec C N) : FlatSpec C 2 (N 89) := fun t h0 h Q ht ho hq =>
  i t.x h Q (flatG_spec (elF partF (bytes := 24) (z := [.str [], .int .i64 0]) rfl (by omega) s1) ht.is ho ht.n_le ht.len_le fun h' hle => dn_same (hq h' hle))

def markLine (k i : Int) : Line := ⟨mark k i, [], 0, 0, 0, 0, 0, []⟩
def kit_markLine.Spec (C : CSem) (N : Nat → Nat) : Prop := ∀ (k i : Int) (h : AHeap) (Q : AVal → AHeap → Prop), Q (.agg (markLine k i).cs) h → C (N 111) [.int .i64 k, .int .i64 i] h Q
theorem kit_markLine.spec (i : kit_markLine.Imp C N) (s1 : kit_mark.Spec C N) : kit_markLine.Spec C N := by
  intro k j h Q hq
  apply i
  simp +contextual -dsimp
  refine s1 _ _ _ _ ?_
  simp +contextual -dsimp
  exact dn_same hq
abbrev marksLine : List (List AVal) := marks lineF (markLine 1) 12

def kit_SameLines.Spec (C : CSem) (N : Nat → Nat) : Prop := ∀ (x y : AVal) (L M : List Line) (R S : List (List AVal)) (h : AHeap) (Q : AVal → AHeap → Prop), SlX h 8 x (L.map Line.cs) R → SlX h 8 y (M.map Line.cs) S → L.length < 4611686018427387904 →
  Q (.bool (decide (L = M))) h → C (N 135) [x, y] h Q
theorem kit_SameLines.spec (i : kit_SameLines.Imp C N) : kit_SameLines.Spec C N := fun x y L M R S h Q hx hy hlen hq =>
  i x y h Q (sameG_spec lineF hx hy hlen (dn_same hq))

def kit_LentLines.Spec (C : CSem) (N : Nat → Nat) : Prop := ∀ (x : AVal) (L : List Line) (R : List (List AVal)) (h : AHeap) (Q : AVal → AHeap → Prop), SlX h 8 x (L.map Line.cs) R → L.length ≤ 100000000 →
  (∀ x' h', Owns h h' [.sl 8 x' (L.map Line.cs) marksLine] → Q x' h') → C (N 186) [x] h Q
theorem kit_LentLines.spec (i : kit_LentLines.Imp C N) (s1 : kit_markLine.Spec C N) : kit_LentLines.Spec C N := fun x L R h Q hx hlen hq =>
  i x h Q (lentG_spec lineF (z := [.int .i64 0, .str [], .int .i64 0, .int .i64 0, .int .i64 0, .int .u8 0, .int .i64 0, .str []]) (m := 1) (mk := markLine 1) rfl (by omega) (s1 1) hx hlen fun x' h' ho => dn_same (hq x' h' ho))

def kit_KeptLines.Spec (C : CSem) (N : Nat → Nat) : Prop := ∀ (x y : AVal) (L M : List Line) (R : List (List AVal)) (h : AHeap) (Q : AVal → AHeap → Prop), SlX h 8 x (L.map Line.cs) marksLine → SlX h 8 y (M.map Line.cs) R → L.length ≤ 100000000 →
  Q (.bool (decide (L = M))) h → C (N 189) [x, y] h Q
theorem kit_KeptLines.spec (i : kit_KeptLines.Imp C N) (s1 : kit_markLine.Spec C N) : kit_KeptLines.Spec C N := fun x y L M R h Q hx hy hlen hq =>
  i x y h Q (keptG_spec lineF (m := 1) (mk := markLine 1) (s1 1) hx hy hlen (dn_same hq))

def kit_OverLines.Spec (C : CSem) (N : Nat → Nat) : Prop := ∀ (h0 h : AHeap) (x : AVal) (L R : List (List AVal)) (Q : AVal → AHeap → Prop), Owns h0 h [.sl 8 x L R] → R.length = 12 → L.length ≤ 100000000 → (∀ h', h0.le h' → Q (.tup []) h') → C (N 190) [x] h Q
theorem kit_OverLines.spec (i : kit_OverLines.Imp C N) (s1 : kit_markLine.Spec C N) : kit_OverLines.Spec C N := fun h0 h x L R Q ho hR hlen hq =>
  i x h Q (overG_spec (es := 8) (st := fun h p v K => B.stn h p 8 v K) (by omega) (v := fun i => .agg (markLine 2 i).cs) (s1 2) (fun {_ _ _ _ _ _ k _} ho hi hK => over_stN (xs := (markLine 2 k).cs) rfl ho hi hK) ho hR hlen fun h' hle => dn_same (hq h' hle))

theorem kit_flatLines.spec (i : kit_flatLines.Imp C N) (s1 : kit_markLine.Spec C N) : FlatSpec C 8 (N 91) := fun t h0 h Q ht ho hq =>
  i t.x h Q (flatG_spec (elF lineF (bytes := 80) (z := [.int .i64 0, .str [], .int .i64 0, .int .i64 0, .int .i64 0, .int .u8 0, .int .i64 0, .str []]) rfl (by omega) s1) ht.is ho ht.n_le ht.len_le fun h' hle => dn_same (hq h' hle))

@[irreducible] def markByte (k i : Int) : UInt8 := byt ((IntKind.u64.wrap (IntKind.u64.wrap (mark k i) * 11400714819323198485)).fdiv (2 ^ 56))
def kit_markByte.Spec (C : CSem) (N : Nat → Nat) : Prop := ∀ (k i : Int) (h : AHeap) (Q : AVal → AHeap → Prop), Q (.int .u8 ((markByte k i).toNat : Int)) h → C (N 64) [.int .i64 k, .int .i64 i] h Q
theorem kit_markByte.spec (i : kit_markByte.Imp C N) (s1 : kit_mark.Spec C N) : kit_markByte.Spec C N := by
  intro k j h Q hq
  apply i
  simp +contextual -dsimp
  refine s1 _ _ _ _ ?_
  unfold markByte at hq
  simp +contextual -dsimp [bin_shr (k := .u64) (j := .u64) (b := 56) (by omega) (by simp [IntKind.bits]), u8_byt]
  exact dn_same hq
@[irreducible] def markText (k i : Int) : List UInt8 := [35, byt k, byt (k.fdiv 256), byt (k.fdiv 65536), 47, byt i, byt (i.fdiv 256), byt (i.fdiv 65536)]
def kit_markText.Spec (C : CSem) (N : Nat → Nat) : Prop := ∀ (k i : Int) (h : AHeap) (Q : AVal → AHeap → Prop), Q (.str (markText k i)) h → C (N 106) [.int .i64 k, .int .i64 i] h Q
theorem kit_markText.spec (i : kit_markText.Imp C N) : kit_markText.Spec C N := by
  intro k j h Q hq
  apply i
  simp +contextual -dsimp [bin_shr (k := .i64) (j := .u64) (b := 8) (by omega) (by simp [IntKind.bits]), bin_shr (k := .i64) (j := .u64) (b := 16) (by omega) (by simp [IntKind.bits]), u8_byt]
  intro id hid
  unfold markText at hq
  have hx : SlX (upd h id (blkOf [.int .u8 35, .int .u8 ((byt k).toNat : Int), .int .u8 ((byt (k.fdiv 256)).toNat : Int), .int .u8 ((byt (k.fdiv 65536)).toNat : Int), .int .u8 47, .int .u8 ((byt j).toNat : Int), .int .u8 ((byt (j.fdiv 256)).toNat : Int), .int .u8 ((byt (j.fdiv 65536)).toNat : Int)])) 1 (.sl id 0 0 8 1 8) (([35, byt k, byt (k.fdiv 256), byt (k.fdiv 65536), 47, byt j, byt (j.fdiv 256), byt (j.fdiv 65536)] : List UInt8).map bc) [] :=
    SlX.lit (upd_same ..) (by simp) rfl (by simp) rfl
  rw [bytesStr_bc hx]
  exact dn_le (le_upd _ hid) hq
theorem kit_flatBytes.spec (i : kit_flatBytes.Imp C N) (s1 : kit_markByte.Spec C N) : FlatSpec C 1 (N 84) := fun t h0 h Q ht ho hq =>
  i t.x h Q (flatG_spec (elS (bytes := 1) (z := .int .u8 0) (mv := fun k i => .int .u8 ((markByte k i).toNat : Int)) (fun _ _ => rfl) (fun _ _ => by rw [V.bin_eql]; simp) (by omega) s1) ht.is ho ht.n_le ht.len_le fun h' hle => dn_same (hq h' hle))

theorem kit_flatTexts.spec (i : kit_flatTexts.Imp C N) (s1 : kit_markText.Spec C N) : FlatSpec C 1 (N 83) := fun t h0 h Q ht ho hq =>
  i t.x h Q (flatG_spec (elS (bytes := 16) (z := .str []) (mv := fun k i => .str (markText k i)) (fun _ _ => rfl) (fun _ _ => by rw [V.bin_seql]; simp) (by omega) s1) ht.is ho ht.n_le ht.len_le fun h' hle => dn_same (hq h' hle))

theorem kit_flatInts.nil (i : kit_flatInts.Imp C N) : FlatNil C (N 81) := fun x W h0 h Q hx hle hq => i x h Q (flatG_nil hx hle fun h' hle => dn_same (hq h' hle))

theorem kit_flatItems.nil (i : kit_flatItems.Imp C N) : FlatNil C (N 90) := fun x W h0 h Q hx hle hq => i x h Q (flatG_nil hx hle fun h' hle => dn_same (hq h' hle))

theorem kit_flatAsks.nil (i : kit_flatAsks.Imp C N) : FlatNil C (N 92) := fun x W h0 h Q hx hle hq => i x h Q (flatG_nil hx hle fun h' hle => dn_same (hq h' hle))

theorem kit_flatStates.nil (i : kit_flatStates.Imp C N) : FlatNil C (N 94) := fun x W h0 h Q hx hle hq => i x h Q (flatG_nil hx hle fun h' hle => dn_same (hq h' hle))

theorem kit_flatRows.nil (i : kit_flatRows.Imp C N) : FlatNil C (N 95) := fun x W h0 h Q hx hle hq => i x h Q (flatG_nil hx hle fun h' hle => dn_same (hq h' hle))

theorem kit_flatTurns.nil (i : kit_flatTurns.Imp C N) : FlatNil C (N 96) := fun x W h0 h Q hx hle hq => i x h Q (flatG_nil hx hle fun h' hle => dn_same (hq h' hle))

theorem kit_flatFates.nil (i : kit_flatFates.Imp C N) : FlatNil C (N 97) := fun x W h0 h Q hx hle hq => i x h Q (flatG_nil hx hle fun h' hle => dn_same (hq h' hle))

theorem kit_flatDirties.nil (i : kit_flatDirties.Imp C N) : FlatNil C (N 98) := fun x W h0 h Q hx hle hq => i x h Q (flatG_nil hx hle fun h' hle => dn_same (hq h' hle))

theorem kit_flatOpens.nil (i : kit_flatOpens.Imp C N) : FlatNil C (N 99) := fun x W h0 h Q hx hle hq => i x h Q (flatG_nil hx hle fun h' hle => dn_same (hq h' hle))

theorem kit_flatRecords.nil (i : kit_flatRecords.Imp C N) : FlatNil C (N 100) := fun x W h0 h Q hx hle hq => i x h Q (flatG_nil hx hle fun h' hle => dn_same (hq h' hle))

theorem kit_flatSteps.nil (i : kit_flatSteps.Imp C N) : FlatNil C (N 101) := fun x W h0 h Q hx hle hq => i x h Q (flatG_nil hx hle fun h' hle => dn_same (hq h' hle))

theorem kit_flatTales.nil (i : kit_flatTales.Imp C N) : FlatNil C (N 102) := fun x W h0 h Q hx hle hq => i x h Q (flatG_nil hx hle fun h' hle => dn_same (hq h' hle))

theorem kit_flatWords.nil (i : kit_flatWords.Imp C N) : FlatNil C (N 80) := by
  intro x W h0 h Q hx hle hq
  apply i
  have hl := (hx.mono hle).lenSl
  refine LoopR.once fun Y1 => ?_
  simp -dsimp [hl]
  refine (Owns.start h).mks (bytes := 24) (es := 1) (n := 0) (c := 0) (z := [.nils]) rfl (by omega) (by omega) (by omega) (by omega) fun y h1 ho => ?_
  have hl1 := (hx.mono (AHeap.le_trans hle ho.le)).lenSl
  refine LoopR.once fun Y2 => ?_
  simp -dsimp [hl1]
  refine LoopR.once fun Y3 => ?_
  simp -dsimp [hl1]
  refine LoopR.once fun Y4 => ?_
  simp -dsimp [hl1]
  refine LoopR.once fun Y5 => ?_
  simp -dsimp [hl1]
  exact dn_same (hq _ (AHeap.le_trans hle ho.le))

theorem kit_flatLongs.nil (i : kit_flatLongs.Imp C N) : FlatNil C (N 82) := by
  intro x W h0 h Q hx hle hq
  apply i
  have hl := (hx.mono hle).lenSl
  refine LoopR.once fun Y1 => ?_
  simp -dsimp [hl]
  refine (Owns.start h).mks (bytes := 24) (es := 1) (n := 0) (c := 0) (z := [.nils]) rfl (by omega) (by omega) (by omega) (by omega) fun y h1 ho => ?_
  have hl1 := (hx.mono (AHeap.le_trans hle ho.le)).lenSl
  refine LoopR.once fun Y2 => ?_
  simp -dsimp [hl1]
  refine LoopR.once fun Y3 => ?_
  simp -dsimp [hl1]
  refine LoopR.once fun Y4 => ?_
  simp -dsimp [hl1]
  refine LoopR.once fun Y5 => ?_
  simp -dsimp [hl1]
  exact dn_same (hq _ (AHeap.le_trans hle ho.le))
end Go.Ab

/- What is told: residuals: what each function does in the abstract memory, printed by a program of mine. Definitions alone. -/
set_option linter.unusedVariables false
namespace Go.Ab
end Go.Ab

/- What is proved: contracts of the fourth chapter's statements' functions. No conditions. -/
set_option linter.unusedVariables false
set_option linter.unusedSimpArgs false
namespace Go.Ab
variable {C : CSem} {N : Nat → Nat}
end Go.Ab

/- What is proved: contracts of the fourth chapter's statements' functions: what is sorted. No conditions. -/
set_option linter.unusedVariables false
set_option linter.unusedSimpArgs false
namespace Go.Ab
variable {C : CSem} {N : Nat → Nat}
theorem stable_self {T : Type} {c : T → T → Int} (W : Weak (lessC c)) {S : List T} (h : S.Pairwise fun a b => lessC c b a = false) : sortB c S = S := by
  refine (sortB_stable W S).unique W ⟨S.zipIdx, by simp, List.Perm.refl _, ?_⟩
  rw [List.pairwise_iff_getElem] at h ⊢
  intro i j h1 h2 hij
  rw [List.length_zipIdx] at h1 h2
  simp only [List.getElem_zipIdx]
  exact .inr ⟨h i j h1 h2 hij, by simpa using hij⟩
theorem w64_1 : IntKind.i64.wrap 1 = 1 := wrap_i64 (by omega) (by omega)
end Go.Ab

/- What is proved: clear of a slice's end. No conditions. -/
set_option linter.unusedVariables false
namespace Go.Ab
theorem flat_take {α : Type} {n : Nat} : ∀ {css : List (List α)}, (∀ cs ∈ css, cs.length = n) → ∀ k : Nat, (css.take k).flatten = css.flatten.take (k * n)
  | [], _, k => by simp
  | c :: css, hl, 0 => by simp
  | c :: css, hl, k + 1 => by
    have hc : c.length = n := hl c (by simp)
    rw [List.take_succ_cons, List.flatten_cons, List.flatten_cons, flat_take (fun p hp => hl p (by simp [hp])) k, Nat.add_mul, Nat.one_mul, show k * n + n = c.length + k * n by omega, List.take_length_add_append]
theorem flat_drop {α : Type} {n : Nat} : ∀ {css : List (List α)}, (∀ cs ∈ css, cs.length = n) → ∀ k : Nat, (css.drop k).flatten = css.flatten.drop (k * n)
  | [], _, k => by simp
  | c :: css, hl, 0 => by simp
  | c :: css, hl, k + 1 => by
    have hc : c.length = n := hl c (by simp)
    rw [List.drop_succ_cons, List.flatten_cons, flat_drop (fun p hp => hl p (by simp [hp])) k, Nat.add_mul, Nat.one_mul, show k * n + n = c.length + k * n by omega, List.drop_length_add_append]
/-- Cells laid over a part of a row of cells. -/
theorem lay_read {cells Z F : List AVal} {off lo T : Nat} (h5 : (cells.drop off).take T = F) (hF : F.length = T) (hh : off + T ≤ cells.length) (hz : lo + Z.length ≤ T) :
    ((cells.take (off + lo) ++ Z ++ cells.drop (off + lo + Z.length)).drop off).take T = F.take lo ++ Z ++ F.drop (lo + Z.length) := by
  subst h5
  apply List.ext_getElem?
  intro k
  by_cases hk : k < T
  · rw [List.getElem?_take_of_lt hk, List.getElem?_drop, List.append_assoc, List.append_assoc]
    have l1 : (cells.take (off + lo)).length = off + lo := by simp; omega
    have l2 : (((cells.drop off).take T).take lo).length = lo := by simp; omega
    rw [get_splice _ _ _ l1, get_splice _ _ _ l2, show off + k - (off + lo) = k - lo by omega]
    by_cases k1 : k < lo
    · rw [if_pos (by omega), if_pos k1, List.getElem?_take_of_lt (by omega), List.getElem?_take_of_lt (by omega), List.getElem?_take_of_lt (by omega), List.getElem?_drop]
    · rw [if_neg (by omega), if_neg k1]
      split
      · rfl
      · rw [List.getElem?_drop, List.getElem?_drop, List.getElem?_take_of_lt (by omega), List.getElem?_drop]
        congr 1
        omega
  · rw [List.getElem?_take_eq_none (by omega), List.getElem?_eq_none]
    simp
    omega
section
variable {h h0 : AHeap} {es : Nat} {x : AVal} {L R : List (List AVal)} {l : List Ob}
theorem SlX.clrTail {lo : Nat} {z : List AVal} {K : AVal → AHeap → Prop} (ho : SlX h es x L R) (hown : ∀ id b, foot x = some id → h id = some b → b.own = true) (hz : z.length = es) (hlo : lo ≤ L.length)
    (hk : ∀ h', SlX h' es x (L.take lo ++ List.replicate (L.length - lo) z) R → (∀ id b, foot x = some id → h' id = some b → b.own = true) → But x h h' → K (.tup []) h') :
    ∃ y, V.cutSl es x (some (.int .i64 (lo : Int))) none = some y ∧ A.clr h (some z) y K := by
  rcases ho.at_ with ⟨e, e', e''⟩ | ⟨id, g, off, cp, b, hi, h1, h1', h2, h3, h4, hh, h5⟩
  · subst e e'
    have : lo = 0 := by simpa using hlo
    subst this
    refine ⟨x, ?_, ?_⟩
    · rcases e'' with rfl | rfl <;> rfl
    · have := hk h (by simpa using ho) hown (fun _ _ h _ => h)
      rcases e'' with rfl | rfl <;> exact this
  · subst h1
    refine ⟨.sl id g (off + lo * es) (L.length - lo) es (cp - lo), ?_, ?_⟩
    · simp only [V.cutSl, endsC_eq (.inr ⟨_, rfl⟩) (.inl ⟨rfl, rfl⟩)]
      rw [if_pos ⟨hlo, by omega⟩]
      simp
    · simp only [A.clr]
      split
      · rename_i h0
        refine hk h ?_ hown (fun _ _ h _ => h)
        rw [h0, List.take_of_length_le (by omega)]
        simpa using ho
      · rename_i hne
        have hown' := hown id b rfl h2
        generalize hZ : (List.replicate (L.length - lo) z).flatten = Z
        have hzl : Z.length = (L.length - lo) * es := by rw [← hZ]; simp [hz]
        have hTl : (L ++ R).length = L.length + R.length := by simp
        have hmul : lo * es + (L.length - lo) * es = L.length * es := by rw [← Nat.add_mul]; congr 1; omega
        have hmul2 : L.length * es + R.length * es = (L.length + R.length) * es := by rw [← Nat.add_mul]
        have hbl : Nat.ble (0 + (off + lo * es) + (L.length - lo) * es) hi = true := by rw [Nat.ble_eq]; omega
        have hput : V.putN (off + lo * es) ((L.length - lo) * es) (.agg Z) b.cells = some (b.cells.take (off + lo * es) ++ Z ++ b.cells.drop (off + lo * es + (L.length - lo) * es)) := by
          simp only [V.putN]; rw [if_pos ⟨hzl, by omega⟩]
        simp only [A.stv, h2, h3, hown', hbl, Bool.true_and, cond_true, hput, A.ph]
        have rd := lay_read (cells := b.cells) (Z := Z) (off := off) (lo := lo * es) h5 (by rw [flat_len ho.len, hTl]) (by omega) (by rw [hzl]; omega)
        have hnew : (L.take lo ++ List.replicate (L.length - lo) z ++ R).flatten = (L ++ R).flatten.take (lo * es) ++ Z ++ (L ++ R).flatten.drop (lo * es + Z.length) := by
          rw [List.flatten_append, List.flatten_append, hZ, hzl, hmul, ← flat_take ho.len, ← flat_drop ho.len, List.take_append_of_le_length hlo, List.drop_left]
        rw [← hnew, hzl] at rd
        have hll : (L.take lo ++ List.replicate (L.length - lo) z).length = L.length := by simp; omega
        have hlen' : ∀ p ∈ L.take lo ++ List.replicate (L.length - lo) z ++ R, p.length = es := fun p hp => by
          rcases List.mem_append.1 hp with hp | hp
          · rcases List.mem_append.1 hp with hp | hp
            · exact ho.len p (List.mem_append_left _ (List.mem_of_mem_take hp))
            · rw [(List.mem_replicate.1 hp).2]; exact hz
          · exact ho.len p (List.mem_append_right _ hp)
        refine hk _ ⟨hlen', .inr ⟨id, g, off, cp, _, hi, by rw [hll], by rw [hll]; exact h1', upd_same .., lookup_self .., by rw [hll]; exact h4, ?_, by simp only; rw [hll]; exact rd⟩⟩ (fun j b1 hj hb1 => ?_) (fun j b1 e1 e2 => ?_)
        · simp; omega
        · cases hj
          rw [upd_same] at hb1; cases hb1; rfl
        · rw [upd_other]
          · exact e1
          · intro e; subst e; exact e2 rfl
theorem Owns.clrTail {lo : Nat} {z : List AVal} {K : AVal → AHeap → Prop} (ho : Owns h0 h l) (k : Nat) (hk : l[k]? = some (.sl es x L R)) (hz : z.length = es) (hlo : lo ≤ L.length)
    (hK : ∀ h', Owns h0 h' (l.set k (.sl es x (L.take lo ++ List.replicate (L.length - lo) z) R)) → But x h h' → K (.tup []) h') :
    ∃ y, V.cutSl es x (some (.int .i64 (lo : Int))) none = some y ∧ A.clr h (some z) y K :=
  (ho.slAt k hk).clrTail (ho.ownAt k hk) hz hlo fun h' h1 h2 h3 => hK h' (ho.turn k hk h1 h2 h3 (.inl rfl)) h3
/-- x[:k:k]. -/
theorem SlX.cut3 (hs : SlX h es x L R) {k : Nat} {j1 j2 j3 : IntKind} (hk : k ≤ L.length) :
    ∃ x', V.cut3 es x (.int j1 0) (.int j2 (k : Int)) (.int j3 (k : Int)) = some x' ∧ SlX h es x' (L.take k) [] ∧ foot x' = foot x := by
  rcases hs.at_ with ⟨e, e', e''⟩ | ⟨id, g, off, cp, bk, hh, k1, k1', k2, k3, k4, k5, k6⟩
  · subst e e'
    simp only [List.length_nil, Nat.le_zero_eq] at hk
    subst hk
    rcases e'' with rfl | rfl
    · exact ⟨.nils, rfl, ⟨by simp, .inl ⟨rfl, rfl, .inl rfl⟩⟩, rfl⟩
    · exact ⟨.sz, rfl, ⟨by simp, .inl ⟨rfl, rfl, .inr rfl⟩⟩, rfl⟩
  · subst k1
    refine ⟨.sl id g off k es k, ?_, ⟨fun p hp => hs.len p (List.mem_append_left _ (List.mem_of_mem_take (by simpa using hp))), .inr ⟨id, g, off, k, bk, hh, ?_, ?_, k2, k3, ?_, k5, ?_⟩⟩, rfl⟩
    · have h1 : (0 : Int) ≤ (k : Int) := by omega
      simp only [V.cut3, V.asNat, Int.le_refl, if_true, h1, Int.toNat_natCast, show (0 : Int).toNat = 0 from rfl]
      rw [if_pos ⟨by omega, Nat.le_refl _, by omega, trivial⟩]
      simp
    · simp; omega
    · simp; omega
    · have : k * es ≤ (L.length + R.length) * es := Nat.mul_le_mul_right _ (by omega)
      simp only [List.length_take, List.length_nil, Nat.min_eq_left hk, Nat.add_zero]
      omega
    · have : k * es ≤ (L.length + R.length) * es := Nat.mul_le_mul_right _ (by omega)
      simp only [List.length_take, List.length_nil, Nat.min_eq_left hk, Nat.add_zero, List.append_nil]
      have e1 : (L.take k).flatten = (L ++ R).flatten.take (k * es) := by
        rw [← flat_take hs.len, List.take_append_of_le_length hk]
      rw [e1, ← k6, List.take_take, Nat.min_eq_left this]
end
end Go.Ab

/- What is proved: contracts of lines' functions: right, ahead, those that are open. No conditions. -/
set_option linter.unusedVariables false
set_option linter.unusedSimpArgs false
namespace Go.Ab
variable {C : CSem} {N : Nat → Nat}
def lineRight (l : Line) : Bool :=
  decide (0 < l.Id) && codeRight l.Item && decide (0 < l.Qty ∧ l.Qty ≤ 1073741824 ∧ 0 ≤ l.Asked ∧ l.Asked ≤ 4000 ∧ 0 ≤ l.Rank ∧ l.Rank ≤ 99 ∧ (1 : Int) ≤ l.State.toNat ∧ (l.State.toNat : Int) ≤ 3) &&
  bif decide (l.Day = -1) then decide (l.Code = []) && !decide ((l.State.toNat : Int) = 2) else decide (0 ≤ l.Day ∧ l.Day ≤ 4000) && codeRight l.Code && !decide ((l.State.toNat : Int) = 3)
def rank_Right.Spec (C : CSem) (N : Nat → Nat) : Prop := ∀ (l : Line) (h : AHeap) (Q : AVal → AHeap → Prop), Q (.bool (lineRight l)) h → C (N 179) [.agg l.cs] h Q
theorem rank_Right.spec (i : rank_Right.Imp C N) (s1 : code_Right.Spec C N) : rank_Right.Spec C N := by
  intro l h Q hq
  apply i
  have e : ∀ b, lineRight l = b → dn Q (.bool b) h := fun b hb => by rw [← hb]; exact dn_same hq
  simp +contextual -dsimp
  refine B.gdb_call (fun _ _ hq => s1 _ _ _ hq) ?_
  simp +contextual -dsimp
  refine B.cond_bool (fun h1 => ?_) (fun h1 => ?_)
  · refine e _ ?_
    simp at h1
    unfold lineRight
    cases hc : codeRight l.Item
    · simp
    · simp [hc] at h1 ⊢; omega
  simp +contextual -dsimp
  refine B.cond_bool (fun h2 => ?_) (fun h2 => ?_)
  · refine e _ ?_
    simp at h2
    unfold lineRight
    simp; omega
  simp +contextual -dsimp
  have e2 : ∀ b, (bif decide (l.Day = -1) then decide (l.Code = []) && !decide ((l.State.toNat : Int) = 2) else decide (0 ≤ l.Day ∧ l.Day ≤ 4000) && codeRight l.Code && !decide ((l.State.toNat : Int) = 3)) = b → dn Q (.bool b) h := fun b hb => by
    refine e _ ?_
    rw [← hb]
    unfold lineRight
    simp at h1 h2
    cases hc : codeRight l.Item
    · simp [hc] at h1
    · simp [hc] at h1 ⊢
      intro
      omega
  refine B.cond_bool (fun h3 => ?_) (fun h3 => ?_)
  · simp +contextual -dsimp
    refine e2 _ ?_
    rw [h3]; simp
  · have h3' : decide (l.Day = -1) = false := h3
    simp +contextual -dsimp
    refine B.gdb_call (fun _ _ hq => s1 _ _ _ hq) ?_
    simp +contextual -dsimp
    refine e2 _ ?_
    rw [h3']
    simp [Bool.decide_and, Bool.and_assoc]
def ref09_Right.Spec (C : CSem) (N : Nat → Nat) : Prop := ∀ (l : Line) (h : AHeap) (Q : AVal → AHeap → Prop), Q (.bool (lineRight l)) h → C (N 180) [.agg l.cs] h Q
theorem ref09_Right.spec (i : ref09_Right.Imp C N) (s1 : ref03_Right.Spec C N) : ref09_Right.Spec C N := by
  intro l h Q hq
  apply i
  have e : ∀ b, lineRight l = b → dn Q (.bool b) h := fun b hb => by rw [← hb]; exact dn_same hq
  simp +contextual -dsimp
  refine B.gdb_call (fun _ _ hq => s1 _ _ _ hq) ?_
  simp +contextual -dsimp
  refine B.cond_bool (fun h1 => ?_) (fun h1 => ?_)
  · refine e _ ?_
    simp at h1
    unfold lineRight
    cases hc : codeRight l.Item
    · simp
    · simp [hc] at h1 ⊢; omega
  simp +contextual -dsimp
  refine B.gdb_call (fun _ _ hq => s1 _ _ _ hq) ?_
  simp +contextual -dsimp
  have e2 : ∀ b, (decide ((1 : Int) ≤ l.State.toNat ∧ (l.State.toNat : Int) ≤ 3) && bif decide (l.Day = -1) then decide (l.Code = []) && !decide ((l.State.toNat : Int) = 2) else decide (0 ≤ l.Day ∧ l.Day ≤ 4000) && codeRight l.Code && !decide ((l.State.toNat : Int) = 3)) = b → dn Q (.bool b) h := fun b hb => by
    refine e _ ?_
    rw [← hb]
    unfold lineRight
    simp at h1
    cases hc : codeRight l.Item
    · simp [hc] at h1
    · simp [hc] at h1
      have a1 : decide (0 < l.Id) = true := by rw [decide_eq_true_eq]; omega
      have a3 : decide (0 < l.Qty ∧ l.Qty ≤ 1073741824 ∧ 0 ≤ l.Asked ∧ l.Asked ≤ 4000 ∧ 0 ≤ l.Rank ∧ l.Rank ≤ 99 ∧ (1 : Int) ≤ l.State.toNat ∧ (l.State.toNat : Int) ≤ 3) = decide ((1 : Int) ≤ l.State.toNat ∧ (l.State.toNat : Int) ≤ 3) := by
        rw [decide_eq_decide]; omega
      rw [a1, a3]; rfl
  have cn : l.Code = [] → codeRight l.Code = false := fun e => by rw [e]; rfl
  refine B.cond_bool (fun h3 => ?_) (fun h3 => ?_)
  · simp +contextual -dsimp
    refine e2 _ ?_
    simp at h3
    by_cases hd : l.Day = -1 <;> by_cases hc : l.Code = [] <;> simp [h3, hd, hc, cn, Bool.decide_and]
  simp +contextual -dsimp
  simp at h3
  refine B.cond_bool (fun h4 => ?_) (fun h4 => ?_)
  · simp +contextual -dsimp
    refine e2 _ ?_
    simp at h4
    by_cases hd : l.Day = -1 <;> by_cases hc : l.Code = [] <;> simp [h4, hd, hc, cn, Bool.decide_and]
  simp +contextual -dsimp
  simp at h4
  refine B.cond_bool (fun h5 => ?_) (fun h5 => ?_)
  · simp +contextual -dsimp
    refine e2 _ ?_
    simp at h5
    by_cases hd : l.Day = -1 <;> by_cases hc : l.Code = [] <;> simp [h5, hd, hc, cn, Bool.decide_and]
  · simp at h5
    refine e2 _ ?_
    have : decide ((1 : Int) ≤ l.State.toNat ∧ (l.State.toNat : Int) ≤ 3) = false := by rw [decide_eq_false_iff_not]; omega
    rw [this]; rfl
def lineCmp (a b : Line) : Int := orInt (cmpInt a.Rank b.Rank) (cmpInt a.Id b.Id)
def rank_Compare.Spec (C : CSem) (N : Nat → Nat) : Prop := ∀ (a b : Line) (h : AHeap) (Q : AVal → AHeap → Prop), Q (.int .i64 (lineCmp a b)) h → C (N 181) [.agg a.cs, .agg b.cs] h Q
theorem rank_Compare.spec (i : rank_Compare.Imp C N) (s1 : cmp_Compare_int.Spec C N) (s2 : cmp_Or_int.Spec C N) : rank_Compare.Spec C N := by
  intro a b h Q hq
  apply i
  simp -dsimp
  refine s1 _ _ _ _ ?_
  refine s1 _ _ _ _ ?_
  simp -dsimp [repL]
  intro id hid
  refine s2 _ _ _ [] _ _ (SlX.lit (upd_same ..) (by simp) rfl (by simp) rfl) ?_
  exact dn_le (le_upd _ hid) hq
def ref09_Compare.Spec (C : CSem) (N : Nat → Nat) : Prop := ∀ (a b : Line) (h : AHeap) (Q : AVal → AHeap → Prop), Q (.int .i64 (lineCmp a b)) h → C (N 182) [.agg a.cs, .agg b.cs] h Q
theorem ref09_Compare.spec (i : ref09_Compare.Imp C N) : ref09_Compare.Spec C N := by
  intro a b h Q hq
  apply i
  simp -dsimp
  have e : ∀ n : Int, lineCmp a b = n → dn Q (.int .i64 n) h := fun n hn => by rw [← hn]; exact dn_same hq
  refine B.cond_bool (fun h1 => ?_) (fun h1 => ?_) <;> simp -dsimp at h1 ⊢
  · exact e _ (by unfold lineCmp orInt cmpInt; repeat' split; all_goals omega)
  · refine B.cond_bool (fun h2 => ?_) (fun h2 => ?_) <;> simp -dsimp at h2 ⊢
    · exact e _ (by unfold lineCmp orInt cmpInt; repeat' split; all_goals omega)
    · refine B.cond_bool (fun h3 => ?_) (fun h3 => ?_) <;> simp -dsimp at h3 ⊢
      · exact e _ (by unfold lineCmp orInt cmpInt; repeat' split; all_goals omega)
      · refine B.cond_bool (fun h4 => ?_) (fun h4 => ?_) <;> simp -dsimp at h4 ⊢
        · exact e _ (by unfold lineCmp orInt cmpInt; repeat' split; all_goals omega)
        · exact e _ (by unfold lineCmp orInt cmpInt; repeat' split; all_goals omega)
theorem lineCmp_neg (a b : Line) : lineCmp a b < 0 ↔ a.Rank < b.Rank ∨ (a.Rank = b.Rank ∧ a.Id < b.Id) := by
  unfold lineCmp orInt cmpInt
  repeat' split
  all_goals omega
theorem lineCmp_pos (a b : Line) : 0 < lineCmp a b ↔ b.Rank < a.Rank ∨ (a.Rank = b.Rank ∧ b.Id < a.Id) := by
  unfold lineCmp orInt cmpInt
  repeat' split
  all_goals omega
theorem lineCmp_one (a b : Line) : lineCmp a b = -1 ∨ lineCmp a b = 0 ∨ lineCmp a b = 1 := by
  unfold lineCmp orInt cmpInt
  repeat' split
  all_goals omega
theorem lineCmp_swap (a b : Line) : lineCmp b a = -lineCmp a b := by
  have h1 := lineCmp_one a b; have h2 := lineCmp_one b a
  have h3 := lineCmp_neg a b; have h4 := lineCmp_neg b a; have h5 := lineCmp_pos a b; have h6 := lineCmp_pos b a
  omega
theorem lineCmp_chain (a b c : Line) (h1 : lineCmp a b ≤ 0) (h2 : lineCmp b c ≤ 0) : lineCmp a c ≤ 0 ∧ (lineCmp a c < 0 ∨ lineCmp a b = 0 ∧ lineCmp b c = 0) := by
  have e1 := lineCmp_pos a b; have e2 := lineCmp_pos b c; have e3 := lineCmp_pos a c
  have f1 := lineCmp_neg a b; have f2 := lineCmp_neg b c; have f3 := lineCmp_neg a c
  omega
theorem lineW : Weak (lessC lineCmp) where
  asym {a b} h := by
    simp only [lessC, decide_eq_true_eq, decide_eq_false_iff_not, lineCmp_neg] at *
    omega
  ntrans {a b c} h k := by
    simp only [lessC, decide_eq_false_iff_not, lineCmp_neg] at *
    omega
def lineE : ElOps := opsF 8 80 [.int .i64 0, .str [], .int .i64 0, .int .i64 0, .int .i64 0, .int .u8 0, .int .i64 0, .str []] 0 []
theorem lineS : SeqSpec lineE Line.cs (fun l => .agg l.cs) := seqF (by omega) (by omega) rfl fun _ => rfl
end Go.Ab

/- What is proved: contracts of lines' functions: lists. No conditions. -/
set_option linter.unusedVariables false
set_option linter.unusedSimpArgs false
namespace Go.Ab
variable {C : CSem} {N : Nat → Nat}
/-- A function's answers on elements: it leaves the memory. -/
def PredSpec (C : CSem) (f : AVal) (p : Line → Bool) (h : AHeap) : Prop := ∀ (l : Line) (h' : AHeap) (K : AVal → AHeap → Prop), h.le h' → K (.bool (p l)) h' → B.callv h' C f [.agg l.cs] K
theorem PredSpec.mono {f : AVal} {p : Line → Bool} {h H : AHeap} (s : PredSpec C f p h) (hle : h.le H) : PredSpec C f p H := fun l h' K hh hk => s l h' K (AHeap.le_trans hle hh) hk
def idxOf (p : Line → Bool) (L : List Line) : Int := match L.findIdx? p with | some i => (i : Int) | none => -1
def slices_IndexFunc_api_Line_api_Line.Spec (C : CSem) (N : Nat → Nat) : Prop := ∀ (x f : AVal) (p : Line → Bool) (L : List Line) (R : List (List AVal)) (h : AHeap) (Q : AVal → AHeap → Prop), SlX h 8 x (L.map Line.cs) R → L.length ≤ 100000000 → PredSpec C f p h →
  Q (.int .i64 (idxOf p L)) h → C (N 206) [x, f] h Q
theorem findIdx_none_take {α : Type} {p : α → Bool} {L : List α} {k : Nat} (hk : k < L.length) (h : ∀ i, i < k → ∀ a, L[i]? = some a → p a = false) (hp : p L[k] = true) : L.findIdx? p = some k := by
  rw [List.findIdx?_eq_some_iff_getElem]
  exact ⟨hk, hp, fun j hj => by simp [h j hj _ (List.getElem?_eq_getElem (by omega))]⟩
theorem slices_IndexFunc_api_Line_api_Line.spec (i : slices_IndexFunc_api_Line_api_Line.Imp C N) : slices_IndexFunc_api_Line_api_Line.Spec C N := by
  intro x f p L R h Q hx hlen hf hq
  refine i _ _ _ _ ?_
  have e1 := hx.lenSl
  rw [List.length_map] at e1
  simp -dsimp only [slices_IndexFunc_api_Line_api_Line.cps, slices_IndexFuncG.cps, e1, B.pv_some]
  refine LoopR.intro (fun t vs hh => hh = h ∧ ∃ k : Nat, k + t = L.length ∧ vs = [.int .i64 (k : Int)] ∧ ∀ i, i < k → ∀ a, L[i]? = some a → p a = false) L.length ?_ ⟨rfl, 0, by omega, rfl, fun i hi => by omega⟩
  rintro Y t vs h ⟨rfl, k, ht, rfl, hno⟩ hY
  simp -dsimp only [slices_IndexFuncG.l2, slices_IndexFuncG.k1, lssN, B.pv_some]
  refine B.cond_bool (fun hb => ?_) (fun hb => ?_) <;> simp only [decide_eq_true_eq, decide_eq_false_iff_not] at hb
  · have hg : (L.map Line.cs)[k]? = some (L[k]).cs := by rw [List.getElem?_map, List.getElem?_eq_getElem hb]; rfl
    have hidx : V.idxS 8 x (.int .i64 (k : Int)) = some (elp 8 x k 0) := hx.idxN (by simpa using hb)
    simp -dsimp only [opsF, hidx, B.pv_some, B.ldn_eq, hx.elem hg]
    refine hf _ _ _ (AHeap.le_refl _) ?_
    refine B.cond_bool (fun hc => ?_) (fun hc => ?_)
    · have : idxOf p L = (k : Int) := by rw [idxOf, findIdx_none_take hb hno hc]
      rw [this] at hq; exact dn_same hq
    · simp -dsimp only [add1 (show k < 4611686018427387904 by omega), B.pv_some]
      refine hY (L.length - (k + 1)) _ _ (by omega) ⟨rfl, k + 1, by omega, rfl, fun i hi a ha => ?_⟩
      by_cases e : i = k
      · subst e; rw [List.getElem?_eq_getElem hb] at ha; cases ha; exact hc
      · exact hno i (by omega) a ha
  · have : idxOf p L = -1 := by
      have : L.findIdx? p = none := by
        rw [List.findIdx?_eq_none_iff]
        intro a ha
        obtain ⟨j, hj, rfl⟩ := List.getElem_of_mem ha
        exact hno j (by omega) _ (List.getElem?_eq_getElem hj)
      rw [idxOf, this]
    rw [this] at hq; exact dn_same hq
def slices_DeleteFunc_api_Line_api_Line.Spec (C : CSem) (N : Nat → Nat) : Prop := ∀ (h0 h : AHeap) (x f : AVal) (p : Line → Bool) (L : List Line) (Q : AVal → AHeap → Prop), Owns h0 h [.sl 8 x (L.map Line.cs) []] → L.length ≤ 100000000 → PredSpec C f p h0 →
  (∀ y R' h', Owns h0 h' [.sl 8 y ((L.filter fun l => !p l).map Line.cs) R'] → Q y h') → C (N 203) [x, f] h Q
theorem fillLine (l : Line) : V.setN 0 8 (.agg l.cs) (.agg [.int .i64 0, .str [], .int .i64 0, .int .i64 0, .int .i64 0, .int .u8 0, .int .i64 0, .str []]) = some (.agg l.cs) := by simp
theorem fieldLine (l : Line) : V.fieldN 0 8 (.agg l.cs) = some (.agg l.cs) := by simp
theorem Owns.cutTo {h0 h : AHeap} {es : Nat} {x : AVal} {L R : List (List AVal)} (ho : Owns h0 h [.sl es x L R]) (hes : 0 < es) {k : Nat} (hk : k ≤ L.length) : ∃ y, V.cutSl es x none (some (.int .i64 (k : Int))) = some y ∧ Owns h0 h [.sl es y (L.take k) (L.drop k ++ R)] := by
  obtain ⟨y, h1, h2, h3⟩ := (ho.slAt 0 rfl).slice hes (a := none) (b := some (.int .i64 (k : Int))) (lo := 0) (hi := k) (.inl ⟨rfl, rfl⟩) (.inr ⟨_, rfl⟩) (by omega) (by omega)
  rw [List.drop_zero, List.take_append_of_le_length hk, List.drop_append_of_le_length hk] at h2
  refine ⟨y, h1, ?_⟩
  have := ho.turn (h' := h) 0 rfl (o' := .sl es y (L.take k) (L.drop k ++ R)) h2 (fun id b hf hb => ho.ownAt 0 rfl id b (by rw [show Ob.foot (.sl es x L R) = foot x from rfl, ← h3]; exact hf) hb) (fun _ _ h _ => h) (.inl (by rw [show Ob.foot (.sl es y _ _) = foot y from rfl, h3]; rfl))
  simpa using this
theorem slices_DeleteFunc_api_Line_api_Line.spec (i : slices_DeleteFunc_api_Line_api_Line.Imp C N) (s1 : slices_IndexFunc_api_Line_api_Line.Spec C N) : slices_DeleteFunc_api_Line_api_Line.Spec C N := by
  intro h0 h x f p L Q ho hlen hf hq
  apply i
  have hx := ho.slAt 0 rfl
  simp -dsimp only [slices_DeleteFunc_api_Line_api_Line.cps]
  refine s1 _ _ p _ _ _ _ hx hlen (hf.mono ho.le) ?_
  simp -dsimp only [slices_DeleteFunc_api_Line_api_Line.k4, V.bin_eql, B.pv_some]
  unfold idxOf
  cases hi : L.findIdx? p with
  | none =>
    simp -dsimp
    have : L.filter (fun l => !p l) = L := by
      rw [List.filter_eq_self]
      intro a ha
      rw [List.findIdx?_eq_none_iff] at hi
      simp [hi a ha]
    exact dn_same (hq x [] h (by rw [this]; exact ho))
  | some m =>
    obtain ⟨hm, hp, hno⟩ := List.findIdx?_eq_some_iff_getElem.1 hi
    have hne : decide ((m : Int) = -1) = false := by rw [decide_eq_false_iff_not]; omega
    simp -dsimp only [hne, B.cond_false, add1 (show m < 4611686018427387904 by omega), B.pv_some]
    have hft : (L.take m).filter (fun l => !p l) = L.take m := by
      rw [List.filter_eq_self]
      intro a ha
      obtain ⟨j, hj, rfl⟩ := List.getElem_of_mem ha
      rw [List.length_take] at hj
      rw [List.getElem_take]
      have := hno j (by omega)
      simpa using this
    have hft1 : (L.take (m + 1)).filter (fun l => !p l) = L.take m := by
      rw [take_one hm, List.filter_append, hft]; simp [hp]
    refine LoopR.intro (fun t vs hh => ∃ (j k : Nat) (G : List Line), k + t = L.length ∧ vs = [.int .i64 (j : Int), .int .i64 (k : Int)] ∧ Owns h0 hh [.sl 8 x (G.map Line.cs) []] ∧ G.length = L.length ∧ k ≤ L.length ∧ j < k ∧
      G.take j = (L.take k).filter (fun l => !p l) ∧ G.drop k = L.drop k) (L.length - (m + 1)) ?_ ⟨m, m + 1, L, by omega, rfl, ho, rfl, by omega, by omega, by rw [hft1], rfl⟩
    rintro Y t vs hh ⟨j, k, G, ht, rfl, o, hGl, hkl, hjk, hG1, hG2⟩ hY
    have hy := o.slAt 0 rfl
    have e1 := hy.lenSl
    rw [List.length_map, hGl] at e1
    simp -dsimp only [slices_DeleteFunc_api_Line_api_Line.l3, slices_DeleteFunc_api_Line_api_Line.k2, e1, lssN, B.pv_some]
    refine B.cond_bool (fun hb => ?_) (fun hb => ?_) <;> simp only [decide_eq_true_eq, decide_eq_false_iff_not] at hb
    · have hGk : G[k]? = some L[k] := by
        have := congrArg (fun M => M[0]?) hG2
        simpa [List.getElem?_drop, List.getElem?_eq_getElem hb] using this
      have hg : (G.map Line.cs)[k]? = some (L[k]).cs := by rw [List.getElem?_map, hGk]; rfl
      have hidx : V.idxS 8 x (.int .i64 (k : Int)) = some (elp 8 x k 0) := hy.idxN (by simp; omega)
      have hidj : V.idxS 8 x (.int .i64 (j : Int)) = some (elp 8 x j 0) := hy.idxN (by simp; omega)
      have hgj : (G.map Line.cs)[j]? = some ((G[j]'(by omega)).cs) := by rw [List.getElem?_map, List.getElem?_eq_getElem (by omega)]; rfl
      simp -dsimp only [hidx, B.pv_some, B.ldn_eq, hy.elem hg, fillLine, fieldLine]
      refine hf _ _ _ o.le ?_
      simp -dsimp only [V.un_not, B.pv_some]
      refine B.cond_bool (fun hc => ?_) (fun hc => ?_)
      · simp -dsimp only [fieldLine, hidj, B.pv_some]
        refine o.stElem 0 rfl hgj rfl fun h2 o2 _ => ?_
        simp -dsimp only [add1 (show j < 4611686018427387904 by omega), add1 (show k < 4611686018427387904 by omega), B.pv_some]
        refine hY (L.length - (k + 1)) _ _ (by omega) ⟨j + 1, k + 1, G.set j L[k], by omega, rfl, ?_, by simpa using hGl, by omega, by omega, ?_, ?_⟩
        · rw [List.map_set]; simpa using o2
        · rw [take_one hb, List.filter_append, ← hG1]
          have : (G.set j L[k]).take (j + 1) = G.take j ++ [L[k]] := by
            rw [List.take_add_one, List.take_set_of_le (Nat.le_refl _), List.getElem?_set_self (by omega)]; rfl
          rw [this]
          have hc' : p L[k] = false := by simpa using hc
          simp [hc']
        · rw [List.drop_set_of_lt (by omega)]
          have := congrArg (List.drop 1) hG2
          rw [List.drop_drop, List.drop_drop] at this
          rw [Nat.add_comm] at this
          simpa [Nat.add_comm] using this
      · simp -dsimp only [add1 (show k < 4611686018427387904 by omega), B.pv_some]
        refine hY (L.length - (k + 1)) _ _ (by omega) ⟨j, k + 1, G, by omega, rfl, o, hGl, by omega, by omega, ?_, ?_⟩
        · rw [take_one hb, List.filter_append, ← hG1]
          have hc' : p L[k] = true := by simpa using hc
          simp [hc']
        · have := congrArg (List.drop 1) hG2
          rw [List.drop_drop, List.drop_drop] at this
          simpa [Nat.add_comm] using this
    · have hkL : k = L.length := by omega
      subst hkL
      rw [List.take_length] at hG1
      have hjG : j ≤ (G.map Line.cs).length := by simp; omega
      obtain ⟨y, c1, c2⟩ := o.clrTail (lo := j) (z := [.int .i64 0, .str [], .int .i64 0, .int .i64 0, .int .i64 0, .int .u8 0, .int .i64 0, .str []]) (K := fun _ h => B.pv (V.cutSl 8 x none (some (.int .i64 (j : Int)))) fun v41 => dn Q v41 h) 0 rfl rfl hjG (fun h2 o2 _ => by
        have o2' : Owns h0 h2 [.sl 8 x ((G.map Line.cs).take j ++ List.replicate ((G.map Line.cs).length - j) [.int .i64 0, .str [], .int .i64 0, .int .i64 0, .int .i64 0, .int .u8 0, .int .i64 0, .str []]) []] := by simpa using o2
        obtain ⟨y2, d1, d2⟩ := o2'.cutTo (by omega) (k := j) (by simp; omega)
        rw [d1]
        have e : ((G.map Line.cs).take j ++ List.replicate ((G.map Line.cs).length - j) [AVal.int .i64 0, .str [], .int .i64 0, .int .i64 0, .int .i64 0, .int .u8 0, .int .i64 0, .str []]).take j = (L.filter fun l => !p l).map Line.cs := by
          rw [List.take_append_of_le_length (by simp; omega), List.take_take, Nat.min_self, ← List.map_take, hG1]
        rw [e] at d2
        exact dn_same (hq y2 _ h2 d2))
      simp -dsimp only [slices_DeleteFunc_api_Line_api_Line.k1, c1, B.pv_some]
      exact c2
end Go.Ab

/- What is proved: contracts of lines' functions: those that are open, those ahead of one. No conditions. -/
set_option linter.unusedVariables false
set_option linter.unusedSimpArgs false
namespace Go.Ab
variable {C : CSem} {N : Nat → Nat}
def slices_Clone_api_Line_api_Line.Spec (C : CSem) (N : Nat → Nat) : Prop := ∀ (x : AVal) (L : List Line) (R : List (List AVal)) (h : AHeap) (Q : AVal → AHeap → Prop), SlX h 8 x (L.map Line.cs) R → L.length ≤ 100000000 →
  (∀ x' h', Owns h h' [.sl 8 x' (L.map Line.cs) []] → Q x' h') → C (N 201) [x] h Q
theorem slices_Clone_api_Line_api_Line.spec (i : slices_Clone_api_Line_api_Line.Imp C N) : slices_Clone_api_Line_api_Line.Spec C N := by
  intro x L R h Q hx hlen hq
  exact i _ _ _ (clone_spec lineS hx hlen fun x' h' ho => dn_same (hq x' h' ho))
def slices_SortStableFunc_api_Line_api_Line.Spec (C : CSem) (N : Nat → Nat) : Prop := ∀ (h0 h : AHeap) (x f : AVal) (c : Line → Line → Int) (L : List Line) (R : List (List AVal)) (Q : AVal → AHeap → Prop), Weak (lessC c) → CmpSpec C (fun l : Line => .agg l.cs) c f h0 → L.length ≤ 100000000 →
  Owns h0 h [.sl 8 x (L.map Line.cs) R] → (∀ h', Owns h0 h' [.sl 8 x ((sortB c L).map Line.cs) R] → Q (.tup []) h') → C (N 204) [x, f] h Q
theorem slices_SortStableFunc_api_Line_api_Line.spec (i : slices_SortStableFunc_api_Line_api_Line.Imp C N) (i1 : slices_symMergeCmpFunc_api_Line.Imp C N) (i2 : slices_rotateCmpFunc_api_Line.Imp C N) (i3 : slices_swapRangeCmpFunc_api_Line.Imp C N) (i4 : slices_insertionSortCmpFunc_api_Line.Imp C N) (i5 : slices_stableCmpFunc_api_Line.Imp C N) :
    slices_SortStableFunc_api_Line_api_Line.Spec C N := by
  intro h0 h x f c L R Q W hc hlen ho hq
  refine i _ _ _ _ (sortStable_spec lineS W (f1 := N 209) (f2 := N 211) (f3 := N 212) (f4 := N 210) ⟨i1, i2, i3, i4, i5⟩ hc hlen ho fun h' L' st o => dn_same (hq h' ?_))
  rw [← stable_sortB W st]; exact o
def isOpen (l : Line) : Bool := decide ((l.State.toNat : Int) = 1)
def openL (L : List Line) : List Line := sortB lineCmp (L.filter isOpen)
theorem openL_len (L : List Line) : (openL L).length ≤ L.length := by
  rw [openL, (sortB_stable lineW _).perm.length_eq]
  exact List.length_filter_le _ _
def rank_Open_1.Spec (C : CSem) (N : Nat → Nat) : Prop := ∀ (l : Line) (h : AHeap) (Q : AVal → AHeap → Prop), Q (.bool !isOpen l) h → C (N 202) [.agg l.cs] h Q
theorem rank_Open_1.spec (i : rank_Open_1.Imp C N) : rank_Open_1.Spec C N := by
  intro l h Q hq
  apply i
  simp +contextual -dsimp
  exact dn_same hq
def rank_Open.Spec (C : CSem) (N : Nat → Nat) : Prop := ∀ (x : AVal) (L : List Line) (R : List (List AVal)) (h : AHeap) (Q : AVal → AHeap → Prop), SlX h 8 x (L.map Line.cs) R → L.length ≤ 100000000 →
  (∀ x' R' h', Owns h h' [.sl 8 x' ((openL L).map Line.cs) R'] → Q x' h') → C (N 187) [x] h Q
theorem rank_Open.spec (i : rank_Open.Imp C N) (s1 : slices_Clone_api_Line_api_Line.Spec C N) (s2 : slices_DeleteFunc_api_Line_api_Line.Spec C N) (s3 : slices_SortStableFunc_api_Line_api_Line.Spec C N) (s4 : rank_Open_1.Spec C N) (s5 : rank_Compare.Spec C N) : rank_Open.Spec C N := by
  intro x L R h Q hx hlen hq
  apply i
  simp -dsimp
  refine s1 _ _ _ _ _ hx hlen fun x1 h1 o1 => ?_
  refine s2 _ _ _ _ (fun l => !isOpen l) _ _ o1 hlen (fun l h' K hh hk => ?_) fun y R' h2 o2 => ?_
  · simp -dsimp
    exact s4 _ _ _ hk
  · have e : (L.filter fun l => !(!isOpen l)) = L.filter isOpen := by congr 1; funext l; simp
    rw [e] at o2
    have hl := List.length_filter_le isOpen L
    refine s3 _ _ _ _ lineCmp _ _ _ lineW ⟨fun h a b K _ hk => ?_⟩ (by omega) o2 fun h3 o3 => dn_same (hq y R' h3 o3)
    simp -dsimp
    exact s5 _ _ _ _ hk
def aheadL (L : List Line) (id : Int) : List Line := match (openL L).findIdx? (fun l => decide (l.Id = id)) with | some i => (openL L).take i | none => []
def rank_Ahead_1.Spec (C : CSem) (N : Nat → Nat) : Prop := ∀ (l : Line) (q : AVal) (n : Int) (h : AHeap) (Q : AVal → AHeap → Prop), A.ldv h q = some (.int .i64 n) → Q (.bool (decide (l.Id = n))) h → C (N 205) [.agg l.cs, q] h Q
theorem rank_Ahead_1.spec (i : rank_Ahead_1.Imp C N) : rank_Ahead_1.Spec C N := by
  intro l q n h Q hl hq
  apply i
  simp +contextual -dsimp [hl]
  exact dn_same hq
theorem Owns.swapSl {h0 h : AHeap} {es es' : Nat} {x y : AVal} {L R L' R' : List (List AVal)} (ho : Owns h0 h [.sl es x L R]) (hy : SlX h es' y L' R') (hf : foot y = foot x) : Owns h0 h [.sl es' y L' R'] := by
  have := ho.turn (h' := h) 0 rfl (o' := .sl es' y L' R') hy (fun id b hf' hb => ho.ownAt 0 rfl id b (by rw [show Ob.foot (.sl es x L R) = foot x from rfl, ← hf]; exact hf') hb) (fun _ _ h _ => h) (.inl (by rw [show Ob.foot (.sl es' y _ _) = foot y from rfl, hf]; rfl))
  simpa using this
def rank_Ahead.Spec (C : CSem) (N : Nat → Nat) : Prop := ∀ (x : AVal) (L : List Line) (R : List (List AVal)) (n : Int) (h : AHeap) (Q : AVal → AHeap → Prop), SlX h 8 x (L.map Line.cs) R → L.length ≤ 100000000 →
  (∀ x' h', Owns h h' [.sl 8 x' ((aheadL L n).map Line.cs) []] → Q x' h') → C (N 188) [x, .int .i64 n] h Q
theorem rank_Ahead.spec (i : rank_Ahead.Imp C N) (s1 : rank_Open.Spec C N) (s2 : slices_IndexFunc_api_Line_api_Line.Spec C N) (s3 : rank_Ahead_1.Spec C N) : rank_Ahead.Spec C N := by
  intro x L R n h Q hx hlen hq
  apply i
  simp -dsimp
  intro id hid
  have hle := le_upd (blkOf [AVal.int .i64 n]) hid
  refine s1 _ _ _ _ _ (hx.mono hle) hlen fun y R' h2 o2 => ?_
  have hy := o2.slAt 0 rfl
  have hol := openL_len L
  refine s2 _ _ (fun l => decide (l.Id = n)) _ _ _ _ hy (by omega) (fun l h' K hh hk => ?_) ?_
  · simp -dsimp
    exact s3 _ _ n _ _ (by rw [ldv_at (hh _ _ (o2.le _ _ (upd_same ..)))]; rfl) hk
  have o3 := o2.back hle
  unfold aheadL at hq
  unfold idxOf
  cases hf : (openL L).findIdx? (fun l => decide (l.Id = n)) with
  | none =>
    rw [hf] at hq
    simp -dsimp
    exact dn_same (hq _ _ ((Owns.nil o3.le).nils 8))
  | some k =>
    rw [hf] at hq
    obtain ⟨hk, _, _⟩ := List.findIdx?_eq_some_iff_getElem.1 hf
    obtain ⟨z, c1, c2, c3⟩ := hy.cut3 (k := k) (j1 := .i64) (j2 := .i64) (j3 := .i64) (by simp; omega)
    have hneg : decide ((k : Int) < 0) = false := by rw [decide_eq_false_iff_not]; omega
    simp -dsimp [c1, hneg]
    refine dn_same (hq z h2 ?_)
    rw [← List.map_take] at c2
    exact o3.swapSl c2 c3
def ref09_Open.Spec (C : CSem) (N : Nat → Nat) : Prop := ∀ (x : AVal) (L : List Line) (R : List (List AVal)) (h : AHeap) (Q : AVal → AHeap → Prop), SlX h 8 x (L.map Line.cs) R → L.length ≤ 10000000 →
  (∀ x' h', Owns h h' [.sl 8 x' ((openL L).map Line.cs) []] → Q x' h') → C (N 191) [x] h Q
theorem ref09_Open.spec (i : ref09_Open.Imp C N) (s1 : ref09_Compare.Spec C N) : ref09_Open.Spec C N := by
  intro x L R h Q hx hlen hq
  apply i
  refine LoopR.intro (fun t vs hh => ∃ (k : Nat) (y : AVal), k + t = L.length ∧ vs = [y, .int .i64 (k : Int)] ∧ Owns h hh [.sl 8 y ((openL (L.take k)).map Line.cs) []]) L.length ?_ ⟨0, .nils, by simp, rfl, (Owns.start h).nils 8⟩
  rintro Y t vs hh ⟨k, y, ht, rfl, ho⟩ hY
  have hxx := hx.mono ho.le
  have e1 := hxx.lenSl
  rw [List.length_map] at e1
  have hsl : (openL (L.take k)).length ≤ k := by have := openL_len (L.take k); rw [List.length_take] at this; omega
  have hnext : ∀ hb : k < L.length, isOpen L[k] = true → openL (L.take (k + 1)) = insB lineCmp (openL (L.take k)) L[k] := fun hb hc => by
    rw [take_one hb, openL, List.filter_append, show [L[k]].filter isOpen = [L[k]] by simp [hc], sortB, List.foldl_append]; rfl
  have hskip : ∀ hb : k < L.length, isOpen L[k] = false → openL (L.take (k + 1)) = openL (L.take k) := fun hb hc => by
    rw [take_one hb, openL, List.filter_append, show [L[k]].filter isOpen = [] by simp [hc], List.append_nil]; rfl
  generalize hG0 : openL (L.take k) = G at *
  have hy := ho.slAt 0 rfl
  have e2 := hy.lenSl
  rw [List.length_map] at e2
  simp -dsimp only [ref09_Open.l5, e1, lssN, B.pv_some]
  refine B.cond_bool (fun hb => ?_) (fun hb => ?_) <;> simp only [decide_eq_true_eq, decide_eq_false_iff_not] at hb
  · have hg : (L.map Line.cs)[k]? = some (L[k]).cs := by rw [List.getElem?_map, List.getElem?_eq_getElem hb]; rfl
    have hel := hxx.elem hg
    have hidx : V.idxS 8 x (.int .i64 (k : Int)) = some (elp 8 x k 0) := hxx.idxN (by simpa using hb)
    have hfa := hxx.fieldA (i := k) (by simpa using hb) 0 5
    have hld := hxx.ldv (i := k) (f := 5) hg (by omega)
    simp at hld hfa
    have hG : G.length ≤ 10000000 := by omega
    simp -dsimp only [ref09_Open.k4, hidx, hfa, hld, B.ld_eq, V.bin_neq, B.pv_some]
    refine B.cond_bool (fun hc => ?_) (fun hc => ?_)
    · simp -dsimp only [add1 (show k < 4611686018427387904 by omega), B.pv_some]
      refine hY (L.length - (k + 1)) _ _ (by omega) ⟨k + 1, y, by omega, rfl, ?_⟩
      rw [hskip hb (by simpa [isOpen] using hc)]; exact ho
    have hop : isOpen L[k] = true := by simpa [isOpen] using hc
    simp -dsimp only [e2, B.pv_some]
    refine LoopR.intro (fun t vs h2 => h2 = hh ∧ t ≤ G.length ∧ vs = [.int .i64 (t : Int)] ∧ posB lineCmp L[k] G t = posB lineCmp L[k] G G.length) G.length ?_ ⟨rfl, Nat.le_refl _, rfl, rfl⟩
    rintro Z n vs h2 ⟨rfl, hn, rfl, hp⟩ hZ
    have fin : posB lineCmp L[k] G n = n → ref09_Open.k1 C N (dn Q) Y x y (.int .i64 (k : Int)) (.int .i64 (n : Int)) h2 := fun hpn => by
      rw [hpn] at hp
      obtain ⟨y1, c1, c2, _⟩ := hy.slice (by omega) (a := none) (b := some (.int .i64 (n : Int))) (lo := 0) (hi := n) (.inl ⟨rfl, rfl⟩) (.inr ⟨_, rfl⟩) (by omega) (by simp; omega)
      obtain ⟨y2, d1, d2, _⟩ := hy.slice (by omega) (a := some (.int .i64 (n : Int))) (b := none) (lo := n) (hi := G.length) (.inr ⟨_, rfl⟩) (.inl ⟨rfl, by simp⟩) (by omega) (by simp)
      rw [List.append_nil, List.drop_zero] at c2
      rw [List.append_nil, List.take_of_length_le (by simp)] at d2
      simp -dsimp only [ref09_Open.k1, c1, B.pv_some]
      refine (ho.sz 8).appW 1 rfl c2 (by omega) (by simp; omega) (by simp [maxLen]; omega) fun z h3 o3 b3 => ?_
      have o3' : Owns h h3 [.sl 8 y (G.map Line.cs) [], .sl 8 z ((G.map Line.cs).take n) []] := by simpa using o3
      have hx3 := hx.mono o3'.le
      simp -dsimp only [hidx, hx3.elem hg, B.ldn_eq, B.pv_some]
      simp -dsimp [repL]
      refine o3'.push 1 rfl (cs := (L[k]).cs) rfl (by omega) (by simp; omega) (by simp [maxLen]; omega) fun z2 h4 o4 b4 => ?_
      simp -dsimp [d1]
      obtain ⟨y3, d3, d4, _⟩ := (o4.slAt 0 rfl).slice (by omega) (a := some (.int .i64 (n : Int))) (b := none) (lo := n) (hi := G.length) (.inr ⟨_, rfl⟩) (.inl ⟨rfl, by simp⟩) (by omega) (by simp)
      rw [d1] at d3; cases d3
      rw [List.append_nil, List.take_of_length_le (by simp)] at d4
      refine o4.appW 1 rfl d4 (by omega) (by simp; omega) (by simp [maxLen]; omega) fun z3 h5 o5 b5 => ?_
      simp -dsimp [inc64 (n := k) (by omega)]
      refine hY (L.length - (k + 1)) _ _ (by omega) ⟨k + 1, z3, by omega, by simp, ?_⟩
      rw [hnext hb hop, insB, ← hp]
      have o6 := o5.sub (l' := [_]) (List.sublist_cons_self _ _)
      simpa [List.map_take, List.map_drop] using o6
    simp -dsimp
    cases n with
    | zero =>
      simp -dsimp
      exact fin rfl
    | succ n =>
      have hgn : G[n]? = some G[n] := List.getElem?_eq_getElem (by omega)
      have hgc : (G.map Line.cs)[n]? = some (G[n]).cs := by rw [List.getElem?_map, hgn]; rfl
      have heln := hy.elem hgc
      have hidn := hy.idxN (k := .i64) (i := n) (by simp; omega)
      have hps := posB_step (c := lineCmp) (x := L[k]) hgn
      have hw : IntKind.i64.wrap (n : Int) = (n : Int) := wrap_i64 (by omega) (by omega)
      have hgt : (0 : Int) < (n : Int) + 1 := by omega
      simp -dsimp [hgt, hidx, hel, hw, hidn, heln, show 0 < n + 1 by omega]
      refine s1 _ _ _ _ ?_
      simp -dsimp
      refine B.cond_bool (fun hc => ?_) (fun hc => ?_) <;> simp -dsimp at hc ⊢
      · refine hZ n _ _ (by omega) ⟨rfl, by omega, by simp [hw], ?_⟩
        rw [← hp, hps, if_pos hc]
      · have := fin (by rw [hps, if_neg (by omega)])
        simpa using this
  · rw [List.take_of_length_le (by omega)] at hG0
    rw [← hG0] at ho
    exact dn_same (hq y hh ho)
def ref09_Ahead.Spec (C : CSem) (N : Nat → Nat) : Prop := ∀ (x : AVal) (L : List Line) (R : List (List AVal)) (n : Int) (h : AHeap) (Q : AVal → AHeap → Prop), SlX h 8 x (L.map Line.cs) R → L.length ≤ 10000000 →
  (∀ x' h', Owns h h' [.sl 8 x' ((aheadL L n).map Line.cs) []] → Q x' h') → C (N 192) [x, .int .i64 n] h Q
theorem ref09_Ahead.spec (i : ref09_Ahead.Imp C N) (s1 : ref09_Open.Spec C N) : ref09_Ahead.Spec C N := by
  intro x L R n h Q hx hlen hq
  apply i
  simp -dsimp only [ref09_Ahead.cps]
  refine s1 _ _ _ _ _ hx hlen fun y h1 o1 => ?_
  have hol := openL_len L
  unfold aheadL at hq
  generalize openL L = G at *
  have hy := o1.slAt 0 rfl
  have e1 := hy.lenSl
  rw [List.length_map] at e1
  refine LoopR.intro (fun t vs hh => hh = h1 ∧ ∃ k : Nat, k + t = G.length ∧ vs = [.int .i64 (k : Int)] ∧ ∀ i, i < k → ∀ a, G[i]? = some a → (fun l : Line => decide (l.Id = n)) a = false) G.length ?_ ⟨rfl, 0, by omega, rfl, fun i hi => by omega⟩
  rintro Y t vs h1 ⟨rfl, k, ht, rfl, hno⟩ hY
  simp -dsimp only [ref09_Ahead.l2, ref09_Ahead.k1, e1, lssN, B.pv_some]
  refine B.cond_bool (fun hb => ?_) (fun hb => ?_) <;> simp only [decide_eq_true_eq, decide_eq_false_iff_not] at hb
  · have hg : (G.map Line.cs)[k]? = some (G[k]).cs := by rw [List.getElem?_map, List.getElem?_eq_getElem hb]; rfl
    have hidx : V.idxS 8 y (.int .i64 (k : Int)) = some (elp 8 y k 0) := hy.idxN (by simpa using hb)
    have hfa := hy.fieldA (i := k) (by simpa using hb) 0 0
    have hld := hy.ldv (i := k) (f := 0) hg (by omega)
    simp at hld hfa
    simp -dsimp only [hidx, hfa, hld, B.ld_eq, V.bin_eql, B.pv_some]
    refine B.cond_bool (fun hc => ?_) (fun hc => ?_)
    · obtain ⟨y1, c1, c2, _⟩ := hy.slice (by omega) (a := none) (b := some (.int .i64 (k : Int))) (lo := 0) (hi := k) (.inl ⟨rfl, rfl⟩) (.inr ⟨_, rfl⟩) (by omega) (by simp; omega)
      rw [List.append_nil, List.drop_zero] at c2
      simp -dsimp only [c1, B.pv_some]
      refine (o1.sz 8).appW 1 rfl c2 (by omega) (by simp; omega) (by simp [maxLen]; omega) fun z h3 o3 b3 => ?_
      have o3' : Owns h h3 [.sl 8 z ((G.map Line.cs).take k) []] := by
        have := o3.sub (l' := [.sl 8 z ((G.map Line.cs).take k) []]) (by simp)
        exact this
      have : (match G.findIdx? (fun l => decide (l.Id = n)) with | some i => G.take i | none => []) = G.take k := by rw [findIdx_none_take hb hno hc]
      rw [this, List.map_take] at hq
      exact dn_same (hq z h3 o3')
    · simp -dsimp only [add1 (show k < 4611686018427387904 by omega), B.pv_some]
      refine hY (G.length - (k + 1)) _ _ (by omega) ⟨rfl, k + 1, by omega, rfl, fun i hi a ha => ?_⟩
      by_cases e : i = k
      · subst e; rw [List.getElem?_eq_getElem hb] at ha; cases ha; exact hc
      · exact hno i (by omega) a ha
  · have : G.findIdx? (fun l => decide (l.Id = n)) = none := by
      rw [List.findIdx?_eq_none_iff]
      intro a ha
      obtain ⟨j, hj, rfl⟩ := List.getElem_of_mem ha
      exact hno j (by omega) _ (List.getElem?_eq_getElem hj)
    rw [this] at hq
    exact dn_same (hq _ _ ((Owns.nil o1.le).nils 8))
end Go.Ab

/- What is proved: contracts of what the statements share about answers; and of the bag, in which all lists are held that must lie apart. No conditions. -/
set_option linter.unusedVariables false
set_option linter.unusedSimpArgs false
set_option maxRecDepth 100000
namespace Go.Ab
variable {C : CSem} {N : Nat → Nat}

theorem elD {es bytes f g : Nat} {z : List AVal} {m : Int → Int → List AVal} (hes : 0 < es) (hm : ∀ k i, (m k i).length = es) (hz : z.length = es) (hb : bytes ≤ 1000) (s1 : ∀ (k i : Int) (h : AHeap) (Q : AVal → AHeap → Prop), Q (.agg (m k i)) h → C f [.int .i64 k, .int .i64 i] h Q)
    (s2 : ∀ (k i : Int) (h : AHeap) (Q : AVal → AHeap → Prop), Q (.bool true) h → C g [.agg (m k i), .agg (m k i)] h Q) :
    ElSpec C (opsD C es bytes z f g) m (fun k i => .agg (m k i)) where
  pos := hes
  small := hb
  len _ _ := hm _ _
  zlen := hz
  new k i := by
    have hrep : repL 1 z = z := by unfold repL; split <;> simp
    have h1 := hm k i
    show fillL [(0, some es, AVal.agg (m k i))] (repL 1 z) = _
    rw [hrep]
    simp [h1, hz]
  call := s1
  ld hs hc hk := by
    simp only [opsD, B.ldn_eq] at hs ⊢
    rw [hs.elem hc]; exact hk
  kpt hs hc := ⟨_, hs.elem hc⟩
  st {h x L R i c k j K} hs hown hc hk := by
    refine hs.stn hown hc (hm _ _) (by simp [opsD]) ?_
    have hcl := hs.len c (List.mem_append_left _ (List.mem_of_getElem? hc))
    have e : c.take 0 ++ m k j ++ c.drop (0 + es) = m k j := by
      have : c.length = es := hcl
      simp [this]
    rw [e]; exact hk
  eq hk := s2 _ _ _ _ hk

/-! Answers. -/
theorem TellP.eq_iff (t u : TellP) : t = u ↔ (((((t.Err = u.Err ∧ t.Id = u.Id) ∧ t.Day = u.Day) ∧ t.Code = u.Code) ∧ t.State = u.State) ∧ t.Lots = u.Lots) ∧ t.Uses = u.Uses := by
  cases t; cases u; simp only [TellP.mk.injEq, and_assoc]
def kit_SameTell.Spec (C : CSem) (N : Nat → Nat) : Prop := ∀ (t u : TellP) (x y z w : AVal) (h : AHeap) (Q : AVal → AHeap → Prop), TellAt h t x y → TellAt h u z w → t.Lots.length < 4611686018427387904 → t.Uses.length < 4611686018427387904 → Q (.bool (decide (t = u))) h → C (N 42) [.agg (t.cs x y), .agg (u.cs z w)] h Q
theorem kit_SameTell.spec (i : kit_SameTell.Imp C N) (s1 : kit_SameLots.Spec C N) (s2 : kit_SameUses.Spec C N) : kit_SameTell.Spec C N := by
  intro t u x y z w h Q ht hu h1 h2 hq
  obtain ⟨⟨R1, a1⟩, ⟨S1, b1⟩⟩ := ht
  obtain ⟨⟨R2, a2⟩, ⟨S2, b2⟩⟩ := hu
  apply i
  simp +contextual -dsimp [u8_eq]
  refine B.gdb_call (fun _ _ hq => s1 x z _ _ _ _ _ _ a1 a2 h1 hq) ?_
  simp +contextual -dsimp
  refine B.gdb_call (fun _ _ hq => s2 y w _ _ _ _ _ _ b1 b2 h2 hq) ?_
  simp +contextual -dsimp
  have e : decide (t = u) = (decide (t.Err = u.Err) && decide (t.Id = u.Id) && decide (t.Day = u.Day) && decide (t.Code = u.Code) && decide (t.State = u.State) && decide (t.Lots = u.Lots) && decide (t.Uses = u.Uses)) := by
    rw [Bool.eq_iff_iff]; simp [TellP.eq_iff]
  rw [e] at hq
  exact dn_same hq
structure TellLent (h : AHeap) (t : TellP) (x y : AVal) : Prop where
  lots : SlX h 6 x (t.Lots.map Lot.cs) marksLot
  uses : SlX h 3 y (t.Uses.map Use.cs) marksUse
theorem TellLent.at_ {h : AHeap} {t : TellP} {x y : AVal} (a : TellLent h t x y) : TellAt h t x y := ⟨⟨_, a.lots⟩, ⟨_, a.uses⟩⟩
theorem TellLent.mono {h H : AHeap} {t : TellP} {x y : AVal} (a : TellLent h t x y) (hle : h.le H) : TellLent H t x y := ⟨a.lots.mono hle, a.uses.mono hle⟩
def markTell (k i : Int) : TellP := ⟨0, mark k i, 0, [], 0, [], []⟩
def kit_markTell.Spec (C : CSem) (N : Nat → Nat) : Prop := ∀ (k i : Int) (h : AHeap) (Q : AVal → AHeap → Prop), Q (.agg ((markTell k i).cs .nils .nils)) h → C (N 114) [.int .i64 k, .int .i64 i] h Q
theorem kit_markTell.spec (i : kit_markTell.Imp C N) (s1 : kit_mark.Spec C N) : kit_markTell.Spec C N := by
  intro k j h Q hq
  apply i
  simp +contextual -dsimp
  refine s1 _ _ _ _ ?_
  simp +contextual -dsimp
  exact dn_same hq
theorem kit_flatTells.spec (i : kit_flatTells.Imp C N) (s1 : kit_markTell.Spec C N) (s2 : kit_SameTell.Spec C N) : FlatSpec C 7 (N 93) := fun t h0 h Q ht ho hq =>
  i t.x h Q (flatG_spec (elD (m := fun k i => (markTell k i).cs .nils .nils) (bytes := 96) (by omega) (fun _ _ => rfl) rfl (by omega) s1 (fun k i h Q hq => s2 (markTell k i) (markTell k i) _ _ _ _ _ _ ⟨⟨_, SlX.nils h 6⟩, ⟨_, SlX.nils h 3⟩⟩ ⟨⟨_, SlX.nils h 6⟩, ⟨_, SlX.nils h 3⟩⟩ (by simp [markTell]) (by simp [markTell]) (by simpa using hq))) ht.is ho ht.n_le ht.len_le fun h' hle => dn_same (hq h' hle))
end Go.Ab

/- What is proved: contracts of the bag, in which all lists are held that must lie apart. No conditions. -/
set_option linter.unusedVariables false
set_option linter.unusedSimpArgs false
set_option maxRecDepth 100000
namespace Go.Ab
variable {C : CSem} {N : Nat → Nat}

abbrev sing (v : AVal) : List AVal := [v]
theorem fills_of (l : List AVal) : (l.map sing) = fills l.length fun j => [l.getD j .nils] := by
  apply List.ext_getElem?
  intro j
  by_cases hj : j < l.length
  · rw [fills_get _ hj]; simp [hj]
  · rw [List.getElem?_eq_none (by simp; omega), List.getElem?_eq_none (by simp; omega)]
/-- A bag at id: B: what it holds, by kinds. -/
def BagAt (h hh : AHeap) (id : Nat) (B : Nat → List AVal) : Prop := ∃ xs : Nat → AVal, Owns h hh (Objs 1 23 xs (fun i => (B i).map sing) (fun _ => []) ++ [.box (.ptr id 0 0) (fill 23 xs)])
theorem Owns.nilObjs {h0 h : AHeap} {l : List Ob} (ho : Owns h0 h l) (es n : Nat) : Owns h0 h (Objs es n (fun _ => .nils) (fun _ => []) (fun _ => []) ++ l) := by
  have mem : ∀ o ∈ Objs es n (fun _ => AVal.nils) (fun _ => []) (fun _ => []), o = .sl es .nils [] [] := fun o hm => by
    obtain ⟨j, _, rfl⟩ := List.mem_map.1 hm; rfl
  refine ⟨ho.le, fun o hm => ?_, fun o hm => ?_, List.pairwise_append.2 ⟨?_, ho.apart, fun a ha b _ id hf => by rw [mem a ha] at hf; cases hf⟩⟩
  · rcases List.mem_append.1 hm with hm | hm
    · rw [mem o hm]; exact SlX.nils h es
    · exact ho.is o hm
  · rcases List.mem_append.1 hm with hm | hm
    · intro id hf; rw [mem o hm] at hf; cases hf
    · exact ho.own o hm
  · rw [List.pairwise_iff_forall_sublist]
    intro a b hs id hf
    rw [mem a (hs.subset (by simp))] at hf; cases hf
theorem BagAt.start {h : AHeap} {id : Nat} (hid : h id = none) : BagAt h (upd h id (blkOf (fill 23 fun _ => .nils))) id fun _ => [] := by
  refine ⟨fun _ => .nils, ?_⟩
  have := ((Owns.start h).newBox hid (fill 23 fun _ => .nils)).nilObjs 1 23
  simpa using this
def putG (k : Nat) (v0 v1 : AVal) (h : AHeap) (Q : AVal → AHeap → Prop) : Prop :=
  B.nilCheck v0 fun v6 =>
    B.pv (V.fieldAddr k v6) fun v7 =>
    B.ld h v7 fun v8 =>
    B.newO h (fillL [(0, none, v1)] (repL 1 [.nils])) fun i10 h =>
    B.appW h 1 24 v8 (.sl i10 0 0 1 1 1) fun v11 h =>
    B.nilCheck v0 fun v12 =>
    B.pv (V.fieldAddr k v12) fun v13 =>
    B.st h v13 v11 fun h =>
    Q (.tup []) h
theorem putG_spec {k : Nat} (hk : k < 23) {h hh : AHeap} {id : Nat} {B : Nat → List AVal} {y : AVal} {Q : AVal → AHeap → Prop} (hb : BagAt h hh id B) (hy : y.isCell = true) (hl : (B k).length ≤ 100000000) (hq : ∀ h', BagAt h h' id (upf B k (B k ++ [y])) → Q (.tup []) h') : putG k (.ptr id 0 0) y hh Q := by
  obtain ⟨xs, ho⟩ := hb
  obtain ⟨id', e, hbx⟩ := ho.boxAt 23 Objs.getL
  cases e
  have e1 : A.ldv hh (.ptr id 0 k) = some (xs k) := by rw [ldv_at hbx, fill_get _ hk]
  have hrep : repL 1 [AVal.nils] = [AVal.nils] := rfl
  simp -dsimp [putG, e1, hrep, hy]
  refine ho.push k (Objs.getA hk) rfl (by omega) (by simp; omega) (by simp [maxLen]; omega) fun x' h1 ho1 _ => ?_
  rw [Objs.setA hk, upf_const] at ho1
  have hcx := (ho1.slAt k (Objs.getA hk)).isCell
  rw [upf_self] at hcx
  simp -dsimp
  refine ho1.boxSt 23 Objs.getL hcx (by simpa using hk) fun h2 ho2 _ => ?_
  rw [Objs.setL, fill_set] at ho2
  refine hq h2 ⟨upf xs k x', ?_⟩
  have e2 : upf (fun i => (B i).map sing) k ((B k).map sing ++ [[y]]) = fun i => (upf B k (B k ++ [y]) i).map sing := by
    funext i; unfold upf; split
    · rename_i e; subst e; simp
    · rfl
  rw [e2] at ho2
  exact ho2

def bagEs (i : Nat) : Nat := [1, 1, 1, 1, 1, 2, 6, 3, 3, 2, 1, 8, 1, 7, 1, 1, 1, 1, 1, 1, 1, 1, 1].getD i 1
def bagFull (i : Nat) : Bool := [false, false, false, true, true, true, true, true, true, true, false, true, false, true, false, false, false, false, false, false, false, false, false].getD i false
/-- The lists of a bag: all of a kind, from a kind on. -/
def bagObs (B : Nat → List AVal) (D R : Nat → Nat → List (List AVal)) (i n : Nat) : List Ob := (List.range' i n).flatMap fun i => Objs (bagEs i) (B i).length (fun j => (B i).getD j .nils) (D i) (R i)
theorem bagObs_succ (B : Nat → List AVal) (D R : Nat → Nat → List (List AVal)) (i n : Nat) : bagObs B D R i (n + 1) = Objs (bagEs i) (B i).length (fun j => (B i).getD j .nils) (D i) (R i) ++ bagObs B D R (i + 1) n := by
  simp [bagObs, List.range'_succ]
/-- A bag that is there at first. -/
structure BagIs (h0 : AHeap) (id : Nat) (B : Nat → List AVal) (D : Nat → Nat → List (List AVal)) (xs : Nat → AVal) : Prop where
  box : h0 id = some (blkOf (fill 23 xs))
  is : ∀ i, i < 23 → SlX h0 1 (xs i) ((B i).map sing) []
  none : ∀ i, i < 23 → bagFull i = false → B i = []
  n_le : ∀ i, i < 23 → (B i).length ≤ 100000000
  len_le : ∀ i, i < 23 → ∀ j, j < (B i).length → (D i j).length ≤ 100000000
section
variable {h0 h : AHeap} {id : Nat} {B : Nat → List AVal} {D R : Nat → Nat → List (List AVal)} {xs : Nat → AVal} {Q : AVal → AHeap → Prop}
theorem BagIs.ld (hb : BagIs h0 id B D xs) (hle : h0.le h) {i : Nat} (hi : i < 23) : A.ldv h (.ptr id 0 i) = some (xs i) := by
  rw [ldv_at (hle _ _ hb.box), fill_get _ hi]
theorem flatUse {es g : Nat} (s : FlatSpec C es g) (hb : BagIs h0 id B D xs) (i n : Nat) (hi : i < 23) (he : bagEs i = es) (ho : Owns h0 h (bagObs B D R i (n + 1))) (hq : ∀ h', Owns h0 h' (bagObs B D R (i + 1) n) → Q (.bool true) h') : C g [xs i] h Q := by
  rw [bagObs_succ, he] at ho
  obtain ⟨q1, q2⟩ := (ho.perm List.perm_append_comm).out
  have hx := (hb.is i hi).mono q1.le
  rw [fills_of] at hx
  exact s ⟨xs i, (B i).length, fun j => (B i).getD j .nils, D i, R i, []⟩ _ h Q ⟨hx, hb.n_le i hi, hb.len_le i hi⟩ q2 fun h' hle => hq h' (q1.grow hle)
theorem flatUse0 {g : Nat} (s : FlatNil C g) (hb : BagIs h0 id B D xs) (i n : Nat) (hi : i < 23) (hf : bagFull i = false) (ho : Owns h0 h (bagObs B D R i (n + 1))) (hq : ∀ h', Owns h0 h' (bagObs B D R (i + 1) n) → Q (.bool true) h') : C g [xs i] h Q := by
  have e := hb.none i hi hf
  rw [bagObs_succ] at ho
  have hx := hb.is i hi
  rw [e] at hx ho
  simp only [List.map_nil, List.length_nil, Objs, List.range_zero, List.nil_append] at hx ho
  refine s (xs i) [] h h Q (hx.mono ho.le) (AHeap.le_refl h) fun h' hle => hq h' (ho.grow hle)
end
def kit_bag_apart.Spec (C : CSem) (N : Nat → Nat) : Prop := ∀ (id : Nat) (B : Nat → List AVal) (D R : Nat → Nat → List (List AVal)) (xs : Nat → AVal) (h0 h : AHeap) (Q : AVal → AHeap → Prop), BagIs h0 id B D xs → Owns h0 h (bagObs B D R 0 23) → (∀ h', h0.le h' → Q (.bool true) h') → C (N 62) [.ptr id 0 0] h Q
theorem kit_bag_apart.spec (i : kit_bag_apart.Imp C N) (f0 : FlatNil C (N 80)) (f1 : FlatNil C (N 81)) (f2 : FlatNil C (N 82)) (f3 : FlatSpec C 1 (N 83)) (f4 : FlatSpec C 1 (N 84)) (f5 : FlatSpec C 2 (N 85)) (f6 : FlatSpec C 6 (N 86)) (f7 : FlatSpec C 3 (N 87)) (f8 : FlatSpec C 3 (N 88)) (f9 : FlatSpec C 2 (N 89)) (f10 : FlatNil C (N 90)) (f11 : FlatSpec C 8 (N 91)) (f12 : FlatNil C (N 92)) (f13 : FlatSpec C 7 (N 93)) (f14 : FlatNil C (N 94)) (f15 : FlatNil C (N 95)) (f16 : FlatNil C (N 96)) (f17 : FlatNil C (N 97)) (f18 : FlatNil C (N 98)) (f19 : FlatNil C (N 99)) (f20 : FlatNil C (N 100)) (f21 : FlatNil C (N 101)) (f22 : FlatNil C (N 102)) : kit_bag_apart.Spec C N := by
  intro id B D R xs h0 h Q hb ho hq
  apply i
  simp -dsimp [hb.ld ho.le (i := 0) (by omega)]
  refine flatUse0 f0 hb 0 22 (by omega) rfl ho fun h ho => ?_
  simp -dsimp [hb.ld ho.le (i := 1) (by omega)]
  refine flatUse0 f1 hb 1 21 (by omega) rfl ho fun h ho => ?_
  simp -dsimp [hb.ld ho.le (i := 2) (by omega)]
  refine flatUse0 f2 hb 2 20 (by omega) rfl ho fun h ho => ?_
  simp -dsimp [hb.ld ho.le (i := 3) (by omega)]
  refine flatUse f3 hb 3 19 (by omega) rfl ho fun h ho => ?_
  simp -dsimp [hb.ld ho.le (i := 4) (by omega)]
  refine flatUse f4 hb 4 18 (by omega) rfl ho fun h ho => ?_
  simp -dsimp [hb.ld ho.le (i := 5) (by omega)]
  refine flatUse f5 hb 5 17 (by omega) rfl ho fun h ho => ?_
  simp -dsimp [hb.ld ho.le (i := 6) (by omega)]
  refine flatUse f6 hb 6 16 (by omega) rfl ho fun h ho => ?_
  simp -dsimp [hb.ld ho.le (i := 7) (by omega)]
  refine flatUse f7 hb 7 15 (by omega) rfl ho fun h ho => ?_
  simp -dsimp [hb.ld ho.le (i := 8) (by omega)]
  refine flatUse f8 hb 8 14 (by omega) rfl ho fun h ho => ?_
  simp -dsimp [hb.ld ho.le (i := 9) (by omega)]
  refine flatUse f9 hb 9 13 (by omega) rfl ho fun h ho => ?_
  simp -dsimp [hb.ld ho.le (i := 10) (by omega)]
  refine flatUse0 f10 hb 10 12 (by omega) rfl ho fun h ho => ?_
  simp -dsimp [hb.ld ho.le (i := 11) (by omega)]
  refine flatUse f11 hb 11 11 (by omega) rfl ho fun h ho => ?_
  simp -dsimp [hb.ld ho.le (i := 12) (by omega)]
  refine flatUse0 f12 hb 12 10 (by omega) rfl ho fun h ho => ?_
  simp -dsimp [hb.ld ho.le (i := 13) (by omega)]
  refine flatUse f13 hb 13 9 (by omega) rfl ho fun h ho => ?_
  simp -dsimp [hb.ld ho.le (i := 14) (by omega)]
  refine flatUse0 f14 hb 14 8 (by omega) rfl ho fun h ho => ?_
  simp -dsimp [hb.ld ho.le (i := 15) (by omega)]
  refine flatUse0 f15 hb 15 7 (by omega) rfl ho fun h ho => ?_
  simp -dsimp [hb.ld ho.le (i := 16) (by omega)]
  refine flatUse0 f16 hb 16 6 (by omega) rfl ho fun h ho => ?_
  simp -dsimp [hb.ld ho.le (i := 17) (by omega)]
  refine flatUse0 f17 hb 17 5 (by omega) rfl ho fun h ho => ?_
  simp -dsimp [hb.ld ho.le (i := 18) (by omega)]
  refine flatUse0 f18 hb 18 4 (by omega) rfl ho fun h ho => ?_
  simp -dsimp [hb.ld ho.le (i := 19) (by omega)]
  refine flatUse0 f19 hb 19 3 (by omega) rfl ho fun h ho => ?_
  simp -dsimp [hb.ld ho.le (i := 20) (by omega)]
  refine flatUse0 f20 hb 20 2 (by omega) rfl ho fun h ho => ?_
  simp -dsimp [hb.ld ho.le (i := 21) (by omega)]
  refine flatUse0 f21 hb 21 1 (by omega) rfl ho fun h ho => ?_
  simp -dsimp [hb.ld ho.le (i := 22) (by omega)]
  refine flatUse0 f22 hb 22 0 (by omega) rfl ho fun h ho => ?_
  try simp -dsimp
  exact dn_same (hq _ ho.le)
end Go.Ab

/- What is proved: contracts of the statements' question whether lists lie apart. No conditions. -/
set_option linter.unusedVariables false
set_option linter.unusedSimpArgs false
set_option maxRecDepth 100000
namespace Go.Ab
variable {C : CSem} {N : Nat → Nat}

def PutSpec (C : CSem) (k g : Nat) : Prop := ∀ (h hh : AHeap) (id : Nat) (B : Nat → List AVal) (y : AVal) (Q : AVal → AHeap → Prop), BagAt h hh id B → y.isCell = true → (B k).length ≤ 100000000 → (∀ h', BagAt h h' id (upf B k (B k ++ [y])) → Q (.tup []) h') → C g [.ptr id 0 0, y] hh Q
@[simp] def apartG.k1 (C : CSem) (fp fa : Nat) (Q : AVal → AHeap → Prop) (Y1 : List AVal → AHeap → Prop) (v0 v3 v4 : AVal) (h : AHeap) : Prop :=
  B.pv (V.lenSl v0) fun v9 =>
    B.pv (V.bin .lss v4 v9) fun v10 =>
    B.cond v10
    (B.pv (V.idxS 1 v0 v4) fun v16 =>
    B.ld h v16 fun v17 =>
    B.call C fp [v3, v17] h fun v18 h =>
    B.pv (V.bin .add v4 (.int .i64 1)) fun v12 =>
    Y1 [v12] h)
    (B.call C fa [v3] h fun v20 h =>
    Q v20 h)
@[simp] def apartG.l2 (C : CSem) (fp fa : Nat) (Q : AVal → AHeap → Prop) (v0 v3 : AVal) : List AVal → AHeap → (List AVal → AHeap → Prop) → Prop
  | [v4], h, Y1 => apartG.k1 C fp fa Q Y1 v0 v3 v4 h
  | _, _, _ => False
def apartG (C : CSem) (fp fa : Nat) (v0 : AVal) (h : AHeap) (Q : AVal → AHeap → Prop) : Prop :=
  B.pv (A.bld [] [.nils, .nils, .nils, .nils, .nils, .nils, .nils, .nils, .nils, .nils, .nils, .nils, .nils, .nils, .nils, .nils, .nils, .nils, .nils, .nils, .nils, .nils, .nils]) fun v5 =>
    B.newO h (A.cellsN 23 v5) fun i6 h =>
    LoopR (apartG.l2 C fp fa Q v0 (.ptr i6 0 0)) [(.int .i64 0)] h
theorem BagAt.le {h hh : AHeap} {id : Nat} {B : Nat → List AVal} (hb : BagAt h hh id B) : h.le hh := by obtain ⟨_, ho⟩ := hb; exact ho.le
/-- What is asked of the bag at last. -/
theorem bag_last {fa : Nat} (s : ∀ (id : Nat) (B : Nat → List AVal) (D R : Nat → Nat → List (List AVal)) (xs : Nat → AVal) (h0 h : AHeap) (Q : AVal → AHeap → Prop), BagIs h0 id B D xs → Owns h0 h (bagObs B D R 0 23) → (∀ h', h0.le h' → Q (.bool true) h') → C fa [.ptr id 0 0] h Q)
    {h0 h hh : AHeap} {id : Nat} {B : Nat → List AVal} {D R : Nat → Nat → List (List AVal)} {Q : AVal → AHeap → Prop} (ho : Owns h0 h (bagObs B D R 0 23)) (hb : BagAt h hh id B) (h1 : ∀ i, i < 23 → bagFull i = false → B i = []) (h2 : ∀ i, i < 23 → (B i).length ≤ 100000000)
    (h3 : ∀ i, i < 23 → ∀ j, j < (B i).length → (D i j).length ≤ 100000000) (hq : ∀ h', h0.le h' → Q (.bool true) h') : C fa [.ptr id 0 0] hh Q := by
  obtain ⟨xs, ob⟩ := hb
  obtain ⟨q1, q2⟩ := ((ho.join ob).perm List.perm_append_comm).out
  obtain ⟨id', e, hbx⟩ := q1.boxAt 23 Objs.getL
  cases e
  exact s id B D R xs _ hh Q ⟨hbx, fun i hi => q1.slAt i (Objs.getA hi), h1, h2, h3⟩ q2 fun h' hle => hq h' (AHeap.le_trans q1.le hle)
theorem bagObs_all (B : Nat → List AVal) (D R : Nat → Nat → List (List AVal)) : bagObs B D R 0 23 = Objs (bagEs 0) (B 0).length (fun j => (B 0).getD j .nils) (D 0) (R 0) ++ (Objs (bagEs 1) (B 1).length (fun j => (B 1).getD j .nils) (D 1) (R 1) ++ (Objs (bagEs 2) (B 2).length (fun j => (B 2).getD j .nils) (D 2) (R 2) ++ (Objs (bagEs 3) (B 3).length (fun j => (B 3).getD j .nils) (D 3) (R 3) ++ (Objs (bagEs 4) (B 4).length (fun j => (B 4).getD j .nils) (D 4) (R 4) ++ (Objs (bagEs 5) (B 5).length (fun j => (B 5).getD j .nils) (D 5) (R 5) ++ (Objs (bagEs 6) (B 6).length (fun j => (B 6).getD j .nils) (D 6) (R 6) ++ (Objs (bagEs 7) (B 7).length (fun j => (B 7).getD j .nils) (D 7) (R 7) ++ (Objs (bagEs 8) (B 8).length (fun j => (B 8).getD j .nils) (D 8) (R 8) ++ (Objs (bagEs 9) (B 9).length (fun j => (B 9).getD j .nils) (D 9) (R 9) ++ (Objs (bagEs 10) (B 10).length (fun j => (B 10).getD j .nils) (D 10) (R 10) ++ (Objs (bagEs 11) (B 11).length (fun j => (B 11).getD j .nils) (D 11) (R 11) ++ (Objs (bagEs 12) (B 12).length (fun j => (B 12).getD j .nils) (D 12) (R 12) ++ (Objs (bagEs 13) (B 13).length (fun j => (B 13).getD j .nils) (D 13) (R 13) ++ (Objs (bagEs 14) (B 14).length (fun j => (B 14).getD j .nils) (D 14) (R 14) ++ (Objs (bagEs 15) (B 15).length (fun j => (B 15).getD j .nils) (D 15) (R 15) ++ (Objs (bagEs 16) (B 16).length (fun j => (B 16).getD j .nils) (D 16) (R 16) ++ (Objs (bagEs 17) (B 17).length (fun j => (B 17).getD j .nils) (D 17) (R 17) ++ (Objs (bagEs 18) (B 18).length (fun j => (B 18).getD j .nils) (D 18) (R 18) ++ (Objs (bagEs 19) (B 19).length (fun j => (B 19).getD j .nils) (D 19) (R 19) ++ (Objs (bagEs 20) (B 20).length (fun j => (B 20).getD j .nils) (D 20) (R 20) ++ (Objs (bagEs 21) (B 21).length (fun j => (B 21).getD j .nils) (D 21) (R 21) ++ (Objs (bagEs 22) (B 22).length (fun j => (B 22).getD j .nils) (D 22) (R 22) ++ [])))))))))))))))))))))) := by
  have : List.range' 0 23 = [0, 1, 2, 3, 4, 5, 6, 7, 8, 9, 10, 11, 12, 13, 14, 15, 16, 17, 18, 19, 20, 21, 22] := rfl
  simp only [bagObs, this, List.flatMap_cons, List.flatMap_nil]
@[simp] theorem Objs_zero {es : Nat} {xs : Nat → AVal} {D R : Nat → List (List AVal)} : Objs es 0 xs D R = [] := rfl

theorem apartG_spec {k es fp fa : Nat} (hk : k < 23) (he : bagEs k = es) (hf : bagFull k = true) (hone : ∀ (L : List AVal) (D R : Nat → List (List AVal)), bagObs (upf (fun _ => []) k L) (fun _ => D) (fun _ => R) 0 23 = Objs (bagEs k) L.length (fun j => L.getD j .nils) D R)
    (s1 : PutSpec C k fp) (s2 : ∀ (id : Nat) (B : Nat → List AVal) (D R : Nat → Nat → List (List AVal)) (xs : Nat → AVal) (h0 h : AHeap) (Q : AVal → AHeap → Prop), BagIs h0 id B D xs → Owns h0 h (bagObs B D R 0 23) → (∀ h', h0.le h' → Q (.bool true) h') → C fa [.ptr id 0 0] h Q)
    {t : LL} {h0 h : AHeap} {Q : AVal → AHeap → Prop} (ht : t.ok h0) (ho : Owns h0 h (t.obs es)) (hq : ∀ h', h0.le h' → Q (.bool true) h') : apartG C fp fa t.x h Q := by
  have hn := ht.n_le
  try simp -dsimp [apartG]
  intro id hid
  refine LoopR.intro (fun n vs hh => ∃ j : Nat, j + n = t.n ∧ vs = [.int .i64 j] ∧ BagAt h hh id (upf (fun _ => []) k ((List.range j).map t.xs))) t.n ?_ ⟨0, by simp, by simp, by
    have := BagAt.start hid
    rw [show upf (fun _ => ([] : List AVal)) k ((List.range 0).map t.xs) = fun _ => [] from upf_const ..]
    exact this⟩
  rintro Y n vs hh ⟨j, hj, rfl, hb⟩ hY
  have hx := ht.is.mono (AHeap.le_trans ho.le hb.le)
  simp -dsimp [ls_len hx]
  refine B.cond_bool (fun h1 => ?_) (fun h1 => ?_) <;> simp at h1
  · have hc : (t.xs j).isCell = true := (ho.slAt j (Objs.get h1)).isCell
    simp -dsimp [ls_idx hx h1, ls_ld hx h1]
    refine s1 h hh id _ _ _ hb hc (by rw [upf_self]; simp; omega) fun h' hb' => ?_
    simp -dsimp [inc64 (n := j) (by omega)]
    refine hY (n - 1) _ _ (by omega) ⟨j + 1, by omega, by simp, ?_⟩
    rw [upf_self, upf_upf] at hb'
    rw [List.range_succ, List.map_append]; exact hb'
  · have : j = t.n := by omega
    subst this
    have hobs : bagObs (upf (fun _ => []) k ((List.range t.n).map t.xs)) (fun _ => t.D) (fun _ => t.R) 0 23 = t.obs es := by
      rw [hone, he]
      unfold LL.obs
      rw [List.length_map, List.length_range]
      exact Objs.congr fun j hj => ⟨by simp [hj], rfl, rfl⟩
    rw [← hobs] at ho
    refine bag_last s2 ho hb (fun i hi hfi => ?_) (fun i hi => ?_) (fun i hi j hj => ?_) hq
    · rw [upf_ne]; intro e; subst e; rw [hf] at hfi; cases hfi
    · unfold upf; split
      · simp; omega
      · simp
    · unfold upf at hj; split at hj
      · simp at hj; exact ht.len_le j hj
      · simp at hj
abbrev TellC := TellP × AVal × AVal
@[simp] def TellC.cs (a : TellC) : List AVal := a.1.cs a.2.1 a.2.2
end Go.Ab

/- What is proved: lists of lots that lie apart. No conditions. -/
set_option linter.unusedVariables false
set_option linter.unusedSimpArgs false
namespace Go.Ab
variable {C : CSem} {N : Nat → Nat}
theorem kit_bag_putLines.spec (i : kit_bag_putLines.Imp C N) : PutSpec C 11 (N 207) := fun h hh id B y Q hb hy hl hq => i _ _ hh Q (putG_spec (k := 11) (by omega) hb hy hl fun h' hb' => dn_same (hq h' hb'))
theorem kit_ApartLines.spec (i : kit_ApartLines.Imp C N) (s1 : PutSpec C 11 (N 207)) (s2 : kit_bag_apart.Spec C N) : FlatSpec C 8 (N 193) := fun t h0 h Q ht ho hq => i t.x h Q (apartG_spec (k := 11) (by omega) rfl rfl (fun L D R => by rw [bagObs_all]; simp [upf]) s1 s2 ht ho fun h' hle => dn_same (hq h' hle))
end Go.Ab

/- What is proved: contracts of the ninth chapter's statements' functions. No conditions. -/
set_option linter.unusedVariables false
set_option linter.unusedSimpArgs false
namespace Go.Ab
variable {C : CSem} {N : Nat → Nat}
def lineOf (id rank : Int) (s : UInt8) : Line := ⟨id, [65], 1, 0, rank, s, -1, []⟩
def law09_line.Spec (C : CSem) (N : Nat → Nat) : Prop := ∀ (id rank : Int) (s : UInt8) (h : AHeap) (Q : AVal → AHeap → Prop), Q (.agg (lineOf id rank s).cs) h → C (N 196) [.int .i64 id, .int .i64 rank, .int .u8 (s.toNat : Int)] h Q
theorem law09_line.spec (i : law09_line.Imp C N) : law09_line.Spec C N := by
  intro id rank s h Q hq
  apply i
  simp -dsimp [A.bld]
  exact dn_same hq
def fourL : List Line := [lineOf 1 5 1, lineOf 2 3 3, lineOf 3 3 1, lineOf 4 5 1]
def law09_four.Spec (C : CSem) (N : Nat → Nat) : Prop := ∀ (h : AHeap) (Q : AVal → AHeap → Prop), (∀ x' h', Owns h h' [.sl 8 x' (fourL.map Line.cs) []] → Q x' h') → C (N 195) [] h Q
theorem law09_four.spec (i : law09_four.Imp C N) (s1 : law09_line.Spec C N) : law09_four.Spec C N := by
  intro h Q hq
  apply i
  simp -dsimp only [law09_four.cps, law09_four.k1]
  refine s1 1 5 1 _ _ ?_
  refine s1 2 3 3 _ _ ?_
  refine s1 3 3 1 _ _ ?_
  refine s1 4 5 1 _ _ ?_
  simp -dsimp [repL, lineOf]
  intro id hid
  refine dn_same (hq _ _ ?_)
  have := (Owns.start h).newSl hid (n := 4) (cp := 4) (es := 8) (L := fourL.map Line.cs) (R := []) (by simp [fourL]) (by simp [fourL]) (by simp [fourL]) (by simp [fourL, lineOf]; rfl)
  simpa using this
def law09_great.Spec (C : CSem) (N : Nat → Nat) : Prop := ∀ (x : AVal) (L : List Line) (R : List (List AVal)) (h : AHeap) (Q : AVal → AHeap → Prop), SlX h 8 x (L.map Line.cs) R → L.length < 4611686018427387904 → (∀ l ∈ L, l.Item.length < 4611686018427387904 ∧ l.Code.length < 4611686018427387904) →
  (∀ b : Bool, (b = false → L.length ≤ 400) → Q (.bool b) h) → C (N 185) [x] h Q
theorem law09_great.spec (i : law09_great.Imp C N) : law09_great.Spec C N := by
  intro x L R h Q hx hlen hit hq
  apply i
  have e1 := hx.lenSl
  rw [List.length_map] at e1
  simp -dsimp [e1]
  refine LoopR.intro (fun t vs hh => hh = h ∧ ∃ (k : Nat) (n : Int), k + t = L.length ∧ vs = [.int .i64 n, .int .i64 (k : Int)] ∧ (L.length : Int) ≤ n ∧ (n ≤ 4611686018427387904 + 4611686018427387904 / 10 + 400)) L.length ?_ ⟨rfl, 0, L.length, by simp, rfl, by omega, by omega⟩
  rintro Y t vs hh ⟨rfl, k, n, ht, rfl, h1, h2⟩ hY
  simp +contextual -dsimp [e1]
  refine B.cond_bool (fun hb => ?_) (fun hb => ?_) <;> simp -dsimp at hb ⊢
  · have hk : k < L.length := by omega
    have hg : (L.map Line.cs)[k]? = some (L[k]).cs := by rw [List.getElem?_map, List.getElem?_eq_getElem hk]; rfl
    have hidx := hx.idxN (k := .i64) (i := k) (by simpa using hk)
    have hfa := hx.fieldA (i := k) (by simpa using hk) 0 1
    have hld := hx.ldv (i := k) (f := 1) hg (by omega)
    have hfb := hx.fieldA (i := k) (by simpa using hk) 0 7
    have hle := hx.ldv (i := k) (f := 7) hg (by omega)
    simp at hld hfa hfb hle
    have hl := hit _ (List.getElem_mem hk)
    have e4 : IntKind.i64.wrap ((L[k].Item.length : Int) / 50) = (L[k].Item.length : Int) / 50 := wrap_i64 (by omega) (by omega)
    have e5 : IntKind.i64.wrap ((L[k].Code.length : Int) / 50) = (L[k].Code.length : Int) / 50 := wrap_i64 (by omega) (by omega)
    have e6 : IntKind.i64.wrap (n + (L[k].Item.length : Int) / 50) = n + (L[k].Item.length : Int) / 50 := wrap_i64 (by omega) (by omega)
    simp -dsimp [hidx, hfa, hld, hfb, hle, e4, e5, e6, inc64 (n := k) (by omega)]
    rw [wrap_i64 (by omega) (by omega)]
    refine hY (L.length - (k + 1)) _ _ (by omega) ⟨rfl, k + 1, _, by omega, by simp; rfl, by omega, by omega⟩
  · exact dn_same (hq _ fun he => by simp at he; omega)
def law09_count.Spec (C : CSem) (N : Nat → Nat) : Prop := ∀ (x : AVal) (L : List Line) (R : List (List AVal)) (l : Line) (h : AHeap) (Q : AVal → AHeap → Prop), SlX h 8 x (L.map Line.cs) R → L.length < 4611686018427387904 → Q (.int .i64 (L.count l : Nat)) h → C (N 198) [x, .agg l.cs] h Q
theorem law09_count.spec (i : law09_count.Imp C N) : law09_count.Spec C N := by
  intro x L R l h Q hx hlen hq
  apply i
  have e1 := hx.lenSl
  rw [List.length_map] at e1
  simp -dsimp [e1]
  refine LoopR.intro (fun t vs hh => hh = h ∧ ∃ (k : Nat), k + t = L.length ∧ vs = [.int .i64 (((L.take k).count l : Nat) : Int), .int .i64 (k : Int)]) L.length ?_ ⟨rfl, 0, by simp, by simp⟩
  rintro Y t vs hh ⟨rfl, k, ht, rfl⟩ hY
  simp -dsimp [e1]
  refine B.cond_bool (fun hb => ?_) (fun hb => ?_) <;> simp -dsimp at hb ⊢
  · have hg : (L.map Line.cs)[k]? = some (L[k]).cs := by rw [List.getElem?_map, List.getElem?_eq_getElem hb]; rfl
    have hel := hx.elem hg
    have hidx := hx.idxN (k := .i64) (i := k) (by simpa using hb)
    have heq := lineF.eql L[k] l
    have htk : L.take (k + 1) = L.take k ++ [L[k]] := by rw [List.take_add_one, List.getElem?_eq_getElem hb]; rfl
    have hcl := List.count_le_length (a := l) (l := L.take k)
    simp only [List.length_take] at hcl
    simp only [lineF, Line.cs] at heq
    simp -dsimp [hidx, hel, heq]
    refine B.cond_bool (fun hc => ?_) (fun hc => ?_) <;> simp -dsimp at hc ⊢
    · simp -dsimp [inc64 (n := k) (by omega), inc64 (n := (L.take k).count l) (by omega)]
      refine hY (L.length - (k + 1)) _ _ (by omega) ⟨rfl, k + 1, by omega, ?_⟩
      rw [htk, List.count_append, hc]; simp
    · simp -dsimp [inc64 (n := k) (by omega)]
      refine hY (L.length - (k + 1)) _ _ (by omega) ⟨rfl, k + 1, by omega, ?_⟩
      rw [htk, List.count_append, List.count_singleton]; simp [hc]
  · rw [List.take_of_length_le (by omega)]
    exact dn_same hq
theorem open_four : openL fourL = [lineOf 3 3 1, lineOf 1 5 1, lineOf 4 5 1] := by decide
theorem ahead_four4 : aheadL fourL 4 = [lineOf 3 3 1, lineOf 1 5 1] := by decide
theorem ahead_four2 : aheadL fourL 2 = [] := by decide
def law09_awake.Spec (C : CSem) (N : Nat → Nat) : Prop := ∀ (h : AHeap) (Q : AVal → AHeap → Prop), Q (.bool true) h → C (N 183) [] h Q
theorem law09_awake.spec (i : law09_awake.Imp C N) (s1 : law09_four.Spec C N) (s2 : rank_Open.Spec C N) (s3 : rank_Ahead.Spec C N) (s4 : rank_Right.Spec C N) : law09_awake.Spec C N := by
  intro h Q hq
  apply i
  simp -dsimp
  refine s1 _ _ fun x1 h1 o1 => ?_
  refine s2 _ _ _ _ _ (o1.slAt 0 rfl) (by decide) fun x2 R2 h2 o2 => ?_
  rw [open_four] at o2
  refine s1 _ _ fun x3 h3 o3 => ?_
  refine s3 _ _ _ _ _ _ (o3.slAt 0 rfl) (by decide) fun x4 h4 o4 => ?_
  rw [ahead_four4] at o4
  have a2 := (o2.slAt 0 rfl).mono (AHeap.le_trans o3.le o4.le)
  have a4 := o4.slAt 0 rfl
  have i0 : V.idxS 8 x2 (.int .i64 0) = some (elp 8 x2 0 0) := a2.idxN (i := 0) (by simp)
  have i1 : V.idxS 8 x2 (.int .i64 1) = some (elp 8 x2 1 0) := a2.idxN (i := 1) (by simp)
  have i2 : V.idxS 8 x2 (.int .i64 2) = some (elp 8 x2 2 0) := a2.idxN (i := 2) (by simp)
  have f0 := a2.fieldA (i := 0) (by simp) 0 0
  have f1 := a2.fieldA (i := 1) (by simp) 0 0
  have f2 := a2.fieldA (i := 2) (by simp) 0 0
  have d0 := a2.ldv (i := 0) (f := 0) rfl (by omega)
  have d1 := a2.ldv (i := 1) (f := 0) rfl (by omega)
  have d2 := a2.ldv (i := 2) (f := 0) rfl (by omega)
  simp [lineOf] at f0 f1 f2 d0 d1 d2
  simp -dsimp [a2.lenSl, a4.lenSl, i0, i1, i2, f0, f1, f2, d0, d1, d2]
  refine s1 _ _ fun x6 h6 o6 => ?_
  simp -dsimp
  refine s3 _ _ _ _ _ _ (o6.slAt 0 rfl) (by decide) fun x7 h7 o7 => ?_
  rw [ahead_four2] at o7
  have a7 := (o7.slAt 0 rfl).lenSl
  simp -dsimp [a7]
  refine s1 _ _ fun x8 h8 o8 => ?_
  have a8 := o8.slAt 0 rfl
  have j0 : V.idxS 8 x8 (.int .i64 0) = some (elp 8 x8 0 0) := a8.idxN (i := 0) (by simp [fourL])
  have el := a8.elem (i := 0) (c := (lineOf 1 5 1).cs) rfl
  simp [lineOf] at el
  simp -dsimp [j0, el]
  refine s4 (lineOf 1 5 1) _ _ ?_
  rw [show lineRight (lineOf 1 5 1) = true by decide]
  simp -dsimp [A.bld]
  refine s4 ⟨0, [], 0, 0, 0, 0, 0, []⟩ _ _ ?_
  rw [show lineRight ⟨0, [], 0, 0, 0, 0, 0, []⟩ = false by decide]
  simp -dsimp
  exact dn_le (AHeap.le_trans o1.le (AHeap.le_trans o2.le (AHeap.le_trans o3.le (AHeap.le_trans o4.le (AHeap.le_trans o6.le (AHeap.le_trans o7.le o8.le)))))) hq
def law09_RankRights.Spec (C : CSem) (N : Nat → Nat) : Prop := ∀ (a b : Line) (h : AHeap) (Q : AVal → AHeap → Prop), Q (.bool true) h → C (N 184) [.agg a.cs, .agg b.cs] h Q
theorem law09_RankRights.spec (i : law09_RankRights.Imp C N) (s1 : rank_Right.Spec C N) (s2 : ref09_Right.Spec C N) (s3 : rank_Compare.Spec C N) (s4 : ref09_Compare.Spec C N) (s5 : law09_awake.Spec C N) : law09_RankRights.Spec C N := by
  intro a b h Q hq
  apply i
  simp -dsimp
  refine s1 _ _ _ ?_
  refine s2 _ _ _ ?_
  simp -dsimp
  refine s3 _ _ _ _ ?_
  simp -dsimp
  refine s4 _ _ _ _ ?_
  simp -dsimp
  refine s5 _ _ ?_
  simp -dsimp
  exact dn_same hq
theorem Owns.lit2L {h0 h : AHeap} {l : List Ob} (ho : Owns h0 h l) {x y : AVal} {id : Nat} (hid : h id = none) : Owns h0 (upd h id (blkOf [x, y])) (l ++ [.sl 1 (.sl id 0 0 2 1 2) [[x], [y]] []]) :=
  ho.newSl hid (by simp) rfl (by simp) rfl
def twoL (α : Type) (a b : α) : Nat → α := fun j => if j = 0 then a else b
theorem Objs_twoL {es : Nat} {a b : AVal} {A B' R1 R2 : List (List AVal)} : Objs es 2 (twoL _ a b) (twoL _ A B') (twoL _ R1 R2) = [.sl es a A R1, .sl es b B' R2] := rfl
theorem aheadL_len (L : List Line) (n : Int) : (aheadL L n).length ≤ L.length := by
  have := openL_len L
  unfold aheadL
  split <;> simp <;> omega
def law09_RankLists.Spec (C : CSem) (N : Nat → Nat) : Prop := ∀ (x : AVal) (L : List Line) (R : List (List AVal)) (n : Int) (h : AHeap) (Q : AVal → AHeap → Prop), SlX h 8 x (L.map Line.cs) R → L.length < 4611686018427387904 → (∀ l ∈ L, l.Item.length < 4611686018427387904 ∧ l.Code.length < 4611686018427387904) →
  Q (.bool true) h → C (N 194) [x, .int .i64 n] h Q
theorem law09_RankLists.spec (i : law09_RankLists.Imp C N) (s1 : law09_awake.Spec C N) (s2 : law09_great.Spec C N) (s3 : kit_LentLines.Spec C N) (s4 : rank_Open.Spec C N) (s5 : rank_Ahead.Spec C N) (s8 : kit_KeptLines.Spec C N) (s9 : kit_OverLines.Spec C N)
    (r1 : ref09_Open.Spec C N) (r2 : ref09_Ahead.Spec C N) (s10 : kit_SameLines.Spec C N) (s11 : FlatSpec C 8 (N 193)) : law09_RankLists.Spec C N := by
  intro x L R n h Q hx hlen hit hq
  apply i
  simp +contextual -dsimp
  refine s2 _ _ _ _ _ hx hlen hit fun bg hbg => ?_
  try simp +contextual -dsimp
  refine B.cond_bool (fun hb => ?_) (fun hb => ?_)
  · exact s1 _ _ (dn_same hq)
  · have hl := hbg (by cases bg <;> simp_all)
    try simp +contextual -dsimp
    refine s3 _ _ _ _ _ hx (by omega) fun x1 h1 o1 => ?_
    have y1 := o1.slAt 0 rfl
    refine s4 _ _ _ _ _ y1 (by omega) fun xa Ra h2 o2 => ?_
    have y2 := y1.mono o2.le
    refine s5 _ _ _ _ _ _ y2 (by omega) fun xb h3 o3 => ?_
    have y3 := y2.mono o3.le
    have oo : Owns h h3 ([.sl 8 x1 (L.map Line.cs) marksLine] ++ [.sl 8 xa ((openL L).map Line.cs) Ra, .sl 8 xb ((aheadL L n).map Line.cs) []]) := (o1.join o2).join o3
    refine s8 _ _ _ _ _ _ _ y3 (hx.mono oo.le) (by omega) ?_
    try simp +contextual -dsimp
    obtain ⟨q1, q2⟩ := (oo.perm List.perm_append_comm).out
    refine s9 _ _ _ _ _ _ q2 (by simp [marksLine]) (by simp; omega) fun h5 le5 => ?_
    have p5 := q1.grow le5
    refine r1 _ _ _ _ _ (hx.mono p5.le) (by omega) fun za h6 o6 => ?_
    have p6 := p5.grow o6.le
    have hol := openL_len L
    have hal := aheadL_len L n
    refine s10 _ _ _ _ _ _ _ _ (p6.slAt 0 rfl) (o6.slAt 0 rfl) (by omega) ?_
    try simp +contextual -dsimp
    refine r2 _ _ _ _ _ _ (hx.mono p6.le) (by omega) fun zb h7 o7 => ?_
    have p7 := p6.grow o7.le
    try simp +contextual -dsimp
    refine s10 _ _ _ _ _ _ _ _ (p7.slAt 1 rfl) (o7.slAt 0 rfl) (by omega) ?_
    have c1 := (p7.slAt 0 rfl).isCell
    have c2 := (p7.slAt 1 rfl).isCell
    simp +contextual -dsimp [c1, c2, repL]
    intro id hid
    have p9 := p7.lit2L (x := xa) (y := xb) hid
    obtain ⟨q3, q4⟩ := (p9.perm List.perm_append_comm).out
    try simp +contextual -dsimp
    refine s11 ⟨.sl id 0 0 2 1 2, 2, twoL _ xa xb, twoL _ ((openL L).map Line.cs) ((aheadL L n).map Line.cs), twoL _ Ra [], []⟩ _ _ _ ⟨q3.slAt 0 rfl, by simp, fun j hj => by simp only [twoL]; (repeat' split) <;> simp only [List.length_map] <;> omega⟩ (by simp only [LL.obs]; rw [Objs_twoL]; exact q4) fun h10 le10 => ?_
    try simp +contextual -dsimp
    refine s1 _ _ ?_
    try simp +contextual -dsimp
    exact dn_le (AHeap.le_trans q3.le le10) hq
end Go.Ab

/- What is proved: contracts of the ninth chapter's statements' functions: the order of the open ones. No conditions. -/
set_option linter.unusedVariables false
set_option linter.unusedSimpArgs false
namespace Go.Ab
variable {C : CSem} {N : Nat → Nat}
theorem openL_perm (L : List Line) : (openL L).Perm (L.filter isOpen) := (sortB_stable lineW _).perm
theorem openL_up (L : List Line) : (openL L).Pairwise fun a b => lessC lineCmp b a = false := (sortB_stable lineW _).sorted lineW
theorem openL_all (L : List Line) : ∀ a ∈ openL L, isOpen a = true := fun a ha => (List.mem_filter.1 ((openL_perm L).mem_iff.1 ha)).2
theorem openL_again (L : List Line) : openL (openL L) = openL L := by
  have : (openL L).filter isOpen = openL L := List.filter_eq_self.2 (openL_all L)
  rw [openL, this]
  exact stable_self lineW (openL_up L)
theorem openL_count (L : List Line) {a : Line} (ha : isOpen a = true) : (openL L).count a = L.count a := by
  rw [(openL_perm L).count_eq, List.count_filter ha]
theorem openL_size (L : List Line) : (openL L).length = (L.filter isOpen).length := (openL_perm L).length_eq
def law09_RankOrder.Spec (C : CSem) (N : Nat → Nat) : Prop := ∀ (x : AVal) (L : List Line) (R : List (List AVal)) (a b c : Line) (h : AHeap) (Q : AVal → AHeap → Prop), SlX h 8 x (L.map Line.cs) R → L.length < 4611686018427387904 → (∀ l ∈ L, l.Item.length < 4611686018427387904 ∧ l.Code.length < 4611686018427387904) →
  Q (.bool true) h → C (N 199) [x, .agg a.cs, .agg b.cs, .agg c.cs] h Q
theorem law09_RankOrder.spec (i : law09_RankOrder.Imp C N) (s1 : law09_awake.Spec C N) (s2 : law09_great.Spec C N) (s3 : rank_Open.Spec C N) (s4 : kit_SameLines.Spec C N) (s5 : rank_Compare.Spec C N) (s6 : law09_count.Spec C N) : law09_RankOrder.Spec C N := by
  intro x L R a b c h Q hx hlen hit hq
  apply i
  simp -dsimp
  refine s1 _ _ ?_
  simp -dsimp
  refine s2 _ _ _ _ _ hx hlen hit fun bg hbg => ?_
  refine B.cond_bool (fun hb => dn_same hq) (fun hb => ?_)
  have hl := hbg hb
  refine s3 _ _ _ _ _ hx (by omega) fun x2 R2 h2 o2 => ?_
  have hx2 := hx.mono o2.le
  have y2 := o2.slAt 0 rfl
  have hol := openL_len L
  refine s3 _ _ _ _ _ y2 (by omega) fun x3 R3 h3 o3 => ?_
  rw [openL_again] at o3
  have y23 := y2.mono o3.le
  have hx3 := hx2.mono o3.le
  refine s4 _ _ _ _ _ _ _ _ (o3.slAt 0 rfl) y23 (by omega) ?_
  simp -dsimp
  have hcnt := fun (a : Line) => openL_count L (a := a)
  have hsz := openL_size L
  have hall := openL_all L
  have hup := openL_up L
  have e1 := hx3.lenSl
  have e2 := y23.lenSl
  rw [List.length_map] at e1 e2
  generalize openL L = S at *
  have hle := AHeap.le_trans o2.le o3.le
  clear o2 o3 y2 hx2
  refine LoopR.intro (fun t vs hh => hh = h3 ∧ ∃ k : Nat, k + t = L.length ∧ vs = [.int .i64 (((L.take k).filter isOpen).length : Nat), .int .i64 (k : Int)]) L.length ?_ ⟨rfl, 0, by simp, by simp⟩
  rintro Y t vs h3 ⟨rfl, k, ht, rfl⟩ hY
  simp -dsimp only [law09_RankOrder.l5, law09_RankOrder.k4, e1, lssN, B.pv_some]
  refine B.cond_bool (fun hb => ?_) (fun hb => ?_) <;> simp only [decide_eq_true_eq, decide_eq_false_iff_not] at hb
  · have hg : (L.map Line.cs)[k]? = some (L[k]).cs := by rw [List.getElem?_map, List.getElem?_eq_getElem hb]; rfl
    have hel := hx3.elem hg
    have hidx : V.idxS 8 x (.int .i64 (k : Int)) = some (elp 8 x k 0) := hx3.idxN (by simpa using hb)
    have hfa := hx3.fieldA (i := k) (by simpa using hb) 0 5
    have hld := hx3.ldv (i := k) (f := 5) hg (by omega)
    simp at hld hfa
    have hfl := List.length_filter_le isOpen (L.take k)
    rw [List.length_take] at hfl
    simp -dsimp only [hidx, hfa, hld, B.ld_eq, V.bin_eql, B.pv_some]
    refine B.cond_bool (fun hc => ?_) (fun hc => ?_)
    · have hop : isOpen L[k] = true := hc
      simp -dsimp only [add1 (a := ((L.take k).filter isOpen).length) (by omega), hidx, B.ldn_eq, hel, B.pv_some]
      refine s6 _ _ _ L[k] _ _ y23 (by omega) ?_
      refine keepS1 ⟨_, hel⟩ ?_
      refine s6 _ _ _ L[k] _ _ hx3 (by omega) ?_
      rw [hcnt _ hop]
      simp -dsimp only [V.bin_neq, decide_true, Bool.not_true, B.pv_some, B.cond_false, add1 (show k < 4611686018427387904 by omega)]
      refine hY (L.length - (k + 1)) _ _ (by omega) ⟨rfl, k + 1, by omega, ?_⟩
      rw [take_one hb, List.filter_append]; simp [hop]
    · have hop : isOpen L[k] = false := hc
      simp -dsimp only [B.pv_some, add1 (show k < 4611686018427387904 by omega)]
      refine hY (L.length - (k + 1)) _ _ (by omega) ⟨rfl, k + 1, by omega, ?_⟩
      rw [take_one hb, List.filter_append]; simp [hop]
  rw [List.take_of_length_le (by omega), ← hsz]
  clear hY ht hb k t Y
  refine LoopR.intro (fun t vs hh => hh = h3 ∧ ∃ k : Nat, k + t = S.length ∧ vs = [.int .i64 (k : Int)]) S.length ?_ ⟨rfl, 0, by simp, rfl⟩
  rintro Y t vs h3 ⟨rfl, k, ht, rfl⟩ hY
  simp -dsimp only [law09_RankOrder.l3, law09_RankOrder.k2, e2, lssN, B.pv_some]
  refine B.cond_bool (fun hb => ?_) (fun hb => ?_) <;> simp only [decide_eq_true_eq, decide_eq_false_iff_not] at hb
  · have hg : (S.map Line.cs)[k]? = some (S[k]).cs := by rw [List.getElem?_map, List.getElem?_eq_getElem hb]; rfl
    have hel := y23.elem hg
    have hidx : V.idxS 8 x2 (.int .i64 (k : Int)) = some (elp 8 x2 k 0) := y23.idxN (by simpa using hb)
    have hfa := y23.fieldA (i := k) (by simpa using hb) 0 5
    have hld := y23.ldv (i := k) (f := 5) hg (by omega)
    simp at hld hfa
    have hop : decide ((S[k].State.toNat : Int) = 1) = true := hall _ (List.getElem_mem hb)
    simp -dsimp only [hidx, hfa, hld, B.ld_eq, V.bin_neq, hop, Bool.not_true, B.pv_some, B.gd_f, Bool.not_false, B.gdb_true]
    have hYn : Y [.int .i64 ((k + 1 : Nat) : Int)] h3 := hY (S.length - (k + 1)) _ _ (by omega) ⟨rfl, k + 1, by omega, rfl⟩
    rcases Nat.eq_zero_or_pos k with rfl | hk0
    · simp -dsimp [w64_1]
      simpa using hYn
    · have hg1 : (S.map Line.cs)[k - 1]? = some (S[k - 1]).cs := by rw [List.getElem?_map, List.getElem?_eq_getElem (by omega)]; rfl
      have hel1 := y23.elem hg1
      have hidx1 : V.idxS 8 x2 (.int .i64 ((k - 1 : Nat) : Int)) = some (elp 8 x2 (k - 1) 0) := y23.idxN (by simp; omega)
      have up := pw_get hup (show k - 1 < k by omega) (List.getElem?_eq_getElem (by omega)) (List.getElem?_eq_getElem hb)
      have hng : ¬ 0 < lineCmp S[k - 1] S[k] := by
        have := lineCmp_swap S[k - 1] S[k]
        simp [lessC] at up; omega
      have hgt : V.bin .gtr (.int .i64 (k : Int)) (.int .i64 0) = some (.bool true) := by rw [V.bin_gtr]; simp; omega
      simp -dsimp only [hgt, B.pv_some, B.gd_f, Bool.not_false, B.gd_t, B.gdb_pure, B.gdb_true, gv_true, sub1 (show 1 ≤ k by omega) (show k < 4611686018427387904 by omega), hidx1, hidx, B.ldn_eq, hel1, hel]
      refine s5 _ _ _ _ ?_
      simp -dsimp only [gv_true, B.gd_t, B.gdb_true, V.bin_gtr, B.pv_some, B.pick_t, hng, decide_false, B.pick_f, B.cond_false, B.gd_f, Bool.not_false, add1 (show k < 4611686018427387904 by omega)]
      exact hYn
  · have h1 := lineCmp_one a b; have h2 := lineCmp_one b c; have h3' := lineCmp_one a c
    have h4 := lineCmp_swap a b
    have h5 := lineCmp_chain a b c
    have h6 : lineCmp a a = 0 := by have := lineCmp_swap a a; omega
    simp -dsimp [e2]
    refine s5 a b _ _ ?_
    refine s5 b c _ _ ?_
    refine s5 a c _ _ ?_
    simp -dsimp [e2]
    refine s5 b a _ _ ?_
    rw [h4]
    generalize lineCmp a b = p at *
    generalize lineCmp b c = q at *
    generalize lineCmp a c = r at *
    have hw : IntKind.i64.wrap (-p) = -p := wrap_i64 (by omega) (by omega)
    simp -dsimp [hw]
    refine s5 a a _ _ ?_
    rw [h6]
    have fin := dn_le hle hq
    rcases h1 with rfl | rfl | rfl <;> rcases h2 with rfl | rfl | rfl <;> rcases h3' with rfl | rfl | rfl <;> first | (exfalso; omega) | (simp -dsimp; exact fin)
end Go.Ab

/- What is proved: contracts of the ninth chapter's statements' functions: those ahead of one. No conditions. -/
set_option linter.unusedVariables false
set_option linter.unusedSimpArgs false
namespace Go.Ab
variable {C : CSem} {N : Nat → Nat}
theorem lineCmp_eq (a b : Line) : lineCmp a b = 0 ↔ a.Rank = b.Rank ∧ a.Id = b.Id := by
  unfold lineCmp orInt cmpInt
  repeat' split
  all_goals omega
theorem nodup_inj {α : Type} {L : List α} (h : L.Nodup) {i j : Nat} (hi : i < L.length) (hj : j < L.length) (e : L[i] = L[j]) : i = j := by
  have hp := List.pairwise_iff_getElem.1 h
  rcases Nat.lt_trichotomy i j with k | k | k
  · exact absurd e (hp i j hi hj k)
  · exact k
  · exact absurd e.symm (hp j i hj hi k)
theorem count_nodup {α : Type} [DecidableEq α] : ∀ {l : List α}, l.Nodup → ∀ {a : α}, a ∈ l → l.count a = 1
  | [], _, _, h => by cases h
  | x :: l, hn, a, h => by
    rw [List.nodup_cons] at hn
    rw [List.count_cons]
    by_cases e : x = a
    · subst e
      have : l.count x = 0 := List.count_eq_zero.2 hn.1
      simp [this]
    · have ha : a ∈ l := by rcases List.mem_cons.1 h with h | h; exact absurd h.symm e; exact h
      rw [count_nodup hn.2 ha]; simp [e]
/-- Unlike numbers. -/
def UniqIds (L : List Line) : Prop := ∀ i j (hi : i < L.length) (hj : j < L.length), L[i].Id = L[j].Id → i = j
theorem UniqIds.mem {L : List Line} (u : UniqIds L) {a b : Line} (ha : a ∈ L) (hb : b ∈ L) (e : a.Id = b.Id) : a = b := by
  obtain ⟨i, hi, rfl⟩ := List.getElem_of_mem ha
  obtain ⟨j, hj, rfl⟩ := List.getElem_of_mem hb
  have := u i j hi hj e
  subst this; rfl
theorem UniqIds.nodup {L : List Line} (u : UniqIds L) : L.Nodup := by
  refine List.pairwise_iff_getElem.2 fun i j hi hj hij e => ?_
  have := u i j hi hj (by rw [e])
  omega
theorem openL_nodup {L : List Line} (u : UniqIds L) : (openL L).Nodup := (openL_perm L).nodup_iff.2 (u.nodup.sublist List.filter_sublist)
theorem openL_mem {L : List Line} {a : Line} (h : a ∈ openL L) : a ∈ L := (List.mem_filter.1 ((openL_perm L).mem_iff.1 h)).1
/-- Those ahead of the k-th open one are the first k. -/
theorem ahead_at {L : List Line} (u : UniqIds L) {k : Nat} (hk : k < (openL L).length) : aheadL L (openL L)[k].Id = (openL L).take k := by
  unfold aheadL
  have hn := openL_nodup u
  have : (openL L).findIdx? (fun l => decide (l.Id = (openL L)[k].Id)) = some k := by
    rw [List.findIdx?_eq_some_iff_getElem]
    refine ⟨hk, by simp, fun j hj => ?_⟩
    simp only [decide_eq_true_eq]
    intro e
    have := u.mem (openL_mem (List.getElem_mem (by omega))) (openL_mem (List.getElem_mem hk)) e
    have := nodup_inj hn _ _ this
    omega
  rw [this]
theorem take_count {α : Type} [DecidableEq α] {S : List α} (hn : S.Nodup) {i k : Nat} (hi : i < S.length) : (S.take k).count S[i] = if i < k then 1 else 0 := by
  split
  · rename_i h
    have hm : S[i] ∈ S.take k := by
      rw [List.mem_take_iff_getElem]
      exact ⟨i, by omega, rfl⟩
    exact count_nodup (hn.sublist (List.take_sublist _ _)) hm
  · rename_i h
    rw [List.count_eq_zero]
    intro hm
    rw [List.mem_take_iff_getElem] at hm
    obtain ⟨j, hj, e⟩ := hm
    have := nodup_inj hn _ _ e
    omega
theorem open_lt {L : List Line} (u : UniqIds L) {i k : Nat} (hi : i < (openL L).length) (hk : k < (openL L).length) : lineCmp (openL L)[i] (openL L)[k] < 0 ↔ i < k := by
  have hup := openL_up L
  have hn := openL_nodup u
  have ne : i ≠ k → lineCmp (openL L)[i] (openL L)[k] ≠ 0 := fun h e => by
    have := u.mem (openL_mem (List.getElem_mem hi)) (openL_mem (List.getElem_mem hk)) ((lineCmp_eq _ _).1 e).2
    exact h (nodup_inj hn _ _ this)
  have key : ∀ {p q : Nat} (hp : p < (openL L).length) (hq : q < (openL L).length), p < q → ¬ 0 < lineCmp (openL L)[p] (openL L)[q] := fun {p q} hp hq h => by
    have up := pw_get hup h (List.getElem?_eq_getElem hp) (List.getElem?_eq_getElem hq)
    have := lineCmp_swap (openL L)[p] (openL L)[q]
    simp [lessC] at up; omega
  rcases Nat.lt_trichotomy i k with h | h | h
  · have := key hi hk h
    have := ne (by omega)
    omega
  · subst h
    have : lineCmp (openL L)[i] (openL L)[i] = 0 := by rw [lineCmp_eq]; exact ⟨rfl, rfl⟩
    omega
  · have h1 := key hk hi h
    have h2 := lineCmp_swap (openL L)[i] (openL L)[k]
    have := ne (by omega)
    omega
end Go.Ab

/- What is proved: plain facts on lots: what is over, how much can be used. No program in sight. No conditions. -/
set_option linter.unusedVariables false
set_option linter.unusedSimpArgs false
namespace Go.Ab
end Go.Ab

/- What is proved: contracts of the fourth chapter's statements' functions: what is over. No conditions. -/
set_option linter.unusedVariables false
set_option linter.unusedSimpArgs false
namespace Go.Ab
variable {C : CSem} {N : Nat → Nat}
def kit_Pick.Spec (C : CSem) (N : Nat → Nat) : Prop := ∀ (a m : Int) (h : AHeap) (Q : AVal → AHeap → Prop), 0 < m → m ≤ 4611686018427387904 → (∀ n : Int, 0 ≤ n → n < m → Q (.int .i64 n) h) → C (N 155) [.int .i64 a, .int .i64 m] h Q
theorem kit_Pick.spec (i : kit_Pick.Imp C N) : kit_Pick.Spec C N := by
  intro a m h Q h1 h2 hq
  apply i
  have k1 := Int.tmod_lt_of_pos a h1
  have k2 := Int.lt_tmod_of_pos a h1
  have hm : m ≠ 0 := by omega
  simp -dsimp [hm, show ¬ m < 1 by omega]
  refine B.cond_bool (fun hb => ?_) (fun hb => ?_) <;> simp -dsimp at hb ⊢
  · rw [wrap_i64 (by omega) (by omega)]
    exact dn_same (hq _ (by omega) (by omega))
  · exact dn_same (hq _ hb k1)
end Go.Ab

/- What is proved: contract of the ninth chapter's statement on those ahead of one. No conditions. -/
set_option linter.unusedVariables false
set_option linter.unusedSimpArgs false
namespace Go.Ab
variable {C : CSem} {N : Nat → Nat}
theorem field1Line (l : Line) : V.field1 0 (.agg l.cs) = some (.int .i64 l.Id) := by simp
theorem lineNeq (a b : Line) : V.binAgg .neq [.i .i64, .s, .i .i64, .i .i64, .i .i64, .i .u8, .i .i64, .s] (.agg a.cs) (.agg b.cs) = some (.bool (!decide (a = b))) := lineF.neq a b
def law09_RankAhead.Spec (C : CSem) (N : Nat → Nat) : Prop := ∀ (x : AVal) (L : List Line) (R : List (List AVal)) (p : Int) (h : AHeap) (Q : AVal → AHeap → Prop), SlX h 8 x (L.map Line.cs) R → L.length < 4611686018427387904 → (∀ l ∈ L, l.Item.length < 4611686018427387904 ∧ l.Code.length < 4611686018427387904) →
  Q (.bool true) h → C (N 200) [x, .int .i64 p] h Q
theorem law09_RankAhead.spec (i : law09_RankAhead.Imp C N) (s1 : law09_awake.Spec C N) (s2 : law09_great.Spec C N) (s3 : rank_Open.Spec C N) (s4 : kit_SameLines.Spec C N) (s5 : rank_Compare.Spec C N) (s6 : law09_count.Spec C N) (s7 : rank_Ahead.Spec C N) (s8 : kit_Pick.Spec C N) : law09_RankAhead.Spec C N := by
  intro x L R p h Q hx hlen hit hq
  apply i
  simp -dsimp
  refine s1 _ _ ?_
  simp -dsimp
  refine s2 _ _ _ _ _ hx hlen hit fun bg hbg => ?_
  refine B.cond_bool (fun hb => dn_same hq) (fun hb => ?_)
  have hl := hbg hb
  have e1 := hx.lenSl
  rw [List.length_map] at e1
  have gx : ∀ {k : Nat} (hk : k < L.length), (L.map Line.cs)[k]? = some (L[k]).cs := fun hk => by rw [List.getElem?_map, List.getElem?_eq_getElem hk]; rfl
  have ix : ∀ {k : Nat} (hk : k < L.length), V.idxS 8 x (.int .i64 (k : Int)) = some (elp 8 x k 0) := fun hk => hx.idxN (by simpa using hk)
  have fx : ∀ {k : Nat} (hk : k < L.length), V.fieldAddr 0 (elp 8 x k 0) = some (elp 8 x k 0) := fun {k} hk => by have := hx.fieldA (i := k) (by simpa using hk) 0 0; simpa using this
  have lx : ∀ {k : Nat} (hk : k < L.length), A.ldv h (elp 8 x k 0) = some (.int .i64 L[k].Id) := fun {k} hk => by have := hx.ldv (i := k) (f := 0) (gx hk) (by omega); simpa using this
  refine LoopR.intro (fun t vs hh => hh = h ∧ ∃ k : Nat, k + t = L.length ∧ vs = [.int .i64 (k : Int)] ∧ ∀ i j (hi : i < L.length) (hj : j < L.length), i < k → j < i → L[i].Id ≠ L[j].Id) L.length ?_ ⟨rfl, 0, by omega, rfl, fun i j hi hj h => by omega⟩
  rintro Y t vs hh ⟨rfl, k, ht, rfl, hu⟩ hY
  simp -dsimp only [law09_RankAhead.l9, law09_RankAhead.k8, e1, lssN, B.pv_some]
  refine B.cond_bool (fun hb => ?_) (fun hb => ?_) <;> simp only [decide_eq_true_eq, decide_eq_false_iff_not] at hb
  · refine LoopR.intro (fun t vs h2 => h2 = hh ∧ ∃ j : Nat, j + t = k ∧ vs = [.int .i64 (j : Int)] ∧ ∀ i (hi : i < L.length), i < j → L[k].Id ≠ L[i].Id) k ?_ ⟨rfl, 0, by omega, rfl, fun i hi h => by omega⟩
    rintro Z t vs h2 ⟨rfl, j, hj, rfl, hv⟩ hZ
    simp -dsimp only [law09_RankAhead.l7, law09_RankAhead.k6, lssN, B.pv_some]
    refine B.cond_bool (fun hc => ?_) (fun hc => ?_) <;> simp only [decide_eq_true_eq, decide_eq_false_iff_not] at hc
    · have hjL : j < L.length := by omega
      simp -dsimp only [ix hb, fx hb, lx hb, ix hjL, fx hjL, lx hjL, B.ld_eq, V.bin_eql, B.pv_some]
      refine B.cond_bool (fun hd => dn_same hq) (fun hd => ?_)
      simp -dsimp only [add1 (show j < 4611686018427387904 by omega), B.pv_some]
      refine hZ (k - (j + 1)) _ _ (by omega) ⟨rfl, j + 1, by omega, rfl, fun i hi hij => ?_⟩
      by_cases e : i = j
      · subst e; simpa using hd
      · exact hv i hi (by omega)
    · simp -dsimp only [add1 (show k < 4611686018427387904 by omega), B.pv_some]
      refine hY (L.length - (k + 1)) _ _ (by omega) ⟨rfl, k + 1, by omega, rfl, fun i j' hi hj' h1 h2 => ?_⟩
      by_cases e : i = k
      · subst e; exact hv j' hj' (by omega)
      · exact hu i j' hi hj' (by omega) h2
  have u : UniqIds L := fun i j hi hj e => by
    rcases Nat.lt_trichotomy i j with k1 | k1 | k1
    · exact absurd e.symm (hu j i hj hi (by omega) k1)
    · exact k1
    · exact absurd e (hu i j hi hj (by omega) k1)
  clear hY ht hb hu k t Y
  refine s3 _ _ _ _ _ hx (by omega) fun x2 R2 h2 o2 => ?_
  have hx2 := hx.mono o2.le
  have y2 := o2.slAt 0 rfl
  have hol := openL_len L
  have e2 := y2.lenSl
  rw [List.length_map] at e2
  simp -dsimp only [law09_RankAhead.k5, e2, B.pv_some, V.bin_eql]
  refine B.cond_bool (fun hb => ?_) (fun hb => ?_) <;> simp only [decide_eq_true_eq, decide_eq_false_iff_not] at hb
  · have h0 : openL L = [] := List.eq_nil_of_length_eq_zero (by omega)
    refine s7 _ _ _ _ _ _ hx2 (by omega) fun x3 h3 o3 => ?_
    have e3 := (o3.slAt 0 rfl).lenSl
    rw [show aheadL L p = [] by unfold aheadL; rw [h0]; rfl] at e3
    simp -dsimp [e3]
    exact dn_le (AHeap.le_trans o2.le o3.le) hq
  simp -dsimp only [law09_RankAhead.k4, e2, B.pv_some]
  refine s8 _ _ _ _ (by omega) (by omega) fun n n0 n1 => ?_
  obtain ⟨m, rfl⟩ : ∃ m : Nat, n = (m : Int) := ⟨n.toNat, by omega⟩
  have hm : m < (openL L).length := by omega
  have g2 : ∀ {k : Nat} (hk : k < (openL L).length), ((openL L).map Line.cs)[k]? = some ((openL L)[k]).cs := fun hk => by rw [List.getElem?_map, List.getElem?_eq_getElem hk]; rfl
  have i2 : ∀ {k : Nat} (hk : k < (openL L).length), V.idxS 8 x2 (.int .i64 (k : Int)) = some (elp 8 x2 k 0) := fun hk => y2.idxN (by simpa using hk)
  simp -dsimp only [i2 hm, B.ldn_eq, y2.elem (g2 hm), B.pv_some, fillLine, B.al_agg, field1Line]
  refine s7 _ _ _ _ _ _ hx2 (by omega) fun x3 h3 o3 => ?_
  rw [ahead_at u hm] at o3
  have y3 := o3.slAt 0 rfl
  have e3 := y3.lenSl
  rw [List.length_map, List.length_take, Nat.min_eq_left (by omega)] at e3
  have y2' := y2.mono o3.le
  have e2' := y2'.lenSl
  rw [List.length_map] at e2'
  obtain ⟨z, c1, c2, _⟩ := y2'.slice (by omega) (a := none) (b := some (.int .i64 (m : Int))) (lo := 0) (hi := m) (.inl ⟨rfl, rfl⟩) (.inr ⟨_, rfl⟩) (by omega) (by simp; omega)
  rw [List.drop_zero, List.take_append_of_le_length (by simp; omega), ← List.map_take] at c2
  have hge : V.bin .geq (.int .i64 (m : Int)) (.int .i64 ((openL L).length : Int)) = some (.bool false) := by rw [V.bin_geq]; simp; omega
  simp -dsimp only [law09_RankAhead.k3, e3, e2', hge, c1, B.pv_some, B.gd_f, Bool.not_false, B.gdb_true, gv_true]
  refine s4 _ _ _ _ _ _ _ _ y3 c2 (by simp; omega) ?_
  have hel := y2'.elem (g2 hm)
  simp -dsimp only [decide_true, V.un_not, Bool.not_true, B.pv_some, B.pick_f, B.gd_f, Bool.not_false, B.gdb_true, gv_true, i2 hm, B.ldn_eq, hel, fieldLine, lineNeq, B.cond_false, e3]
  have hle := AHeap.le_trans o2.le o3.le
  refine LoopR.intro (fun t vs hh => hh = h3 ∧ ∃ k : Nat, k + t = (openL L).length ∧ vs = [.int .i64 (k : Int)]) (openL L).length ?_ ⟨rfl, 0, by omega, rfl⟩
  rintro Y t vs h3 ⟨rfl, k, ht, rfl⟩ hY
  simp -dsimp only [law09_RankAhead.l2, law09_RankAhead.k1, e2', lssN, B.pv_some]
  refine B.cond_bool (fun hb => ?_) (fun hb => ?_) <;> simp only [decide_eq_true_eq, decide_eq_false_iff_not] at hb
  · have hek := y2'.elem (g2 hb)
    have hcnt := take_count (openL_nodup u) (k := m) hb
    have hlt := open_lt u hb hm
    simp -dsimp only [i2 hb, B.ldn_eq, hek, fieldLine, B.pv_some]
    refine s5 _ (openL L)[m] _ _ ?_
    refine keepS1 ⟨_, hek⟩ ?_
    simp -dsimp only [V.bin_lss, B.pv_some]
    refine s6 _ _ _ (openL L)[k] _ _ y3 (by simp; omega) ?_
    rw [hcnt]
    have hb1 : decide (lineCmp (openL L)[k] (openL L)[m] < 0) = decide (k < m) := decide_eq_decide.2 hlt
    have hb2 : V.bin .eql (.int .i64 (((if k < m then 1 else 0 : Nat) : Nat) : Int)) (.int .i64 1) = some (.bool (decide (k < m))) := by
      rw [V.bin_eql]; split <;> simp_all
    simp -dsimp only [hb1, hb2, B.pv_some, V.eqBool_neq, BEq.rfl, Bool.not_true, B.gd_f, Bool.not_false, B.gdb_true, gv_true, i2 hb, B.ldn_eq, hek, fieldLine, lineNeq]
    have fin : Y [.int .i64 ((k + 1 : Nat) : Int)] h3 := hY ((openL L).length - (k + 1)) _ _ (by omega) ⟨rfl, k + 1, by omega, rfl⟩
    have gf : ∀ (v : AVal), gv false v = .tup [] := fun v => gv_false v
    by_cases hd : (openL L)[k] = (openL L)[m]
    · have hdd : decide ((openL L)[k] = (openL L)[m]) = true := decide_eq_true hd
      simp -dsimp only [hdd, Bool.not_true, B.gd_t, B.gdb_false, B.gd_tup, B.gd_f, Bool.not_false, B.gdb_true, B.pick_f, B.cond_false, add1 (show k < 4611686018427387904 by omega), B.pv_some]
      exact fin
    · have hdd : decide ((openL L)[k] = (openL L)[m]) = false := decide_eq_false hd
      have hnz : lineCmp (openL L)[k] (openL L)[m] ≠ 0 := fun e => hd (u.mem (openL_mem (List.getElem_mem hb)) (openL_mem (List.getElem_mem hm)) ((lineCmp_eq _ _).1 e).2)
      simp -dsimp only [hdd, Bool.not_false, B.gd_t, B.gdb_true, i2 hb, B.ldn_eq, hek, fieldLine, B.pv_some]
      refine s5 _ (openL L)[m] _ _ ?_
      simp -dsimp only [hdd, V.bin_eql, hnz, decide_false, B.gd_t, B.gdb_true, B.gd_f, Bool.not_false, B.pick_t, B.pick_f, B.cond_false, add1 (show k < 4611686018427387904 by omega), B.pv_some]
      exact fin
  · exact dn_le hle hq
end Go.Ab

/- What is proved: contracts of answers' bytes, the program's and the document's. No conditions. -/
set_option linter.unusedVariables false
set_option linter.unusedSimpArgs false
namespace Go.Ab
variable {C : CSem} {N : Nat → Nat}

end Go.Ab

/- What is proved: contracts of what reads answers' bytes, the program's and the document's. No conditions. -/
set_option linter.unusedVariables false
set_option linter.unusedSimpArgs false
namespace Go.Ab
variable {C : CSem} {N : Nat → Nat}

structure Rdr where
  at_ : Nat
  bad : Bool
def beVal (l : List UInt8) : Nat := l.foldl (fun n c => 256 * n + c.toNat) 0
def rNum (b : List UInt8) (k : Nat) (r : Rdr) : Int × Rdr := if r.bad = true ∨ b.length - r.at_ < k then (0, ⟨r.at_, true⟩) else (IntKind.i64.wrap (beVal ((b.drop r.at_).take k)), ⟨r.at_ + k, false⟩)
def rCode (b : List UInt8) (r : Rdr) : List UInt8 × Rdr := if r.bad then ([], r) else ((codeGet (b.drop r.at_)).1, ⟨r.at_ + (codeGet (b.drop r.at_)).2.1, !(codeGet (b.drop r.at_)).2.2⟩)
theorem rNum_le {b : List UInt8} {k : Nat} {r : Rdr} (h : r.at_ ≤ b.length) : (rNum b k r).2.at_ ≤ b.length := by
  unfold rNum; split
  · exact h
  · rename_i hh; simp only [not_or] at hh; simp only; omega
theorem codeGet_le : ∀ b : List UInt8, (codeGet b).2.1 ≤ b.length
  | [] => by simp [codeGet]
  | c :: r => by rw [codeGet_cons]; split <;> simp; rename_i hh; simp only [not_or] at hh; omega
theorem rCode_le {b : List UInt8} {r : Rdr} (h : r.at_ ≤ b.length) : (rCode b r).2.at_ ≤ b.length := by
  unfold rCode; split
  · exact h
  · have := codeGet_le (b.drop r.at_); simp at this ⊢; omega

/-- A reader: p, over the bytes x. -/
abbrev RdAt (h0 h : AHeap) (p x : AVal) (r : Rdr) : Prop := Owns h0 h [.box p [x, .int .i64 (r.at_ : Int), .bool r.bad]]

def ref13_Reader_Number.Spec (C : CSem) (N : Nat → Nat) : Prop := ∀ (h0 h : AHeap) (p x : AVal) (b : List UInt8) (R : List (List AVal)) (r : Rdr) (k : Nat) (Q : AVal → AHeap → Prop), SlX h0 1 x (b.map bc) R → b.length < 4611686018427387904 → r.at_ ≤ b.length → k ≤ 8 → RdAt h0 h p x r →
  (∀ h', RdAt h0 h' p x (rNum b k r).2 → Q (.int .i64 (rNum b k r).1) h') → C (N 71) [p, .int .i64 (k : Int)] h Q
def rLot (b : List UInt8) (r : Rdr) : Lot × Rdr :=
  let a := rNum b 8 r
  let c := rCode b a.2
  let f := rNum b 2 c.2
  let u := rNum b 2 f.2
  let q := rNum b 8 u.2
  let e := rNum b 1 q.2
  (⟨a.1, c.1, f.1, u.1, q.1, decide (e.1 = 1)⟩, ⟨e.2.at_, e.2.bad || decide (1 < e.1)⟩)
theorem rLot_le {b : List UInt8} {r : Rdr} (h : r.at_ ≤ b.length) : (rLot b r).2.at_ ≤ b.length :=
  rNum_le (rNum_le (rNum_le (rNum_le (rCode_le (rNum_le h)))))
def rUse (b : List UInt8) (r : Rdr) : Use × Rdr :=
  let a := rNum b 8 r
  let c := rNum b 8 a.2
  let f := rNum b 8 c.2
  (⟨a.1, c.1, f.1⟩, f.2)
theorem rUse_le {b : List UInt8} {r : Rdr} (h : r.at_ ≤ b.length) : (rUse b r).2.at_ ≤ b.length := rNum_le (rNum_le (rNum_le h))

def ref14_lot.Spec (C : CSem) (N : Nat → Nat) : Prop := ∀ (h0 h : AHeap) (p x : AVal) (b : List UInt8) (R : List (List AVal)) (r : Rdr) (Q : AVal → AHeap → Prop), SlX h0 1 x (b.map bc) R → b.length < 4611686018427387904 → r.at_ ≤ b.length → RdAt h0 h p x r →
  (∀ h', RdAt h0 h' p x (rLot b r).2 → Q (.agg (rLot b r).1.cs) h') → C (N 72) [p] h Q
end Go.Ab
