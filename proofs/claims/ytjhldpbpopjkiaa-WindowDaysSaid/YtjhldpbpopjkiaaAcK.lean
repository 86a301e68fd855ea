/- What is proved: contracts of what the statements share about lists of plain structs, whatever the struct: are they the same, lent with marks, kept. No conditions. -/
import Derived.Test.YtjhldpbpopjkiaaAcB
set_option linter.unusedVariables false
set_option linter.unusedSimpArgs false
namespace Go.Ab
variable {C : CSem} {N : Nat → Nat}

theorem take_succ {α : Type} {L : List α} {i : Nat} {w : α} (h : L[i]? = some w) : L.take (i + 1) = L.take i ++ [w] := by
  rw [List.take_add_one, h]; rfl
theorem get_map {α β : Type} {f : α → β} {L : List α} {i : Nat} {w : α} (h : L[i]? = some w) : (L.map f)[i]? = some (f w) := by simp [h]
theorem inc64 {n : Nat} (h : n < 4611686018427387904) : IntKind.i64.wrap ((n : Int) + 1) = ((n + 1 : Nat) : Int) := by rw [wrap_i64 (by omega) (by omega)]; omega
theorem get_lt {α : Type} {L : List α} {k : Nat} (h : k < L.length) : ∃ w, L[k]? = some w := ⟨L[k], by simp [h]⟩

/-- A type whose values stand as so many cells, compared one by one. -/
structure Flat (T : Type) [DecidableEq T] where
  cs : T → List AVal
  es : Nat
  sh : List Ck
  len : ∀ t, (cs t).length = es
  pos : 0 < es
  eq : ∀ a b, V.eqCells sh (cs a) (cs b) = some (decide (a = b))
section
variable {T : Type} [DecidableEq T] (F : Flat T)

theorem Flat.neq (a b : T) : V.binAgg .neq F.sh (.agg (F.cs a)) (.agg (F.cs b)) = some (.bool (!decide (a = b))) := by simp only [V.binAgg, F.eq, V.eqv]
theorem Flat.eql (a b : T) : V.binAgg .eql F.sh (.agg (F.cs a)) (.agg (F.cs b)) = some (.bool (decide (a = b))) := by simp only [V.binAgg, F.eq, V.eqv]

@[simp] def sameG.k2 (es : Nat) (sh : List Ck) (Q : AVal → AHeap → Prop) (Y1 : List AVal → AHeap → Prop) (v0 v1 v5 : AVal) (h : AHeap) : Prop :=
  B.pv (V.lenSl v0) fun v13 =>
    B.pv (V.bin .lss v5 v13) fun v14 =>
    B.cond v14
    (B.pv (V.idxS es v0 v5) fun v19 =>
    B.ldn h v19 es fun v20 =>
    B.pv (V.idxS es v1 v5) fun v23 =>
    B.ldn h v23 es fun v24 =>
    B.pv (V.binAgg .neq sh v20 v24) fun v25 =>
    B.cond v25
    (Q (.bool false) h)
    (B.pv (V.bin .add v5 (.int .i64 1)) fun v16 =>
    Y1 [v16] h))
    (Q (.bool true) h)
@[simp] def sameG.l4 (es : Nat) (sh : List Ck) (Q : AVal → AHeap → Prop) (v0 v1 : AVal) : List AVal → AHeap → (List AVal → AHeap → Prop) → Prop
  | [v5], h, Y1 => sameG.k2 es sh Q Y1 v0 v1 v5 h
  | _, _, _ => False
def sameG (es : Nat) (sh : List Ck) (v0 v1 : AVal) (h : AHeap) (Q : AVal → AHeap → Prop) : Prop :=
  B.pv (V.lenSl v0) fun v7 =>
    B.pv (V.lenSl v1) fun v9 =>
    B.pv (V.bin .neq v7 v9) fun v10 =>
    B.cond v10
    (Q (.bool false) h)
    (LoopR (sameG.l4 es sh Q v0 v1) [(.int .i64 0)] h)
theorem sameG_spec {x y : AVal} {L M : List T} {R S : List (List AVal)} {h : AHeap} {Q : AVal → AHeap → Prop} (hx : SlX h F.es x (L.map F.cs) R) (hy : SlX h F.es y (M.map F.cs) S) (hlen : L.length < 4611686018427387904)
    (hq : Q (.bool (decide (L = M))) h) : sameG F.es F.sh x y h Q := by
  have hlx := hx.lenSl
  have hly := hy.lenSl
  rw [List.length_map] at hlx hly
  simp -dsimp [sameG, hlx, hly]
  refine B.cond_bool (fun hb => ?_) (fun hb => ?_) <;> simp -dsimp at hb ⊢
  · rw [decide_eq_false fun e => hb (by rw [e])] at hq
    exact hq
  · refine LoopR.intro (fun n vs hh => ∃ k, k + n = L.length ∧ vs = [.int .i64 k] ∧ hh = h ∧ L.take k = M.take k) L.length ?_ ⟨0, by simp, by simp, rfl, by simp⟩
    rintro Y n vs _ ⟨k, hn, rfl, rfl, he⟩ hY
    simp -dsimp [hlx]
    refine B.cond_bool (fun hc => ?_) (fun hc => ?_) <;> simp -dsimp at hc ⊢
    · obtain ⟨w, hw⟩ := get_lt hc
      obtain ⟨u, hu⟩ := get_lt (L := M) (k := k) (by omega)
      have hk : k < (L.map F.cs).length := by simpa using hc
      have hk2 : k < (M.map F.cs).length := by simp; omega
      simp only [hx.idxN hk, hy.idxN hk2, hx.elem (get_map hw), hy.elem (get_map hu), B.pv_some, B.ldn_eq, F.neq]
      refine B.cond_bool (fun hd => ?_) (fun hd => ?_) <;> simp -dsimp at hd ⊢
      · rw [decide_eq_false fun e => by subst e; rw [hw] at hu; cases hu; exact hd rfl] at hq
        exact hq
      · simp [inc64 (n := k) (by omega)]
        refine hY (L.length - (k + 1)) _ _ (by omega) ⟨k + 1, by omega, by simp, rfl, ?_⟩
        rw [take_succ hw, take_succ hu, he, hd]
    · rw [List.take_of_length_le (by omega), List.take_of_length_le (by omega)] at he
      rw [decide_eq_true he] at hq
      exact hq

/-- The marks behind a list that is lent. -/
def marks (mk : Int → T) (n : Nat) : List (List AVal) := (List.range n).map fun (i : Nat) => F.cs (mk (i : Int))
@[simp] theorem marks_len (mk : Int → T) (n : Nat) : (marks F mk n).length = n := by simp [marks]
theorem marks_get (mk : Int → T) {n k : Nat} (hk : k < n) : (marks F mk n)[k]? = some (F.cs (mk k)) := by simp [marks, hk]
theorem marks_succ (mk : Int → T) (n : Nat) : marks F mk (n + 1) = marks F mk n ++ [F.cs (mk n)] := by simp [marks, List.range_succ]

@[simp] def lentG.k2 (C : CSem) (es bytes f : Nat) (z : List AVal) (m : Int) (Q : AVal → AHeap → Prop) (Y1 : List AVal → AHeap → Prop) (v0 v3 v4 : AVal) (h : AHeap) : Prop :=
  B.pv (V.bin .lss v4 (.int .i64 12)) fun v13 =>
    B.cond v13
    (B.call C f [(.int .i64 m), v4] h fun v18 h =>
    B.newO h (fillL [(0, some es, v18)] (repL 1 z)) fun i19 h =>
    B.appW h es bytes v3 (.sl i19 0 0 1 es 1) fun v20 h =>
    B.pv (V.bin .add v4 (.int .i64 1)) fun v15 =>
    Y1 [v20, v15] h)
    (B.pv (V.lenSl v0) fun v23 =>
    B.pv (V.cutSl es v3 none (some v23)) fun v24 =>
    Q v24 h)
@[simp] def lentG.l4 (C : CSem) (es bytes f : Nat) (z : List AVal) (m : Int) (Q : AVal → AHeap → Prop) (v0 : AVal) : List AVal → AHeap → (List AVal → AHeap → Prop) → Prop
  | [v3, v4], h, Y1 => lentG.k2 C es bytes f z m Q Y1 v0 v3 v4 h
  | _, _, _ => False
def lentG (C : CSem) (es bytes f : Nat) (z : List AVal) (m : Int) (v0 : AVal) (h : AHeap) (Q : AVal → AHeap → Prop) : Prop :=
  B.pv (V.lenSl v0) fun v6 =>
    B.pv (V.bin .add v6 (.int .i64 12)) fun v7 =>
    0 < es ∧ B.mks h bytes (some z) (.int .i64 0) v7 fun v8 h =>
    B.appW h es bytes v8 v0 fun v11 h =>
    LoopR (lentG.l4 C es bytes f z m Q v0) [v11, (.int .i64 0)] h
theorem lentG_spec {bytes f : Nat} {z : List AVal} {m : Int} {mk : Int → T} (hz : z.length = F.es) (hbm : bytes ≤ 1000) (s1 : ∀ (i : Int) (h : AHeap) (Q : AVal → AHeap → Prop), Q (.agg (F.cs (mk i))) h → C f [.int .i64 m, .int .i64 i] h Q)
    {x : AVal} {L : List T} {R : List (List AVal)} {h : AHeap} {Q : AVal → AHeap → Prop} (hx : SlX h F.es x (L.map F.cs) R) (hlen : L.length ≤ 100000000)
    (hq : ∀ x' h', Owns h h' [.sl F.es x' (L.map F.cs) (marks F mk 12)] → Q x' h') : lentG C F.es bytes f z m x h Q := by
  have hlx := hx.lenSl
  rw [List.length_map] at hlx
  have hmul : ∀ n : Nat, n ≤ 100000100 → n * bytes ≤ 140737488355328 := fun n hn => by
    have := Nat.mul_le_mul hn hbm
    omega
  have e1 : IntKind.i64.wrap ((L.length : Int) + 12) = (L.length : Int) + 12 := wrap_i64 (by omega) (by omega)
  simp -dsimp [lentG, hlx, e1]
  refine ⟨F.pos, (Owns.start h).mks (es := F.es) hz (by omega) (by omega) ?_ (by omega) fun y h1 ho => ?_⟩
  · have := hmul (L.length + 12) (by omega)
    have e : ((L.length : Int) + 12) * bytes = ((L.length + 12) * bytes : Nat) := by simp
    rw [e]; omega
  refine ho.appW 0 rfl (hx.mono ho.le) F.pos (by simpa using hmul L.length (by omega)) (by simp [maxLen]; omega) fun y2 h2 ho2 _ => ?_
  refine LoopR.intro (fun n vs hh => ∃ k y, k + n = 12 ∧ vs = [y, .int .i64 k] ∧ Owns h hh [.sl F.es y (L.map F.cs ++ marks F mk k) []]) 12 ?_ ⟨0, y2, by simp, by simp, by simpa [marks] using ho2⟩
  rintro Y n vs hh ⟨k, y3, hn, rfl, ho3⟩ hY
  simp -dsimp [hlx]
  refine B.cond_bool (fun hc => ?_) (fun hc => ?_) <;> simp -dsimp at hc ⊢
  · refine s1 _ _ _ ?_
    have hrep : repL 1 z = z := by unfold repL; split <;> simp
    have hfill : fillL [(0, some F.es, .agg (F.cs (mk k)))] z = some (F.cs (mk k)) := by
      have h1 := F.len (mk k)
      simp [h1, hz]
    rw [hrep, hfill]
    refine ho3.push 0 rfl (F.len _) F.pos (by simp; have := hmul (L.length + k + 1) (by omega); omega) (by simp [maxLen]; omega) fun z' h4 ho4 _ => ?_
    simp [inc64 (n := k) (by omega)]
    refine hY (12 - (k + 1)) _ _ (by omega) ⟨k + 1, z', by omega, by simp, ?_⟩
    rw [marks_succ, ← List.append_assoc]
    exact ho4
  · have : k = 12 := by omega
    subst this
    obtain ⟨x', e2, e3, e4⟩ := (ho3.slAt 0 rfl).slice F.pos (lo := 0) (hi := L.length) (a := none) (b := some (.int .i64 L.length)) (.inl ⟨rfl, rfl⟩) (.inr ⟨_, rfl⟩) (by omega) (by simp)
    simp -dsimp [hlx, e2]
    refine hq _ _ (ho3.turn 0 rfl (o' := .sl F.es x' (L.map F.cs) (marks F mk 12)) ?_ (fun id b hf hb => ho3.ownAt 0 rfl id b (by show foot y3 = some id; rw [← e4]; exact hf) hb) (fun j b hb _ => hb) (.inl e4))
    have h1 : ((L.map F.cs ++ marks F mk 12 ++ []).take L.length).drop 0 = L.map F.cs := by simp [List.take_append_of_le_length]
    have h2 : (L.map F.cs ++ marks F mk 12 ++ []).drop L.length = marks F mk 12 := by simp [List.drop_append_of_le_length]
    rw [h1, h2] at e3
    exact e3

@[simp] def keptG.k2 (C : CSem) (es f : Nat) (sh : List Ck) (m : Int) (Q : AVal → AHeap → Prop) (Y1 : List AVal → AHeap → Prop) (v1 v5 v6 : AVal) (h : AHeap) : Prop :=
  B.pv (V.lenSl v5) fun v19 =>
    B.pv (V.bin .lss v6 v19) fun v20 =>
    B.cond v20
    (B.pv (V.lenSl v1) fun v25 =>
    B.pv (V.bin .lss v6 v25) fun v26 =>
    B.gd h v26 true (fun K => K v5 h) fun v28 h =>
    B.gd h v26 true (fun K => K v6 h) fun v29 h =>
    B.gd h v26 true (fun K => B.pv (V.idxS es v28 v29) fun v => K v h) fun v30 h =>
    B.gd h v26 true (fun K => B.ldn h v30 es fun v => K v h) fun v31 h =>
    B.gd h v26 true (fun K => K v1 h) fun v32 h =>
    B.gd h v26 true (fun K => K v6 h) fun v33 h =>
    B.gd h v26 true (fun K => B.pv (V.idxS es v32 v33) fun v => K v h) fun v34 h =>
    B.gd h v26 true (fun K => B.ldn h v34 es fun v => K v h) fun v35 h =>
    B.gd h v26 true (fun K => B.pv (V.binAgg .eql sh v31 v35) fun v => K v h) fun v36 h =>
    B.gd h v26 true (fun K => B.pv (V.un .not v36) fun v => K v h) fun v37 h =>
    B.pick v26 v37 (.bool false) fun v38 =>
    B.gd h v38 false (fun K => K v6 h) fun v40 h =>
    B.gd h v38 false (fun K => K v1 h) fun v41 h =>
    B.gd h v38 false (fun K => B.pv (V.lenSl v41) fun v => K v h) fun v42 h =>
    B.gd h v38 false (fun K => B.pv (V.bin .geq v40 v42) fun v => K v h) fun v43 h =>
    B.gd h v38 false (fun K => K v43 h) fun v44 h =>
    B.gd h v44 true (fun K => K v5 h) fun v45 h =>
    B.gd h v44 true (fun K => K v6 h) fun v46 h =>
    B.gd h v44 true (fun K => B.pv (V.idxS es v45 v46) fun v => K v h) fun v47 h =>
    B.gd h v44 true (fun K => B.ldn h v47 es fun v => K v h) fun v48 h =>
    B.gd h v44 true (fun K => K v6 h) fun v49 h =>
    B.gd h v44 true (fun K => K v1 h) fun v50 h =>
    B.gd h v44 true (fun K => B.pv (V.lenSl v50) fun v => K v h) fun v51 h =>
    B.gd h v44 true (fun K => B.pv (V.bin .sub v49 v51) fun v => K v h) fun v52 h =>
    B.gd h v44 true (fun K => B.call C f [(.int .i64 m), v52] h (B.keepS h [(v47, some es)] K)) fun v53 h =>
    B.gd h v44 true (fun K => B.pv (V.binAgg .eql sh v48 v53) fun v => K v h) fun v54 h =>
    B.gd h v44 true (fun K => B.pv (V.un .not v54) fun v => K v h) fun v55 h =>
    B.gd h v38 false (fun K => B.pick v44 v55 (.bool false) fun v => K v h) fun v56 h =>
    B.pick v38 (.bool true) v56 fun v57 =>
    B.cond v57
    (Q (.bool false) h)
    (B.pv (V.bin .add v6 (.int .i64 1)) fun v22 =>
    Y1 [v22] h))
    (Q (.bool true) h)
@[simp] def keptG.l4 (C : CSem) (es f : Nat) (sh : List Ck) (m : Int) (Q : AVal → AHeap → Prop) (v1 v5 : AVal) : List AVal → AHeap → (List AVal → AHeap → Prop) → Prop
  | [v6], h, Y1 => keptG.k2 C es f sh m Q Y1 v1 v5 v6 h
  | _, _, _ => False
def keptG (C : CSem) (es f : Nat) (sh : List Ck) (m : Int) (v0 v1 : AVal) (h : AHeap) (Q : AVal → AHeap → Prop) : Prop :=
  B.pv (V.lenSl v0) fun v8 =>
    B.pv (V.lenSl v1) fun v10 =>
    B.pv (V.bin .neq v8 v10) fun v11 =>
    B.cond v11
    (Q (.bool false) h)
    (B.pv (V.lenSl v1) fun v14 =>
    B.pv (V.bin .add v14 (.int .i64 12)) fun v15 =>
    B.pv (V.cutSl es v0 none (some v15)) fun v16 =>
    LoopR (keptG.l4 C es f sh m Q v1 v16) [(.int .i64 0)] h)
theorem keptG_spec {f : Nat} {m : Int} {mk : Int → T} (s1 : ∀ (i : Int) (h : AHeap) (Q : AVal → AHeap → Prop), Q (.agg (F.cs (mk i))) h → C f [.int .i64 m, .int .i64 i] h Q)
    {x y : AVal} {L M : List T} {R : List (List AVal)} {h : AHeap} {Q : AVal → AHeap → Prop} (hx : SlX h F.es x (L.map F.cs) (marks F mk 12)) (hy : SlX h F.es y (M.map F.cs) R) (hlen : L.length ≤ 100000000)
    (hq : Q (.bool (decide (L = M))) h) : keptG C F.es f F.sh m x y h Q := by
  have hlx := hx.lenSl
  have hly := hy.lenSl
  rw [List.length_map] at hlx hly
  simp -dsimp [keptG, hlx, hly]
  refine B.cond_bool (fun hb => ?_) (fun hb => ?_) <;> simp -dsimp at hb ⊢
  · rw [decide_eq_false fun e => hb (by rw [e])] at hq
    exact hq
  · have e1 : IntKind.i64.wrap ((M.length : Int) + 12) = ((M.length + 12 : Nat) : Int) := by rw [wrap_i64 (by omega) (by omega)]; omega
    obtain ⟨z, e2, e3, e4⟩ := hx.slice F.pos (lo := 0) (hi := M.length + 12) (a := none) (b := some (.int .i64 ((M.length + 12 : Nat) : Int))) (.inl ⟨rfl, rfl⟩) (.inr ⟨_, rfl⟩) (by omega) (by simp; omega)
    have h1 : ((L.map F.cs ++ marks F mk 12).take (M.length + 12)).drop 0 = L.map F.cs ++ marks F mk 12 := by rw [List.drop_zero, List.take_of_length_le]; simp; omega
    rw [h1] at e3
    have hlz := e3.lenSl
    simp only [List.length_append, List.length_map, marks_len] at hlz
    simp only [hly, V.bin_add, e1, e2, B.pv_some]
    refine LoopR.intro (fun n vs hh => ∃ k, k + n = L.length + 12 ∧ vs = [.int .i64 k] ∧ hh = h ∧ L.take k = M.take k) (L.length + 12) ?_ ⟨0, by simp, by simp, rfl, by simp⟩
    rintro Y n vs _ ⟨k, hn, rfl, rfl, he⟩ hY
    simp -dsimp [hlz]
    refine B.cond_bool (fun hc => ?_) (fun hc => ?_) <;> simp -dsimp at hc ⊢
    · have hk : k < (L.map F.cs ++ marks F mk 12).length := by simp; omega
      by_cases hkL : k < L.length
      · have ew := get_lt hkL
        have eu := get_lt (L := M) (k := k) (by omega)
        obtain ⟨w, hw⟩ := ew
        obtain ⟨u, hu⟩ := eu
        have hk2 : k < (M.map F.cs).length := by simp; omega
        have hkM : k < M.length := by omega
        have hwz : (L.map F.cs ++ marks F mk 12)[k]? = some (F.cs w) := by rw [List.getElem?_append_left (by simpa using hkL)]; exact get_map hw
        by_cases hwu : w = u
        · subst hwu
          simp -dsimp [hly, hkM, e3.idxN hk, hy.idxN hk2, e3.elem hwz, hy.elem (get_map hu), F.eql, show ¬ M.length ≤ k by omega, inc64 (n := k) (by omega)]
          refine hY (L.length + 12 - (k + 1)) _ _ (by omega) ⟨k + 1, by omega, by simp, rfl, ?_⟩
          rw [take_succ hw, take_succ hu, he]
        · simp -dsimp [hly, hkM, e3.idxN hk, hy.idxN hk2, e3.elem hwz, hy.elem (get_map hu), F.eql, hwu]
          rw [decide_eq_false fun e => by subst e; rw [hw] at hu; cases hu; exact hwu rfl] at hq
          exact hq
      · have hkM : ¬ k < M.length := by omega
        have hmk : (L.map F.cs ++ marks F mk 12)[k]? = some (F.cs (mk ((k - M.length : Nat) : Int))) := by
          rw [List.getElem?_append_right (by simp; omega), List.length_map, show k - L.length = k - M.length by omega]
          exact marks_get F mk (by omega)
        have e5 : IntKind.i64.wrap ((k : Int) - M.length) = ((k - M.length : Nat) : Int) := by rw [wrap_i64 (by omega) (by omega)]; omega
        simp -dsimp [hly, hkM, e3.idxN hk, e3.elem hmk, show M.length ≤ k by omega, e5]
        refine s1 _ _ _ ⟨?_, ?_⟩
        · intro p hp
          rw [List.mem_singleton.1 hp]
          exact ⟨_, e3.elem hmk, e3.elem hmk⟩
        · simp [F.eql, inc64 (n := k) (by omega)]
          refine hY (L.length + 12 - (k + 1)) _ _ (by omega) ⟨k + 1, by omega, by simp, rfl, ?_⟩
          rw [List.take_of_length_le (by omega), List.take_of_length_le (by omega)] at he ⊢
          exact he
    · rw [List.take_of_length_le (by omega), List.take_of_length_le (by omega)] at he
      rw [decide_eq_true he] at hq
      exact hq
end
end Go.Ab
