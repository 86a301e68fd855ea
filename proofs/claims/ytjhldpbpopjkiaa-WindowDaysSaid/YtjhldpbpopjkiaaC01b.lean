/- What is proved: contracts of windows' functions. No conditions. -/
import Derived.Test.YtjhldpbpopjkiaaC01
set_option linter.unusedVariables false
namespace Go.Ab
variable {C : CSem} {N : Nat → Nat}

def winFrom (a : Window) (day : Int) : Window × Bool := if a.right then within (max a.From day) a.Until else (.zero, false)
def window_From.Spec (C : CSem) (N : Nat → Nat) : Prop := ∀ (a b day : Int) (h : AHeap) (Q : AVal → AHeap → Prop), Q (wb (winFrom ⟨a, b⟩ day)) h → C (N 3) [.agg [.int .i64 a, .int .i64 b], .int .i64 day] h Q
theorem window_From.spec (i : window_From.Imp C N) (s1 : window_Right.Spec C N) (s2 : window_within.Spec C N) : window_From.Spec C N := by
  intro a b day h Q hq
  apply i
  simp +contextual -dsimp
  refine s1 _ _ _ _ ?_
  simp +contextual -dsimp
  refine B.cond_bool (fun hb => ?_) (fun hb => ?_) <;> simp +contextual -dsimp at hb ⊢
  · rw [show winFrom ⟨a, b⟩ day = (.zero, false) by simp [winFrom, hb]] at hq
    exact dn_same hq
  · rw [show winFrom ⟨a, b⟩ day = within (max a day) b by simp [winFrom, hb]] at hq
    refine s2 _ _ _ _ ?_
    simp +contextual -dsimp
    exact dn_same hq

def Window.has (a : Window) (day : Int) : Bool := a.right && decide (a.From ≤ day) && decide (day < a.Until)
def window_Has.Spec (C : CSem) (N : Nat → Nat) : Prop := ∀ (a b day : Int) (h : AHeap) (Q : AVal → AHeap → Prop), Q (.bool (Window.has ⟨a, b⟩ day)) h → C (N 7) [.agg [.int .i64 a, .int .i64 b], .int .i64 day] h Q
theorem window_Has.spec (i : window_Has.Imp C N) (s1 : window_Right.Spec C N) : window_Has.Spec C N := by
  intro a b day h Q hq
  apply i
  simp +contextual -dsimp
  refine s1 _ _ _ _ ?_
  simp +contextual -dsimp
  exact dn_same hq

/-! Rows. -/
def tick (L : List Window) (j : Nat) : Int := ((L.countP fun w => decide (w.From = (j : Int)) : Nat) : Int) - ((L.countP fun w => decide (w.Until = (j : Int)) : Nat) : Int)
def opn (L : List Window) : Nat → Int
  | 0 => 0
  | d + 1 => opn L d + tick L d
def rowStep (L : List Window) (out : List Window) (d : Nat) : List Window :=
  if opn L d = 0 ∧ 0 < opn L (d + 1) then out ++ [⟨d, 0⟩]
  else if 0 < opn L d ∧ opn L (d + 1) = 0 then out.dropLast ++ [⟨(out.getLast?.getD .zero).From, d⟩]
  else out
def rowsTo (L : List Window) : Nat → List Window
  | 0 => []
  | d + 1 => rowStep L (rowsTo L d) d
def rows (L : List Window) : List Window := if L.all Window.right then rowsTo L 4002 else []
theorem rowsTo_len (L : List Window) : ∀ d, (rowsTo L d).length ≤ d
  | 0 => Nat.le_refl _
  | d + 1 => by
    have := rowsTo_len L d
    unfold rowsTo rowStep
    split
    · simp; omega
    · split
      · simp; omega
      · omega
theorem tick_le (L : List Window) (j : Nat) : -(L.length : Int) ≤ tick L j ∧ tick L j ≤ L.length := by
  have h1 := List.countP_le_length (l := L) (p := fun w => decide (w.From = (j : Int)))
  have h2 := List.countP_le_length (l := L) (p := fun w => decide (w.Until = (j : Int)))
  unfold tick
  omega
theorem opn_eq (L : List Window) (hL : ∀ w ∈ L, w.right = true) : ∀ d : Nat, opn L d = ((L.countP fun w => decide (w.From < (d : Int)) : Nat) : Int) - ((L.countP fun w => decide (w.Until < (d : Int)) : Nat) : Int)
  | 0 => by
    have h1 : L.countP (fun w => decide (w.From < 0)) = 0 := by
      rw [List.countP_eq_zero]; intro w hw; have := hL w hw; simp [Window.right] at this; simp; omega
    have h2 : L.countP (fun w => decide (w.Until < 0)) = 0 := by
      rw [List.countP_eq_zero]; intro w hw; have := hL w hw; simp [Window.right] at this; simp; omega
    simp [opn, h1, h2]
  | d + 1 => by
    rw [opn, opn_eq L hL d, tick]
    have key : ∀ f : Window → Int, (L.countP fun w => decide (f w < ((d + 1 : Nat) : Int))) = (L.countP fun w => decide (f w < ((d : Nat) : Int))) + L.countP fun w => decide (f w = (d : Int)) := fun f => by
      clear hL
      induction L with
      | nil => rfl
      | cons w r ih =>
        simp only [List.countP_cons, decide_eq_true_eq]
        rw [ih]
        split <;> split <;> split <;> omega
    have k1 := key Window.From
    have k2 := key Window.Until
    omega
theorem opn_le (L : List Window) (hL : ∀ w ∈ L, w.right = true) (d : Nat) : 0 ≤ opn L d ∧ opn L d ≤ L.length := by
  rw [opn_eq L hL]
  have h1 := List.countP_le_length (l := L) (p := fun w => decide (w.From < (d : Int)))
  have h2 : L.countP (fun w => decide (w.Until < (d : Int))) ≤ L.countP (fun w => decide (w.From < (d : Int))) := List.countP_mono_left fun w hw h => by
    have := hL w hw; simp [Window.right] at this; simp at h ⊢; omega
  omega
/-- A window that is open is the last one. -/
theorem rowsTo_open (L : List Window) (hL : ∀ w ∈ L, w.right = true) : ∀ d, 0 < opn L d → (rowsTo L d) ≠ []
  | 0 => fun h => by simp [opn] at h
  | d + 1 => fun h => by
    have h0 := opn_le L hL d
    unfold rowsTo rowStep
    split
    · simp
    · split
      · simp
      · rename_i h1 h2
        exact rowsTo_open L hL d (by omega)

abbrev tks (f : Nat → Int) : List AVal := fill 4002 fun j => .int .i64 (f j)

def window_Rows.Spec (C : CSem) (N : Nat → Nat) : Prop := ∀ (x : AVal) (L : List Window) (R : List (List AVal)) (h : AHeap) (Q : AVal → AHeap → Prop), SlX h 2 x (L.map Window.cs) R → L.length < 4611686018427387904 →
  (∀ x' h', Owns h h' [.sl 2 x' ((rows L).map Window.cs) []] → Q x' h') → C (N 10) [x] h Q
theorem window_Rows.loop1 (L : List Window) (hL : ∀ w ∈ L, w.right = true) (hlen : L.length < 4611686018427387904) {h h1 : AHeap} {p : AVal} {Q : AVal → AHeap → Prop} (ho : Owns h h1 [.box p (tks (tick L))])
    (hq : ∀ x' h', Owns h h' [.sl 2 x' ((rowsTo L 4002).map Window.cs) []] → Q x' h') : LoopR (window_Rows.l4 C N (dn Q) p) [.nils, .int .i64 0, .int .i64 0] h1 := by
  refine LoopR.intro (fun n vs hh => ∃ d x, d + n = 4002 ∧ vs = [x, .int .i64 (opn L d), .int .i64 d] ∧ Owns h hh [.box p (tks (tick L)), .sl 2 x ((rowsTo L d).map Window.cs) []]) 4002 ?_ ⟨0, .nils, by simp, by simp [opn], ho.nils 2⟩
  rintro Y n vs hh ⟨d, x, hn, rfl, ho⟩ hY
  have hle := rowsTo_len L d
  have hop := opn_le L hL d
  have hop1 := opn_le L hL (d + 1)
  have hod : opn L (d + 1) = opn L d + tick L d := rfl
  simp +contextual -dsimp
  refine B.cond_bool (fun hb => ?_) (fun hb => ?_) <;> simp +contextual -dsimp at hb ⊢
  · have hd : d < 4002 := by omega
    obtain ⟨id, rfl, hbx⟩ := ho.boxAt 0 rfl
    have ht := tick_le L d
    have e1 : A.ldv hh (.ptr id 0 d) = some (.int .i64 (tick L d)) := by rw [ldv_at hbx, fill_get _ hd]
    have e2 : V.idxA 4002 1 (.ptr id 0 0) (.int .i64 d) = some (.ptr id 0 d) := by simp [V.idxA]; omega
    have e3 : IntKind.i64.wrap (opn L d + tick L d) = opn L (d + 1) := by rw [wrap_i64 (by omega) (by omega)]; rfl
    have e4 : IntKind.i64.wrap ((d : Int) + 1) = ((d + 1 : Nat) : Int) := by rw [wrap_i64 (by omega) (by omega)]; omega
    simp +contextual -dsimp [e1, e2, e3]
    refine B.cond_bool (fun hc => ?_) (fun hc => ?_) <;> simp +contextual -dsimp at hc ⊢
    · refine ho.push 1 rfl rfl (by omega) (by simp; omega) (by simp [maxLen]; omega) fun x' h' ho' _ => ?_
      simp [e4]
      refine hY (4001 - d) _ _ (by omega) ⟨d + 1, x', by omega, by simp, ?_⟩
      have hr : rowsTo L (d + 1) = rowsTo L d ++ [⟨d, 0⟩] := by simp only [rowsTo, rowStep]; rw [if_pos hc]
      rw [hr, List.map_append]
      exact ho'
    · refine B.cond_bool (fun hd2 => ?_) (fun hd2 => ?_) <;> simp +contextual -dsimp at hd2 ⊢
      · have hne := rowsTo_open L hL d (by omega)
        have hln : 0 < (rowsTo L d).length := List.length_pos_iff.2 hne
        have hx := ho.slAt 1 rfl
        have e5 : IntKind.i64.wrap (((rowsTo L d).length : Int) - 1) = (((rowsTo L d).length - 1 : Nat) : Int) := by rw [wrap_i64 (by omega) (by omega)]; omega
        have e6 := hx.lenSl
        simp only [List.length_map] at e6
        have hl2 : (rowsTo L d).length - 1 < ((rowsTo L d).map Window.cs).length := by simp; omega
        simp [e6, e5, hx.idxN hl2, hx.fieldA hl2]
        have hlast : (rowsTo L d)[(rowsTo L d).length - 1]? = some ((rowsTo L d).getLast hne) := by rw [List.getLast_eq_getElem]; simp
        refine ho.st 1 rfl (c := Window.cs ((rowsTo L d).getLast hne)) (by simp [hlast]) (by omega) (by simp) fun h' ho' _ => ?_
        simp [e4]
        refine hY (4001 - d) _ _ (by omega) ⟨d + 1, x, by omega, by simp, ?_⟩
        have hr : rowsTo L (d + 1) = (rowsTo L d).set ((rowsTo L d).length - 1) ⟨((rowsTo L d).getLast hne).From, d⟩ := by
          simp only [rowsTo, rowStep]
          rw [if_neg (by omega), if_pos (by omega), List.getLast?_eq_some_getLast hne]
          exact dropLast_set hne _
        rw [hr]
        simpa using ho'
      · simp [e4]
        refine hY (4001 - d) _ _ (by omega) ⟨d + 1, x, by omega, by simp, ?_⟩
        have hr : rowsTo L (d + 1) = rowsTo L d := by
          simp only [rowsTo, rowStep]
          rw [if_neg (by omega), if_neg (by omega)]
        rw [hr]; exact ho
  · have : d = 4002 := by omega
    subst this
    exact dn_same (hq _ _ (ho.sub (by simp)))
end Go.Ab
