/- What is proved: contracts of windows' functions. No conditions. -/
import Derived.Test.YtjhldpbpopjkiaaC01b
set_option linter.unusedVariables false
namespace Go.Ab
variable {C : CSem} {N : Nat → Nat}

theorem window_Rows.spec (i : window_Rows.Imp C N) (s1 : window_Right.Spec C N) : window_Rows.Spec C N := by
  intro x L R h Q hx hlen hq
  apply i
  simp +contextual -dsimp
  intro id hid
  simp -dsimp only [hx.lenSl, List.length_map, B.pv_some]
  have hz : zrep 4002 (AVal.int .i64 0) = tks (tick []) := by rw [zrep_fill]; exact fill_congr fun j _ => by simp [tick]
  have ho := (Owns.start h).newBox hid (tks (tick []))
  rw [← hz] at ho
  refine LoopR.intro (fun n vs hh => ∃ k, k + n = L.length ∧ vs = [.int .i64 k] ∧ Owns h hh [.box (.ptr id 0 0) (tks (tick (L.take k)))] ∧ ∀ w ∈ L.take k, w.right = true) L.length ?_ ⟨0, by simp, by simp, by simpa [← hz] using ho, by simp⟩
  rintro Y n vs hh ⟨k, hn, rfl, ho, hr⟩ hY
  simp +contextual -dsimp
  refine B.cond_bool (fun hb => ?_) (fun hb => ?_) <;> simp +contextual -dsimp at hb ⊢
  · have ew := get_lt (L := L) hb
    obtain ⟨w, hw⟩ := ew
    have hx1 := hx.mono ho.le
    have hk : k < (L.map Window.cs).length := by simpa using hb
    simp +contextual -dsimp [hx1.idxN hk, hx1.elem (get_map hw)]
    refine s1 _ _ _ _ ?_
    simp +contextual -dsimp
    refine B.cond_bool (fun hc => ?_) (fun hc => ?_) <;> simp +contextual -dsimp at hc ⊢
    · refine dn_le ho.le (hq _ _ ?_)
      have : rows L = [] := by
        unfold rows
        rw [if_neg]
        intro ha
        rw [List.all_eq_true] at ha
        rw [ha w (List.mem_of_getElem? hw)] at hc; cases hc
      rw [this]
      exact (Owns.start h).nils 2
    · obtain ⟨f, u⟩ := w
      simp only [Window.right, Bool.and_eq_true, decide_eq_true_eq] at hc
      obtain ⟨id', e, hbx⟩ := ho.boxAt 0 rfl
      cases e
      have hl := List.length_take_le k L
      have t1 := tick_le (L.take k) f.toNat
      have t2 := tick_le (L.take k) u.toNat
      have e1 : V.idxA 4002 1 (.ptr id 0 0) (.int .i64 f) = some (.ptr id 0 f.toNat) := by simp [V.idxA]; omega
      have e2 : V.idxA 4002 1 (.ptr id 0 0) (.int .i64 u) = some (.ptr id 0 u.toNat) := by simp [V.idxA]; omega
      have e3 : A.ldv hh (.ptr id 0 f.toNat) = some (.int .i64 (tick (L.take k) f.toNat)) := by rw [ldv_at hbx, fill_get _ (by omega)]
      simp +contextual -dsimp [e1, e2, e3]
      refine ho.boxSt 0 rfl (by simp) (by simp; omega) fun h2 ho2 _ => ?_
      obtain ⟨id', e, hbx2⟩ := ho2.boxAt 0 rfl
      cases e
      rw [fill_set] at hbx2
      have e5 : ∀ (c : Prop) [Decidable c] (a b : Int), (if c then AVal.int .i64 a else .int .i64 b) = .int .i64 (if c then a else b) := fun c _ a b => by split <;> rfl
      have e4 : A.ldv h2 (.ptr id 0 u.toNat) = some (.int .i64 (if u.toNat = f.toNat then IntKind.i64.wrap (tick (L.take k) f.toNat + 1) else tick (L.take k) u.toNat)) := by rw [ldv_at hbx2, fill_get _ (by omega), e5]
      simp +contextual -dsimp [e1, e2, e4]
      refine ho2.boxSt 0 rfl (by simp) (by simp; omega) fun h3 ho3 _ => ?_
      simp [inc64 (n := k) (by omega)]
      refine hY (L.length - (k + 1)) _ _ (by omega) ⟨k + 1, by omega, by simp, ?_, ?_⟩
      · rw [fill_set, fill_set] at ho3
        simp only [e5] at ho3
        rw [take_succ hw]
        have : (fill 4002 fun j => AVal.int .i64 (if j = u.toNat then IntKind.i64.wrap ((if u.toNat = f.toNat then IntKind.i64.wrap (tick (L.take k) f.toNat + 1) else tick (L.take k) u.toNat) - 1) else if j = f.toNat then IntKind.i64.wrap (tick (L.take k) f.toNat + 1) else tick (L.take k) j)) = tks (tick (L.take k ++ [⟨f, u⟩])) := by
          refine fill_congr fun j hj => ?_
          have w1 : IntKind.i64.wrap (tick (L.take k) f.toNat + 1) = tick (L.take k) f.toNat + 1 := wrap_i64 (by omega) (by omega)
          congr 1
          rw [w1, wrap_i64 (by split <;> omega) (by split <;> omega)]
          have ht : tick (L.take k ++ [⟨f, u⟩]) j = tick (L.take k) j + (if f = (j : Int) then 1 else 0) - (if u = (j : Int) then 1 else 0) := by
            simp only [tick, List.countP_append, List.countP_cons, List.countP_nil, decide_eq_true_eq]
            by_cases c1 : f = (j : Int) <;> by_cases c2 : u = (j : Int) <;> simp only [c1, c2, if_true, if_false] <;> omega
          rw [ht]
          by_cases c1 : j = u.toNat
          · subst c1
            rw [if_pos rfl]
            by_cases c2 : u.toNat = f.toNat
            · rw [if_pos c2, if_pos (by omega), if_pos (by omega), c2]
            · rw [if_neg c2, if_neg (by omega), if_pos (by omega)]; omega
          · rw [if_neg c1]
            by_cases c2 : j = f.toNat
            · subst c2; rw [if_pos rfl, if_pos (by omega), if_neg (by omega)]; omega
            · rw [if_neg c2, if_neg (by omega), if_neg (by omega)]; omega
        rw [← this]
        exact ho3
      · rw [take_succ hw]
        intro w' hw'
        rcases List.mem_append.1 hw' with hw' | hw'
        · exact hr w' hw'
        · rw [List.mem_singleton.1 hw']; simpa [Window.right] using hc
  · have hk : k = L.length := by omega
    subst hk
    rw [List.take_length] at ho hr
    refine window_Rows.loop1 L hr hlen ho fun x' h' ho' => hq x' h' ?_
    unfold rows
    rw [if_pos (List.all_eq_true.2 hr)]
    exact ho'
end Go.Ab
