/- What is proved: the statement on windows' days outright. No conditions. -/
import Derived.Test.YtjhldpbpopjkiaaC01g
import Derived.Test.YtjhldpbpopjkiaaP01b
set_option linter.unusedVariables false
set_option linter.unusedSimpArgs false
set_option maxRecDepth 100000
namespace Go.Ab
variable {C : CSem} {N : Nat → Nat}

def both1 (a : Window) (M : List Window) : List Window := (M.filter fun b => (meet a b).2).map fun b => (meet a b).1
theorem both1_len (a : Window) (M : List Window) : (both1 a M).length ≤ M.length := by
  unfold both1; rw [List.length_map]; exact List.length_filter_le _ _
theorem both1_add (a : Window) (M S : List Window) : both1 a (M ++ S) = both1 a M ++ both1 a S := by simp [both1]
def boths (L M : List Window) : List Window := L.flatMap fun a => both1 a M
theorem boths_add (L S M : List Window) : boths (L ++ S) M = boths L M ++ boths S M := by simp [boths]
theorem boths_len (M : List Window) : ∀ L : List Window, (boths L M).length ≤ L.length * M.length
  | [] => by simp [boths]
  | a :: r => by
    have := boths_len M r
    have h := both1_len a M
    have e : boths (a :: r) M = both1 a M ++ boths r M := by simp [boths]
    rw [e, List.length_append, List.length_cons, Nat.succ_mul]
    omega

theorem count_cov {L : List Window} (hL : ∀ w ∈ L, w.right = true) : count L = ((List.range 4001).countP (cov L) : Nat) := by
  unfold count; rw [rows_ok hL]; exact (ofOk (cov L) 4001).sum
theorem both1_right {a : Window} {M : List Window} : ∀ w ∈ both1 a M, w.right = true := by
  intro w hw
  obtain ⟨b, hb, rfl⟩ := List.mem_map.1 hw
  have hb := (List.mem_filter.1 hb).2
  rcases meet_spec a b with ⟨f, u, e, h1, h2, h3, h4, h5⟩ | ⟨e, _⟩
  · rw [e]
    have := right_spec h4
    have := right_spec h5
    simp [Window.right]; omega
  · rw [e] at hb; cases hb
theorem boths_right {L M : List Window} : ∀ w ∈ boths L M, w.right = true := by
  intro w hw
  obtain ⟨a, ha, hw⟩ := List.mem_flatMap.1 hw
  exact both1_right w hw
theorem boths_cov {L M : List Window} (hL : ∀ w ∈ L, w.right = true) (hM : ∀ w ∈ M, w.right = true) (d : Nat) : cov (boths L M) d = (cov L d && cov M d) := by
  rw [Bool.eq_iff_iff]
  simp only [cov, List.any_eq_true, Bool.and_eq_true, decide_eq_true_eq, boths, both1, List.mem_flatMap, List.mem_map, List.mem_filter]
  constructor
  · rintro ⟨w, ⟨a, ha, b, ⟨hb, hm⟩, rfl⟩, h1, h2⟩
    rcases meet_spec a b with ⟨f, u, e, h3, h4, h5, _, _⟩ | ⟨e, _⟩
    · rw [e] at h1 h2
      simp only at h1 h2
      exact ⟨⟨a, ha, by omega, by omega⟩, ⟨b, hb, by omega, by omega⟩⟩
    · rw [e] at hm; cases hm
  · rintro ⟨⟨a, ha, h1, h2⟩, ⟨b, hb, h3, h4⟩⟩
    rcases meet_spec a b with ⟨f, u, e, h5, h6, h7, _, _⟩ | ⟨e, he⟩
    · refine ⟨_, ⟨a, ha, b, ⟨hb, by rw [e]⟩, rfl⟩, ?_⟩
      rw [e]; simp only; omega
    · have := he (hL a ha) (hM b hb)
      omega
theorem days_law {L M : List Window} (hL : ∀ w ∈ L, w.right = true) (hM : ∀ w ∈ M, w.right = true) : count (L ++ M) = count L + count M - count (boths L M) := by
  rw [count_cov (L := L ++ M) (fun w hw => (List.mem_append.1 hw).elim (hL w) (hM w)), count_cov hL, count_cov hM, count_cov boths_right]
  have h := count_or (p := cov L) (q := cov M) 4001
  rw [show cov (L ++ M) = fun d => cov L d || cov M d from funext fun d => by simp [cov], show cov (boths L M) = fun d => cov L d && cov M d from funext fun d => boths_cov hL hM d]
  exact h
theorem count_le {L : List Window} (hL : ∀ w ∈ L, w.right = true) : 0 ≤ count L ∧ count L ≤ 4001 := by
  rw [count_cov hL]
  have := List.countP_le_length (p := cov L) (l := List.range 4001)
  rw [List.length_range] at this
  omega
theorem rows_has {L : List Window} (hL : ∀ w ∈ L, w.right = true) (day : Int) : ((rows L).any fun w => w.has day) = L.any fun w => w.has day := by
  have ok := ofOk (cov L) 4001
  rw [← rows_ok hL] at ok
  rw [cov_has (fun w hw => by have := ok.ends w hw; simp [Window.right]; omega), cov_has hL]
  congr 1
  rw [Bool.eq_iff_iff, ok.cov]
  refine ⟨fun h => h.2, fun h => ⟨?_, h⟩⟩
  simp only [cov, List.any_eq_true, Bool.and_eq_true, decide_eq_true_eq] at h
  obtain ⟨w, hw, h1, h2⟩ := h
  have := right_spec (hL w hw)
  omega

def law01_WindowDays.Spec (C : CSem) (N : Nat → Nat) : Prop := ∀ (x y : AVal) (L M : List Window) (R S : List (List AVal)) (day : Int) (h : AHeap) (Q : AVal → AHeap → Prop), SlX h 2 x (L.map Window.cs) R → SlX h 2 y (M.map Window.cs) S → L.length < 2611686018427387904 → M.length < 2611686018427387904 →
  Q (.bool true) h → C (N 24) [x, y, .int .i64 day] h Q
theorem law01_WindowDays.spec (i : law01_WindowDays.Imp C N) (s0 : law01_awake.Spec C N) (s1 : window_Right.Spec C N) (s2 : window_Rows.Spec C N) (s3 : window_Has.Spec C N) (s4 : window_Meet.Spec C N) (s5 : window_Count.Spec C N) (s6 : kit_SameWindows.Spec C N) : law01_WindowDays.Spec C N := by
  intro x y L M R S day h Q hx hy hlx hly hq
  apply i
  have ex := hx.lenSl
  have ey := hy.lenSl
  rw [List.length_map] at ex ey
  have e0 : IntKind.i64.wrap ((L.length : Int) + M.length) = ((L.length + M.length : Nat) : Int) := by rw [wrap_i64 (by omega) (by omega)]; omega
  simp -dsimp
  refine s0 _ _ ?_
  simp -dsimp [ex, ey, e0]
  refine B.cond_bool (fun hb => ?_) (fun hb => ?_) <;> simp -dsimp at hb ⊢
  · exact dn_same hq
  · refine LoopR.intro (fun n vs hh => ∃ k, k + n = (L ++ M).length ∧ vs = [.int .i64 k] ∧ h.le hh ∧ ∀ w ∈ (L ++ M).take k, w.right = true) (L ++ M).length ?_ ⟨0, by simp, by simp, AHeap.le_refl h, by simp⟩
    rintro Y n vs hh ⟨k, hn, rfl, hle, hr⟩ hY
    have hx1 := hx.mono hle
    have hy1 := hy.mono hle
    have hlen : (L ++ M).length = L.length + M.length := by simp
    simp -dsimp [ex, ey, e0]
    refine B.cond_bool (fun hc => ?_) (fun hc => ?_) <;> simp -dsimp at hc ⊢
    · have ew := get_lt (L := L ++ M) (k := k) (by omega)
      obtain ⟨w, hw⟩ := ew
      refine ((Owns.start hh).sz 2).appW 0 rfl hx1 (by omega) (by simp; omega) (by simp [maxLen]; omega) fun z h1 ho1 _ => ?_
      refine ho1.appW 0 rfl (hy1.mono ho1.le) (by omega) (by simp; omega) (by simp [maxLen]; omega) fun z2 h2 ho2 _ => ?_
      have hz : SlX h2 2 z2 ((L ++ M).map Window.cs) [] := by
        have := ho2.slAt 0 rfl
        simpa using this
      have hk : k < ((L ++ M).map Window.cs).length := by rw [List.length_map]; omega
      obtain ⟨f, u⟩ := w
      simp -dsimp [hz.idxN hk, hz.elem (get_map hw)]
      refine s1 _ _ _ _ ?_
      simp -dsimp
      refine B.cond_bool (fun hd => ?_) (fun hd => ?_) <;> simp -dsimp at hd ⊢
      · exact dn_le (AHeap.le_trans hle ho2.le) hq
      · simp -dsimp [inc64 (n := k) (by omega)]
        refine hY ((L ++ M).length - (k + 1)) _ _ (by omega) ⟨k + 1, by omega, by simp, AHeap.le_trans hle ho2.le, ?_⟩
        rw [take_succ hw]
        intro w' hw'
        rcases List.mem_append.1 hw' with hw' | hw'
        · exact hr w' hw'
        · rw [List.mem_singleton.1 hw']; exact hd
    · rw [List.take_of_length_le (by omega)] at hr
      have hL : ∀ w ∈ L, w.right = true := fun w hw => hr w (by simp [hw])
      have hM : ∀ w ∈ M, w.right = true := fun w hw => hr w (by simp [hw])
      refine s2 x L R _ _ hx1 (by omega) fun v h1 ho => ?_
      have hv := ho.slAt 0 rfl
      have hle1 : h.le h1 := AHeap.le_trans hle ho.le
      have hx2 := hx.mono hle1
      have hy2 := hy.mono hle1
      -- has
      refine LoopR.intro (fun n vs hh => ∃ k, k + n = L.length ∧ vs = [.bool ((L.take k).any fun w => w.has day), .int .i64 k] ∧ hh = h1) L.length ?_ ⟨0, by simp, by simp, rfl⟩
      rintro Y2 n2 vs g1 ⟨k2, hn2, rfl, rfl⟩ hY2
      simp -dsimp [ex]
      refine B.cond_bool (fun hd => ?_) (fun hd => ?_) <;> simp -dsimp at hd ⊢
      · have ew := get_lt (L := L) hd
        obtain ⟨w, hw⟩ := ew
        obtain ⟨f, u⟩ := w
        have hk : k2 < (L.map Window.cs).length := by simpa using hd
        simp +contextual -dsimp [hx2.idxN hk, hx2.elem (get_map hw)]
        refine B.gdb_call (fun _ _ hq => s3 _ _ _ _ _ hq) ?_
        simp +contextual -dsimp [inc64 (n := k2) (by omega)]
        refine hY2 (L.length - (k2 + 1)) _ _ (by omega) ⟨k2 + 1, by omega, ?_, rfl⟩
        rw [take_succ hw]
        simp
      · have ok := ofOk (cov L) 4001
        rw [← rows_ok hL] at ok
        have hrl := rows_len L
        have ev := hv.lenSl
        rw [List.length_map] at ev
        have hvl : ((rows L).map Window.cs).length = (rows L).length := by simp
        rw [List.take_of_length_le (by omega)]
        -- has of the rows
        refine LoopR.intro (fun n vs hh => ∃ k, k + n = (rows L).length ∧ vs = [.bool (((rows L).take k).any fun w => w.has day), .int .i64 k] ∧ hh = g1) (rows L).length ?_ ⟨0, by simp, by simp, rfl⟩
        rintro Y3 n3 vs g2 ⟨k3, hn3, rfl, rfl⟩ hY3
        simp -dsimp [ev]
        refine B.cond_bool (fun he => ?_) (fun he => ?_) <;> simp -dsimp at he ⊢
        · have ew := get_lt (L := rows L) he
          obtain ⟨w, hw⟩ := ew
          obtain ⟨f, u⟩ := w
          have hk : k3 < ((rows L).map Window.cs).length := by omega
          have hfu := ok.ends _ (List.mem_of_getElem? hw)
          simp +contextual -dsimp [hv.idxN hk, hv.elem (get_map hw)]
          refine B.gdb_call (fun _ _ hq => s3 _ _ _ _ _ hq) ?_
          have e1 : ¬ (u ≤ f) := by simp only at hfu; omega
          simp +contextual -dsimp [hv.idxN hk, hv.fieldA hk, hv.ldv (get_map hw) (f := 0) (by omega), hv.ldv (get_map hw) (f := 1) (by omega), e1, inc64 (n := k3) (by omega)]
          have fin : Y3 [.bool (bif ((rows L).take k3).any fun w => w.has day then true else Window.has ⟨f, u⟩ day), .int .i64 ((k3 + 1 : Nat) : Int)] g2 := by
            refine hY3 ((rows L).length - (k3 + 1)) _ _ (by omega) ⟨k3 + 1, by omega, ?_, rfl⟩
            rw [take_succ hw]
            simp
          by_cases hz : k3 = 0
          · subst hz
            simp +contextual -dsimp [show IntKind.i64.wrap 1 = 1 from rfl]
            simpa using fin
          · have hj3 : ∃ j, j + 1 = k3 := ⟨k3 - 1, by omega⟩
            obtain ⟨j, ej⟩ := hj3
            have ew := get_lt (L := rows L) (k := j) (by omega)
            obtain ⟨w2, hw2⟩ := ew
            obtain ⟨f2, u2⟩ := w2
            have e2 : IntKind.i64.wrap ((k3 : Int) - 1) = (j : Nat) := by rw [wrap_i64 (by omega) (by omega)]; omega
            have hj : j < ((rows L).map Window.cs).length := by omega
            have hap := List.pairwise_iff_getElem.1 ok.apart j k3 (by omega) he (by omega)
            rw [(List.getElem?_eq_some_iff.1 hw2).2, (List.getElem?_eq_some_iff.1 hw).2] at hap
            have e3 : ¬ (f ≤ u2) := by simp only at hap; omega
            have e4 : 0 < k3 := by omega
            simp +contextual -dsimp [e2, hv.idxN hk, hv.idxN hj, hv.fieldA hk, hv.fieldA hj, hv.ldv (get_map hw) (f := 0) (by omega), hv.ldv (get_map hw2) (f := 1) (by omega), e3, e4, inc64 (n := k3) (by omega)]
            exact fin
        · rw [List.take_of_length_le (by omega)]
          have hlm : L.length + M.length ≤ 200 := by omega
          have hsz : ∀ k, k ≤ L.length → (boths (L.take k) M).length ≤ 40000 := fun k hk => by
            have e1 := boths_len M (L.take k)
            have e2 : (L.take k).length * M.length ≤ 200 * 200 := Nat.mul_le_mul (by simp; omega) (by omega)
            omega
          refine LoopR.intro (fun n vs hh => ∃ k x, k + n = L.length ∧ vs = [x, .int .i64 k] ∧ Owns g2 hh [.sl 2 x ((boths (L.take k) M).map Window.cs) []]) L.length ?_ ⟨0, .nils, by simp, by simp, (Owns.start g2).nils 2⟩
          rintro Y1 n1 vs g3 ⟨k, z, hn1, rfl, ho3⟩ hY1
          have hx3 := hx2.mono ho3.le
          have hy3 := hy2.mono ho3.le
          simp -dsimp [ex]
          refine B.cond_bool (fun hf => ?_) (fun hf => ?_) <;> simp -dsimp at hf ⊢
          · have ew := get_lt (L := L) hf
            obtain ⟨a, ha⟩ := ew
            have hs := hsz k (by omega)
            refine LoopR.intro (fun n vs hh => ∃ j x, j + n = M.length ∧ vs = [x, .int .i64 j] ∧ Owns g2 hh [.sl 2 x ((boths (L.take k) M ++ both1 a (M.take j)).map Window.cs) []]) M.length ?_ ⟨0, z, by simp, by simp, by simpa [both1] using ho3⟩
            rintro Y2 n2 vs g4 ⟨j, z2, hn2, rfl, ho4⟩ hY2
            have hx4 := hx2.mono ho4.le
            have hy4 := hy2.mono ho4.le
            simp -dsimp [ey]
            refine B.cond_bool (fun hg => ?_) (fun hg => ?_) <;> simp -dsimp at hg ⊢
            · have ew2 := get_lt (L := M) hg
              obtain ⟨b, hbj⟩ := ew2
              have hk : k < (L.map Window.cs).length := by simpa using hf
              have hj : j < (M.map Window.cs).length := by simpa using hg
              have eb := both1_len a (M.take j)
              have eb2 : (M.take j).length ≤ 200 := by simp; omega
              obtain ⟨f, u⟩ := a
              obtain ⟨f2, u2⟩ := b
              simp +contextual -dsimp [hx4.idxN hk, hx4.elem (get_map ha), hy4.idxN hj, hy4.elem (get_map hbj)]
              refine s4 _ _ _ _ _ _ ?_
              simp +contextual -dsimp [wb]
              refine B.cond_bool (fun hh => ?_) (fun hh => ?_) <;> simp +contextual -dsimp at hh ⊢
              · refine ho4.push 0 rfl rfl (by omega) (by simp; omega) (by simp [maxLen]; omega) fun x' h' ho' _ => ?_
                simp +contextual -dsimp [inc64 (n := j) (by omega)]
                refine hY2 (M.length - (j + 1)) _ _ (by omega) ⟨j + 1, x', by omega, by simp, ?_⟩
                rw [take_succ hbj, both1_add, ← List.append_assoc, List.map_append]
                have e : both1 ⟨f, u⟩ [⟨f2, u2⟩] = [(meet ⟨f, u⟩ ⟨f2, u2⟩).1] := by simp [both1, hh]
                rw [e]
                exact ho'
              · simp +contextual -dsimp [inc64 (n := j) (by omega)]
                refine hY2 (M.length - (j + 1)) _ _ (by omega) ⟨j + 1, z2, by omega, by simp, ?_⟩
                rw [take_succ hbj, both1_add]
                have e : both1 ⟨f, u⟩ [⟨f2, u2⟩] = [] := by simp [both1, hh]
                rw [e, List.append_nil]
                exact ho4
            · rw [List.take_of_length_le (l := M) (by omega)] at ho4
              simp +contextual -dsimp [inc64 (n := k) (by omega)]
              refine hY1 (L.length - (k + 1)) _ _ (by omega) ⟨k + 1, z2, by omega, by simp, ?_⟩
              rw [take_succ ha, boths_add]
              have e : boths [a] M = both1 a M := by simp [boths]
              rw [e]
              exact ho4
          · rw [List.take_of_length_le (by omega)] at ho3
            have hx3' := hx2.mono ho3.le
            have hb3 := ho3.slAt 0 rfl
            have cL := count_le hL
            have cM := count_le hM
            have cB := count_le (L := boths L M) boths_right
            have cA := count_le (L := L ++ M) (fun w hw => (List.mem_append.1 hw).elim (hL w) (hM w))
            have dl := days_law hL hM
            have w1 : IntKind.i64.wrap (count L + count M) = count L + count M := wrap_i64 (by omega) (by omega)
            have w2 : IntKind.i64.wrap (count L + count M - count (boths L M)) = count (L ++ M) := by rw [dl, wrap_i64 (by omega) (by omega)]
            have hs := hsz L.length (by omega)
            rw [List.take_length] at hs
            refine ((Owns.start g3).sz 2).appW 0 rfl hx3' (by omega) (by simp; omega) (by simp [maxLen]; omega) fun q1 h4 ho4 _ => ?_
            refine ho4.appW 0 rfl ((hy2.mono ho3.le).mono ho4.le) (by omega) (by simp; omega) (by simp [maxLen]; omega) fun q2 h5 ho5 _ => ?_
            have hq2 : SlX h5 2 q2 ((L ++ M).map Window.cs) [] := by
              have := ho5.slAt 0 rfl
              simpa using this
            have hv5 := (hv.mono ho3.le).mono ho5.le
            have hl5 : h.le h5 := AHeap.le_trans (AHeap.le_trans hle1 ho3.le) ho5.le
            simp -dsimp [rows_has hL]
            refine s2 v (rows L) _ _ _ hv5 (by omega) fun v6 h6 ho6 => ?_
            rw [rows_rows hL] at ho6
            simp -dsimp
            refine s6 _ _ _ _ _ _ _ _ (ho6.slAt 0 rfl) (hv5.mono ho6.le) (by omega) ?_
            simp -dsimp
            refine s5 _ _ _ _ _ (hq2.mono ho6.le) (by omega) ?_
            simp -dsimp
            refine s5 _ _ _ _ _ ((hx3'.mono ho5.le).mono ho6.le) (by omega) ?_
            simp -dsimp
            refine s5 _ _ _ _ _ (((hy2.mono ho3.le).mono ho5.le).mono ho6.le) (by omega) ?_
            simp -dsimp [w1]
            refine s5 _ _ _ _ _ ((hb3.mono ho5.le).mono ho6.le) (by omega) ?_
            simp -dsimp [w2]
            exact dn_le (AHeap.le_trans hl5 ho6.le) hq
end Go.Ab
