/- What is proved: contracts of windows' functions: the document's, and what the statements share. No conditions. -/
import Derived.Test.YtjhldpbpopjkiaaC01d
set_option linter.unusedVariables false
set_option linter.unusedSimpArgs false
namespace Go.Ab
variable {C : CSem} {N : Nat → Nat}

def oneW (p : Nat → Bool) : Window × Bool := if (ofTo p 4001).length = 1 then ((ofTo p 4001).getD 0 .zero, true) else (.zero, false)
def inAll (L : List Window) (day : Int) : Bool := L.all fun w => w.has day
def ref01_one.Spec (C : CSem) (N : Nat → Nat) : Prop := ∀ (x : AVal) (L : List Window) (R : List (List AVal)) (a : Int) (h : AHeap) (Q : AVal → AHeap → Prop), SlX h 2 x (L.map Window.cs) R → L.length < 4611686018427387904 →
  Q (wb (oneW fun d => decide (a ≤ d) && inAll L d)) h → C (N 17) [x, .int .i64 a] h Q
theorem ref01_one.spec (i : ref01_one.Imp C N) (s1 : ref01_Has.Spec C N) (s2 : ref01_Of.Spec C N) : ref01_one.Spec C N := by
  intro x L R a h Q hx hlen hq
  apply i
  simp +contextual -dsimp
  refine (Owns.start h).mks (es := 1) rfl (by omega) (by omega) (by omega) (by omega) fun y h1 ho => ?_
  have hls := hx.lenSl
  rw [List.length_map] at hls
  let p : Nat → Bool := fun d => decide (a ≤ d) && inAll L d
  refine LoopR.intro (fun n vs hh => ∃ d, d + n = 4001 ∧ vs = [.int .i64 d] ∧ Owns h hh [.sl 1 y (bools 4001 fun j => decide (j < d) && p j) []]) 4001 ?_ ⟨0, by simp, by simp, by simpa using ho⟩
  rintro Y n vs hh ⟨d, hn, rfl, ho⟩ hY
  simp +contextual -dsimp
  refine B.cond_bool (fun hb => ?_) (fun hb => ?_) <;> simp +contextual -dsimp at hb ⊢
  · have hd : d < 4001 := by omega
    have hd' : d < (bools 4001 fun j => decide (j < d) && p j).length := by simpa using hd
    have hy := ho.slAt 0 rfl
    simp +contextual -dsimp [hy.idxN hd']
    refine ho.st 0 rfl (fills_get _ hd) (by omega) (by simp) fun h2 ho2 _ => ?_
    refine LoopR.intro (fun m vs hh => ∃ k, k + m = L.length ∧ vs = [.int .i64 k] ∧ Owns h hh [.sl 1 y (bools 4001 fun j => if j = d then decide (a ≤ (d : Int)) && inAll (L.take k) d else decide (j < d) && p j) []]) L.length ?_ ⟨0, by simp, by simp, ?_⟩
    · rintro Y2 m vs hh2 ⟨k, hm, rfl, ho3⟩ hY2
      have hx1 := hx.mono ho3.le
      have hy3 := ho3.slAt 0 rfl
      simp +contextual -dsimp [hls]
      refine B.cond_bool (fun hc => ?_) (fun hc => ?_) <;> simp +contextual -dsimp at hc ⊢
      · have ew := get_lt (L := L) hc
        obtain ⟨w, hw⟩ := ew
        obtain ⟨f, u⟩ := w
        have hk : k < (L.map Window.cs).length := by simpa using hc
        have hd3 : d < (bools 4001 fun j => if j = d then decide (a ≤ (d : Int)) && inAll (L.take k) d else decide (j < d) && p j).length := by simpa using hd
        simp +contextual -dsimp [hy3.idxN hd3, hy3.ldv (fills_get _ hd) (f := 0) (by omega), hx1.idxN hk, hx1.elem (get_map hw)]
        refine B.gdb_call (fun _ _ hq => s1 _ _ _ _ _ hq) ?_
        simp +contextual -dsimp [hy3.idxN hd3]
        refine ho3.st 0 rfl (fills_get _ hd) (by omega) (by simp) fun h4 ho4 _ => ?_
        simp [inc64 (n := k) (by omega)]
        refine hY2 (L.length - (k + 1)) _ _ (by omega) ⟨k + 1, by omega, by simp, ?_⟩
        have : (bools 4001 fun j => if j = d then decide (a ≤ (d : Int)) && inAll (L.take k) d else decide (j < d) && p j).set d [.bool ((decide (a ≤ (d : Int)) && inAll (L.take k) d) && Window.has ⟨f, u⟩ d)] = bools 4001 fun j => if j = d then decide (a ≤ (d : Int)) && inAll (L.take (k + 1)) d else decide (j < d) && p j := by
          rw [fills_set]
          refine fills_congr fun j _ => ?_
          by_cases e : j = d
          · simp [e, take_succ hw, inAll, Bool.and_assoc]
          · simp [e]
        rw [← this]
        exact ho4
      · have : k = L.length := by omega
        subst this
        simp [inc64 (n := d) (by omega)]
        refine hY (4001 - (d + 1)) _ _ (by omega) ⟨d + 1, by omega, by simp, ?_⟩
        have : (bools 4001 fun j => if j = d then decide (a ≤ (d : Int)) && inAll (L.take L.length) d else decide (j < d) && p j) = bools 4001 fun j => decide (j < d + 1) && p j := by
          refine fills_congr fun j _ => ?_
          by_cases e : j = d
          · subst e; simp [p]
          · have : decide (j < d + 1) = decide (j < d) := by rw [Bool.eq_iff_iff]; simp; omega
            simp [e, this]
        rw [← this]
        exact ho3
    · have : (bools 4001 fun j => decide (j < d) && p j).set d [.bool (decide (a ≤ (d : Int)))] = bools 4001 fun j => if j = d then decide (a ≤ (d : Int)) && inAll (L.take 0) d else decide (j < d) && p j := by
        rw [fills_set]
        refine fills_congr fun j _ => ?_
        by_cases e : j = d
        · simp [e, inAll]
        · simp [e]
      rw [← this]
      exact ho2
  · have hd : d = 4001 := by omega
    subst hd
    have hy := ho.slAt 0 rfl
    refine s2 y 4001 p [] hh _ ?_ (by omega) fun z h3 ho3 => ?_
    · have : (bools 4001 fun j => decide (j < 4001) && p j) = bools 4001 p := fills_congr fun j hj => by simp [hj]
      rw [← this]; exact hy
    · have hz := ho3.slAt 0 rfl
      have hlz := hz.lenSl
      rw [List.length_map] at hlz
      simp +contextual -dsimp [hlz]
      have hq2 : Q (wb (oneW p)) h := hq
      refine B.cond_bool (fun hc => ?_) (fun hc => ?_) <;> simp +contextual -dsimp at hc ⊢
      · rw [show oneW p = (.zero, false) by simp only [oneW]; rw [if_neg (by omega)]] at hq2
        exact dn_le (AHeap.le_trans ho.le ho3.le) hq2
      · have h1 : (ofTo p 4001).length = 1 := by omega
        obtain ⟨w, hw⟩ : ∃ w, ofTo p 4001 = [w] := List.length_eq_one_iff.1 h1
        rw [hw] at hz
        simp +contextual -dsimp [hz.idx (n := 0) (by omega) (by simp), hz.elem (i := 0) (c := w.cs) (by simp)]
        rw [show oneW p = (w, true) by simp only [oneW]; rw [if_pos h1, hw]; rfl] at hq2
        exact dn_le (AHeap.le_trans ho.le ho3.le) hq2

def ref01_Meet.Spec (C : CSem) (N : Nat → Nat) : Prop := ∀ (a b c d : Int) (h : AHeap) (Q : AVal → AHeap → Prop), Q (wb (oneW fun j => inAll [⟨a, b⟩, ⟨c, d⟩] j)) h → C (N 2) [.agg [.int .i64 a, .int .i64 b], .agg [.int .i64 c, .int .i64 d]] h Q
theorem ref01_Meet.spec (i : ref01_Meet.Imp C N) (s1 : ref01_one.Spec C N) : ref01_Meet.Spec C N := by
  intro a b c d h Q hq
  apply i
  simp +contextual -dsimp
  intro id hid
  refine s1 _ [⟨a, b⟩, ⟨c, d⟩] [] 0 _ _ (SlX.lit (upd_same ..) (by simp) rfl (by simp) (by simp)) (by simp) ?_
  simp +contextual -dsimp
  exact dn_le (le_upd _ hid) hq
def ref01_From.Spec (C : CSem) (N : Nat → Nat) : Prop := ∀ (a b day : Int) (h : AHeap) (Q : AVal → AHeap → Prop), Q (wb (oneW fun j => decide (day ≤ j) && inAll [⟨a, b⟩] j)) h → C (N 4) [.agg [.int .i64 a, .int .i64 b], .int .i64 day] h Q
theorem ref01_From.spec (i : ref01_From.Imp C N) (s1 : ref01_one.Spec C N) : ref01_From.Spec C N := by
  intro a b day h Q hq
  apply i
  simp +contextual -dsimp
  intro id hid
  refine s1 _ [⟨a, b⟩] [] day _ _ (SlX.lit (upd_same ..) (by simp) rfl (by simp) (by simp)) (by simp) ?_
  simp +contextual -dsimp
  exact dn_le (le_upd _ hid) hq

def cov (L : List Window) (d : Nat) : Bool := L.any fun w => decide (w.From ≤ d) && decide ((d : Int) < w.Until)
def rrows (L : List Window) : List Window := if L.all Window.right then ofTo (cov L) 4001 else []
def ref01_Rows.Spec (C : CSem) (N : Nat → Nat) : Prop := ∀ (x : AVal) (L : List Window) (R : List (List AVal)) (h : AHeap) (Q : AVal → AHeap → Prop), SlX h 2 x (L.map Window.cs) R → L.length < 4611686018427387904 →
  (∀ x' h', Owns h h' [.sl 2 x' ((rrows L).map Window.cs) []] → Q x' h') → C (N 11) [x] h Q
theorem ref01_Rows.spec (i : ref01_Rows.Imp C N) (s1 : ref01_Right.Spec C N) (s2 : ref01_Of.Spec C N) : ref01_Rows.Spec C N := by
  intro x L R h Q hx hlen hq
  apply i
  simp +contextual -dsimp
  refine (Owns.start h).mks (es := 1) rfl (by omega) (by omega) (by omega) (by omega) fun y h1 ho => ?_
  have hls := hx.lenSl
  rw [List.length_map] at hls
  refine LoopR.intro (fun n vs hh => ∃ k, k + n = L.length ∧ vs = [.int .i64 k] ∧ Owns h hh [.sl 1 y (bools 4001 (cov (L.take k))) []] ∧ ∀ w ∈ L.take k, w.right = true) L.length ?_ ⟨0, by simp, by simp, by rw [show bools 4001 (cov (L.take 0)) = fills 4001 (fun _ => [.bool false]) from fills_congr fun j _ => by simp [cov]]; simpa using ho, by simp⟩
  rintro Y n vs hh ⟨k, hn, rfl, ho, hr⟩ hY
  have hx1 := hx.mono ho.le
  simp +contextual -dsimp [hls]
  refine B.cond_bool (fun hb => ?_) (fun hb => ?_) <;> simp +contextual -dsimp at hb ⊢
  · have ew := get_lt (L := L) hb
    obtain ⟨w, hw⟩ := ew
    obtain ⟨f, u⟩ := w
    have hk : k < (L.map Window.cs).length := by simpa using hb
    simp +contextual -dsimp [hx1.idxN hk, hx1.elem (get_map hw)]
    refine s1 _ _ _ _ ?_
    simp +contextual -dsimp
    refine B.cond_bool (fun hc => ?_) (fun hc => ?_) <;> simp +contextual -dsimp at hc ⊢
    · refine dn_le ho.le (hq _ _ ?_)
      have : rrows L = [] := by
        unfold rrows
        rw [if_neg]
        intro ha
        rw [List.all_eq_true] at ha
        rw [ha _ (List.mem_of_getElem? hw)] at hc; cases hc
      rw [this]
      exact (Owns.start h).nils 2
    · have hc' := hc
      simp only [Window.right, Bool.and_eq_true, decide_eq_true_eq] at hc'
      simp +contextual -dsimp [hx1.idxN hk, hx1.fieldA hk, hx1.ldv (get_map hw) (f := 0) (by omega)]
      refine LoopR.intro (fun m vs hh => ∃ d : Nat, (d : Int) + m = u ∧ f ≤ d ∧ vs = [.int .i64 d] ∧ Owns h hh [.sl 1 y (bools 4001 fun j => cov (L.take k) j || (decide (f ≤ j) && decide (j < d))) []]) (u.toNat - f.toNat) ?_ ⟨f.toNat, by omega, by omega, by simp; omega, ?_⟩
      · rintro Y2 m vs hh2 ⟨d, hm, hfd, rfl, ho2⟩ hY2
        have hx2 := hx.mono ho2.le
        simp +contextual -dsimp [hx2.idxN hk, hx2.fieldA hk, hx2.ldv (get_map hw) (f := 1) (by omega)]
        refine B.cond_bool (fun hd => ?_) (fun hd => ?_) <;> simp +contextual -dsimp at hd ⊢
        · have hd4 : d < 4001 := by omega
          have hy2 := ho2.slAt 0 rfl
          have hdl : d < (bools 4001 fun j => cov (L.take k) j || (decide (f ≤ j) && decide (j < d))).length := by simpa using hd4
          simp +contextual -dsimp [hy2.idxN hdl]
          refine ho2.st 0 rfl (fills_get _ hd4) (by omega) (by simp) fun h3 ho3 _ => ?_
          simp [inc64 (n := d) (by omega)]
          refine hY2 (m - 1) _ _ (by omega) ⟨d + 1, by omega, by omega, by simp, ?_⟩
          have : (bools 4001 fun j => cov (L.take k) j || (decide (f ≤ j) && decide (j < d))).set d [.bool true] = bools 4001 fun j => cov (L.take k) j || (decide (f ≤ j) && decide (j < d + 1)) := by
            rw [fills_set]
            refine fills_congr fun j _ => ?_
            by_cases e : j = d
            · subst e; simp [hfd]
            · have : decide (j < d + 1) = decide (j < d) := by rw [Bool.eq_iff_iff]; simp; omega
              simp [e, this]
          rw [← this]
          exact ho3
        · simp [inc64 (n := k) (by omega)]
          refine hY (L.length - (k + 1)) _ _ (by omega) ⟨k + 1, by omega, by simp, ?_, ?_⟩
          · have : (bools 4001 fun j => cov (L.take k) j || (decide (f ≤ j) && decide (j < d))) = bools 4001 (cov (L.take (k + 1))) := by
              refine fills_congr fun j _ => ?_
              have : decide (j < d) = decide ((j : Int) < u) := by rw [Bool.eq_iff_iff]; simp; omega
              simp [take_succ hw, cov, this]
            rw [← this]
            exact ho2
          · rw [take_succ hw]
            intro w' hw'
            rcases List.mem_append.1 hw' with hw' | hw'
            · exact hr w' hw'
            · rw [List.mem_singleton.1 hw']; exact hc
      · have : (bools 4001 fun j => cov (L.take k) j || (decide (f ≤ j) && decide (j < f.toNat))) = bools 4001 (cov (L.take k)) := by
          refine fills_congr fun j _ => ?_
          have : (decide (f ≤ (j : Int)) && decide (j < f.toNat)) = false := by rw [Bool.eq_false_iff]; simp
          simp only [this, Bool.or_false]
        rw [this]
        exact ho
  · have : k = L.length := by omega
    subst this
    rw [List.take_length] at ho hr
    refine s2 y 4001 (cov L) [] hh _ (ho.slAt 0 rfl) (by omega) fun z h3 ho3 => ?_
    refine dn_same (hq _ _ ?_)
    have : rrows L = ofTo (cov L) 4001 := by unfold rrows; rw [if_pos (List.all_eq_true.2 hr)]
    rw [this]
    exact ho3.back ho.le

theorem ofTo_in (p : Nat → Bool) : ∀ d, ∀ w ∈ ofTo p d, 0 ≤ w.From ∧ w.From ≤ d ∧ 0 ≤ w.Until ∧ w.Until ≤ d
  | 0, w, h => by cases h
  | d + 1, w, h => by
    have ih := ofTo_in p d
    have ih' : ∀ w ∈ ofTo p d, 0 ≤ w.From ∧ w.From ≤ ((d + 1 : Nat) : Int) ∧ 0 ≤ w.Until ∧ w.Until ≤ ((d + 1 : Nat) : Int) := fun w hw => by have := ih w hw; omega
    unfold ofTo ofStep at h
    split at h
    · split at h
      · rcases List.mem_append.1 h with h | h
        · exact ih' w (List.dropLast_subset _ h)
        · rw [List.mem_singleton.1 h]
          cases hg : (ofTo p d).getLast? with
          | none => simp only [Option.getD_none, Window.zero]; omega
          | some z => have := ih z (List.mem_of_getLast? hg); simp only [Option.getD_some]; omega
      · rcases List.mem_append.1 h with h | h
        · exact ih' w h
        · rw [List.mem_singleton.1 h]; simp only; omega
    · exact ih' w h
theorem rrows_len (L : List Window) : (rrows L).length ≤ 4001 := by
  unfold rrows
  split
  · exact ofTo_len _ 4001
  · simp
theorem rrows_in (L : List Window) : ∀ w ∈ rrows L, 0 ≤ w.From ∧ w.From ≤ 4001 ∧ 0 ≤ w.Until ∧ w.Until ≤ 4001 := fun w hw => by
  unfold rrows at hw
  split at hw
  · have := ofTo_in _ 4001 w hw; omega
  · cases hw
def rcount (L : List Window) : Int := ((rrows L).map Window.days).sum
def ref01_Count.Spec (C : CSem) (N : Nat → Nat) : Prop := ∀ (x : AVal) (L : List Window) (R : List (List AVal)) (h : AHeap) (Q : AVal → AHeap → Prop), SlX h 2 x (L.map Window.cs) R → L.length < 4611686018427387904 →
  Q (.int .i64 (rcount L)) h → C (N 14) [x] h Q
theorem ref01_Count.spec (i : ref01_Count.Imp C N) (s1 : ref01_Rows.Spec C N) : ref01_Count.Spec C N := by
  intro x L R h Q hx hlen hq
  apply i
  simp +contextual -dsimp
  refine s1 x L R h _ hx hlen fun y h1 ho => ?_
  have hy := ho.slAt 0 rfl
  have hl := rrows_len L
  have hls := hy.lenSl
  rw [List.length_map] at hls
  have hin := rrows_in L
  have hD : ∀ x ∈ (rrows L).map Window.days, -((4002 : Nat) : Int) ≤ x ∧ x ≤ ((4002 : Nat) : Int) := fun x hx => by
    obtain ⟨w, hw, rfl⟩ := List.mem_map.1 hx
    have := hin w hw
    unfold Window.days; omega
  refine LoopR.intro (fun n vs hh => ∃ k, k + n = (rrows L).length ∧ vs = [.int .i64 (((rrows L).map Window.days).take k).sum, .int .i64 k] ∧ hh = h1) (rrows L).length ?_ ⟨0, by simp, by simp, rfl⟩
  rintro Y n vs _ ⟨k, hn, rfl, rfl⟩ hY
  simp +contextual -dsimp [hls]
  refine B.cond_bool (fun hb => ?_) (fun hb => ?_) <;> simp +contextual -dsimp at hb ⊢
  · have ew := get_lt (L := (rrows L)) hb
    obtain ⟨w, hw⟩ := ew
    have d1 := sum_take_le hD k
    have d3 := hin w (List.mem_of_getElem? hw)
    rw [List.length_map] at d1
    have hk : k < ((rrows L).map Window.cs).length := by simpa using hb
    have e1 : IntKind.i64.wrap ((((rrows L).map Window.days).take k).sum + w.Until) = (((rrows L).map Window.days).take k).sum + w.Until := wrap_i64 (by omega) (by omega)
    have e2 : IntKind.i64.wrap ((((rrows L).map Window.days).take k).sum + w.Until - w.From) = (((rrows L).map Window.days).take (k + 1)).sum := by rw [sum_take_succ (get_map hw), wrap_i64 (by omega) (by omega)]; unfold Window.days; omega
    simp +contextual -dsimp [hy.idxN hk, hy.fieldA hk, hy.ldv (get_map hw) (f := 0) (by omega), hy.ldv (get_map hw) (f := 1) (by omega), inc64 (n := k) (by omega), e1, e2]
    exact hY ((rrows L).length - (k + 1)) _ _ (by omega) ⟨k + 1, by omega, by simp, rfl⟩
  · rw [List.take_of_length_le (by simp; omega)]
    exact dn_le ho.le hq
end Go.Ab
