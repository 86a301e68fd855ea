/- What is proved: a part of the way to the statement; each part is headed by what it proves. No conditions. -/
import Derived.Test.YtfinnbedbggnnaaQ6

/- What is proved: contracts of lots' functions: what is over, what is an item's, what can be used; the document's order. No conditions. -/
set_option linter.unusedVariables false
set_option linter.unusedSimpArgs false
namespace Go.Ab
variable {C : CSem} {N : Nat → Nat}
theorem keepL {h h' : AHeap} {p x : AVal} {K : AVal → AHeap → Prop} {v : AVal} (h1 : A.ldv h p = some x) (h2 : A.ldv h' p = some x) (hk : K v h') : B.keepS h [(p, none)] K v h' :=
  ⟨fun q hq => by rw [List.mem_singleton.1 hq]; exact ⟨x, h1, h2⟩, hk⟩
def lotOver (now : Int) (l : Lot) : Bool := l.Arrived && decide (l.Until ≤ now)
def lot_Sweep_1.Spec (C : CSem) (N : Nat → Nat) : Prop := ∀ (l : Lot) (q : AVal) (now : Int) (h : AHeap) (Q : AVal → AHeap → Prop), A.ldv h q = some (.int .i64 now) → Q (.bool (lotOver now l)) h → C (N 162) [.agg l.cs, q] h Q
theorem lot_Sweep_1.spec (i : lot_Sweep_1.Imp C N) : lot_Sweep_1.Spec C N := by
  intro l q now h Q hl hq
  apply i
  simp +contextual -dsimp [hl]
  exact dn_same hq
def lot_Sweep_2.Spec (C : CSem) (N : Nat → Nat) : Prop := ∀ (l : Lot) (q f : AVal) (b : Bool) (h : AHeap) (Q : AVal → AHeap → Prop), A.ldv h q = some f → (∀ K : AVal → AHeap → Prop, K (.bool b) h → B.callv h C f [.agg l.cs] K) → Q (.bool !b) h → C (N 163) [.agg l.cs, q] h Q
theorem lot_Sweep_2.spec (i : lot_Sweep_2.Imp C N) : lot_Sweep_2.Spec C N := by
  intro l q f b h Q hl hf hq
  apply i
  simp +contextual -dsimp [hl]
  refine hf _ ?_
  simp -dsimp
  exact dn_same hq
def lot_Of_1.Spec (C : CSem) (N : Nat → Nat) : Prop := ∀ (l : Lot) (q : AVal) (s : List UInt8) (h : AHeap) (Q : AVal → AHeap → Prop), A.ldv h q = some (.str s) → Q (.bool (decide (l.Item = s))) h → C (N 165) [.agg l.cs, q] h Q
theorem lot_Of_1.spec (i : lot_Of_1.Imp C N) : lot_Of_1.Spec C N := by
  intro l q s h Q hl hq
  apply i
  simp +contextual -dsimp [hl]
  exact dn_same hq
def lotOf (s : List UInt8) (L : List Lot) : List Lot := L.filter fun l => decide (l.Item = s)
def lot_Of.Spec (C : CSem) (N : Nat → Nat) : Prop := ∀ (x : AVal) (L : List Lot) (R : List (List AVal)) (s : List UInt8) (h : AHeap) (Q : AVal → AHeap → Prop), SlX h 6 x (L.map Lot.cs) R → L.length ≤ 100000000 →
  (∀ x' h', Owns h h' [.sl 6 x' ((lotOf s L).map Lot.cs) []] → Q x' h') → C (N 153) [x, .str s] h Q
theorem lot_Of.spec (i : lot_Of.Imp C N) (s1 : lot_some_api_Lot.Spec C N) (s2 : lot_Of_1.Spec C N) : lot_Of.Spec C N := by
  intro x L R s h Q hx hlen hq
  apply i
  simp -dsimp
  intro id hid
  have hle := le_upd (blkOf [AVal.str s]) hid
  refine s1 _ _ (fun l => decide (l.Item = s)) _ _ _ _ (hx.mono hle) hlen (fun l h' K hh hk => ?_) fun x' h' ho => dn_same (hq x' h' (ho.back hle))
  simp -dsimp
  exact s2 _ _ s _ _ (by rw [ldv_at (hh _ _ (upd_same ..))]; rfl) hk
def lot_Sweep.Spec (C : CSem) (N : Nat → Nat) : Prop := ∀ (x : AVal) (L : List Lot) (R : List (List AVal)) (now : Int) (h : AHeap) (Q : AVal → AHeap → Prop), SlX h 6 x (L.map Lot.cs) R → L.length ≤ 100000000 →
  (∀ x' y' h', Owns h h' [.sl 6 x' ((L.filter fun l => !lotOver now l).map Lot.cs) [], .sl 6 y' ((L.filter (lotOver now)).map Lot.cs) []] → Q (.tup [x', y']) h') → C (N 154) [x, .int .i64 now] h Q
theorem lot_Sweep.spec (i : lot_Sweep.Imp C N) (s1 : lot_some_api_Lot.Spec C N) (s2 : lot_Sweep_1.Spec C N) (s3 : lot_Sweep_2.Spec C N) : lot_Sweep.Spec C N := by
  intro x L R now h Q hx hlen hq
  apply i
  simp -dsimp
  intro id hid
  intro id2 hid2
  have hle := le_upd (blkOf [AVal.int .i64 now]) hid
  have hne : id2 ≠ id := fun e => by subst e; rw [upd_same] at hid2; cases hid2
  have o1 := ((Owns.start h).newBox hid [AVal.int .i64 now]).newBox hid2 [AVal.nilf]
  refine o1.boxSt 1 rfl rfl (by simp) fun h2 o2 _ => ?_
  simp only [List.nil_append, List.singleton_append, List.set_cons_succ, List.set_cons_zero] at o2
  obtain ⟨ia, e1, b1⟩ := o2.boxAt 0 rfl
  obtain ⟨ib, e2, b2⟩ := o2.boxAt 1 rfl
  cases e1; cases e2
  have ld2 := ldv_at b2 0
  simp at ld2
  simp -dsimp [ld2]
  have call : ∀ (l : Lot) (h' : AHeap) (K : AVal → AHeap → Prop), h2.le h' → K (.bool (lotOver now l)) h' → B.callv h' C (.fn (N 162) [] [.ptr id 0 0]) [.agg l.cs] K := fun l h' K hh hk => by
    simp -dsimp
    exact s2 _ _ now _ _ (by rw [ldv_at (hh _ _ b1)]; rfl) hk
  refine s1 _ _ (fun l => !lotOver now l) _ _ _ _ (hx.mono o2.le) hlen (fun l h' K hh hk => ?_) fun x' h3 o3 => ?_
  · simp -dsimp
    exact s3 _ _ _ _ _ _ (by rw [ldv_at (hh _ _ b2)]; rfl) (fun K hk => call l h' K hh hk) hk
  · refine keepL ld2 (by rw [ldv_at (o3.le _ _ b2)]; rfl) ?_
    refine s1 _ _ (lotOver now) _ _ _ _ (hx.mono (AHeap.le_trans o2.le o3.le)) hlen (fun l h' K hh hk => call l h' K (AHeap.le_trans o3.le hh) hk) fun y' h4 o4 => ?_
    exact dn_same (hq x' y' h4 ((o3.join o4).back o2.le))
/-- How much can be used: one by one. -/
def onStep (day n : Int) (l : Lot) : Int := if Window.has ⟨l.From, l.Until⟩ day then IntKind.i64.wrap (n + l.Qty) else n
def lotOn (L : List Lot) (day : Int) : Int := (L.filter lotRight).foldl (onStep day) 0
def lot_On.Spec (C : CSem) (N : Nat → Nat) : Prop := ∀ (x : AVal) (L : List Lot) (R : List (List AVal)) (day : Int) (h : AHeap) (Q : AVal → AHeap → Prop), SlX h 6 x (L.map Lot.cs) R → L.length ≤ 100000000 → Q (.int .i64 (lotOn L day)) h → C (N 152) [x, .int .i64 day] h Q
theorem lot_On.spec (i : lot_On.Imp C N) (s1 : lot_some_api_Lot.Spec C N) (s2 : lot_Right.Spec C N) (s3 : window_Has.Spec C N) : lot_On.Spec C N := by
  intro x L R day h Q hx hlen hq
  apply i
  simp -dsimp
  refine s1 _ _ lotRight _ _ _ _ hx hlen (fun l h' K hh hk => ?_) fun y h2 o2 => ?_
  · simp -dsimp
    exact s2 _ _ _ hk
  have hy := o2.slAt 0 rfl
  have e1 := hy.lenSl
  rw [List.length_map] at e1
  unfold lotOn at hq
  have hfl := List.length_filter_le lotRight L
  generalize L.filter lotRight = M at *
  simp -dsimp [e1]
  refine LoopR.intro (fun t vs hh => hh = h2 ∧ ∃ (k : Nat), k + t = M.length ∧ vs = [.int .i64 ((M.take k).foldl (onStep day) 0), .int .i64 (k : Int)]) M.length ?_ ⟨rfl, 0, by simp, rfl⟩
  rintro Y t vs hh ⟨rfl, k, ht, rfl⟩ hY
  simp -dsimp
  refine B.cond_bool (fun hb => ?_) (fun hb => ?_) <;> simp -dsimp at hb ⊢
  · have hg : (M.map Lot.cs)[k]? = some (M[k]).cs := by rw [List.getElem?_map, List.getElem?_eq_getElem hb]; rfl
    have hel := hy.elem hg
    have hidx := hy.idxN (k := .i64) (i := k) (by simpa using hb)
    have htk : (M.take (k + 1)).foldl (onStep day) 0 = onStep day ((M.take k).foldl (onStep day) 0) M[k] := by
      rw [List.take_add_one, List.getElem?_eq_getElem hb, Option.toList_some, List.foldl_append]; rfl
    simp -dsimp [hidx, hel]
    refine s3 _ _ _ _ _ ?_
    refine B.cond_bool (fun hc => ?_) (fun hc => ?_)
    · simp -dsimp [inc64 (n := k) (by omega)]
      refine hY (M.length - (k + 1)) _ _ (by omega) ⟨rfl, k + 1, by omega, ?_⟩
      rw [htk, onStep, if_pos hc]; simp
    · simp -dsimp [inc64 (n := k) (by omega)]
      refine hY (M.length - (k + 1)) _ _ (by omega) ⟨rfl, k + 1, by omega, ?_⟩
      rw [htk, onStep, if_neg (by rw [hc]; simp)]; simp
  · rw [List.take_of_length_le (by omega)]
    exact dn_le o2.le hq

/-! The document's order. -/
end Go.Ab

/- What is proved: contracts of what the statements share about lists of plain things: marks, the same, lent, kept, written over, copied, apart. No conditions. Printed by a program of mine. -/
set_option linter.unusedVariables false
set_option linter.unusedSimpArgs false
set_option maxRecDepth 100000
namespace Go.Ab
variable {C : CSem} {N : Nat → Nat}

/-- A list of lists: x, of n, these xs; what they hold, and behind. -/
structure LL where
  x : AVal
  n : Nat
  xs : Nat → AVal
  D : Nat → List (List AVal)
  R : Nat → List (List AVal)
  W : List (List AVal)
structure LL.ok (t : LL) (h0 : AHeap) : Prop where
  is : SlX h0 1 t.x (fills t.n fun j => [t.xs j]) t.W
  n_le : t.n ≤ 100000000
  len_le : ∀ j, j < t.n → (t.D j).length ≤ 100000000
def kit_SameLots.Spec (C : CSem) (N : Nat → Nat) : Prop := ∀ (x y : AVal) (L M : List Lot) (R S : List (List AVal)) (h : AHeap) (Q : AVal → AHeap → Prop), SlX h 6 x (L.map Lot.cs) R → SlX h 6 y (M.map Lot.cs) S → L.length < 4611686018427387904 →
  Q (.bool (decide (L = M))) h → C (N 74) [x, y] h Q
theorem kit_SameLots.spec (i : kit_SameLots.Imp C N) : kit_SameLots.Spec C N := fun x y L M R S h Q hx hy hlen hq =>
  i x y h Q (sameG_spec lotF hx hy hlen (dn_same hq))

end Go.Ab

/- What is proved: contracts of the fourth chapter's statements' functions. No conditions. -/
set_option linter.unusedVariables false
set_option linter.unusedSimpArgs false
namespace Go.Ab
variable {C : CSem} {N : Nat → Nat}
def three : List Lot := [⟨1, [65], 0, 9, 5, true⟩, ⟨2, [65], 3, 6, 4, false⟩, ⟨3, [66], 0, 6, 2, true⟩]
def law04_three.Spec (C : CSem) (N : Nat → Nat) : Prop := ∀ (h : AHeap) (Q : AVal → AHeap → Prop), (∀ x' h', Owns h h' [.sl 6 x' (three.map Lot.cs) []] → Q x' h') → C (N 159) [] h Q
theorem law04_three.spec (i : law04_three.Imp C N) : law04_three.Spec C N := by
  intro h Q hq
  apply i
  simp -dsimp [repL, A.bld]
  intro id hid
  refine dn_same (hq _ _ ?_)
  have := (Owns.start h).newSl hid (n := 3) (cp := 3) (es := 6) (L := three.map Lot.cs) (R := []) (by simp [three]) (by simp [three]) (by simp [three]) (by simp [three]; rfl)
  simpa using this
def law04_great.Spec (C : CSem) (N : Nat → Nat) : Prop := ∀ (x : AVal) (L : List Lot) (R : List (List AVal)) (h : AHeap) (Q : AVal → AHeap → Prop), SlX h 6 x (L.map Lot.cs) R → L.length < 4611686018427387904 → (∀ l ∈ L, l.Item.length < 4611686018427387904) →
  (∀ b : Bool, (b = false → L.length ≤ 400) → Q (.bool b) h) → C (N 150) [x] h Q
theorem law04_great.spec (i : law04_great.Imp C N) : law04_great.Spec C N := by
  intro x L R h Q hx hlen hit hq
  apply i
  have e1 := hx.lenSl
  rw [List.length_map] at e1
  simp -dsimp [e1]
  refine LoopR.intro (fun t vs hh => hh = h ∧ ∃ (k : Nat) (n : Int), k + t = L.length ∧ vs = [.int .i64 n, .int .i64 (k : Int)] ∧ (L.length : Int) ≤ n ∧ (n ≤ 4611686018427387904 + 4611686018427387904 / 50 + 400)) L.length ?_ ⟨rfl, 0, L.length, by simp, rfl, by omega, by omega⟩
  rintro Y t vs hh ⟨rfl, k, n, ht, rfl, h1, h2⟩ hY
  simp +contextual -dsimp [e1]
  refine B.cond_bool (fun hb => ?_) (fun hb => ?_) <;> simp -dsimp at hb ⊢
  · have hk : k < L.length := by omega
    have hg : (L.map Lot.cs)[k]? = some (L[k]).cs := by rw [List.getElem?_map, List.getElem?_eq_getElem hk]; rfl
    have hidx := hx.idxN (k := .i64) (i := k) (by simpa using hk)
    have hfa := hx.fieldA (i := k) (by simpa using hk) 0 1
    have hld := hx.ldv (i := k) (f := 1) hg (by omega)
    simp at hld hfa
    have hl := hit _ (List.getElem_mem hk)
    have e4 : IntKind.i64.wrap ((L[k].Item.length : Int) / 50) = (L[k].Item.length : Int) / 50 := wrap_i64 (by omega) (by omega)
    simp -dsimp [hidx, hfa, hld, e4, inc64 (n := k) (by omega)]
    rw [wrap_i64 (by omega) (by omega)]
    refine hY (L.length - (k + 1)) _ _ (by omega) ⟨rfl, k + 1, _, by omega, by simp; rfl, by omega, by omega⟩
  · exact dn_same (hq _ fun he => by simp at he; omega)
def law04_count.Spec (C : CSem) (N : Nat → Nat) : Prop := ∀ (x : AVal) (L : List Lot) (R : List (List AVal)) (l : Lot) (h : AHeap) (Q : AVal → AHeap → Prop), SlX h 6 x (L.map Lot.cs) R → L.length < 4611686018427387904 → Q (.int .i64 (L.count l : Nat)) h → C (N 148) [x, .agg l.cs] h Q
theorem law04_count.spec (i : law04_count.Imp C N) : law04_count.Spec C N := by
  intro x L R l h Q hx hlen hq
  apply i
  have e1 := hx.lenSl
  rw [List.length_map] at e1
  simp -dsimp [e1]
  refine LoopR.intro (fun t vs hh => hh = h ∧ ∃ (k : Nat), k + t = L.length ∧ vs = [.int .i64 (((L.take k).count l : Nat) : Int), .int .i64 (k : Int)]) L.length ?_ ⟨rfl, 0, by simp, by simp⟩
  rintro Y t vs hh ⟨rfl, k, ht, rfl⟩ hY
  simp -dsimp [e1]
  refine B.cond_bool (fun hb => ?_) (fun hb => ?_) <;> simp -dsimp at hb ⊢
  · have hg : (L.map Lot.cs)[k]? = some (L[k]).cs := by rw [List.getElem?_map, List.getElem?_eq_getElem hb]; rfl
    have hel := hx.elem hg
    have hidx := hx.idxN (k := .i64) (i := k) (by simpa using hb)
    have heq := lotF.eql L[k] l
    have htk : L.take (k + 1) = L.take k ++ [L[k]] := by rw [List.take_add_one, List.getElem?_eq_getElem hb]; rfl
    have hcl := List.count_le_length (a := l) (l := L.take k)
    simp only [List.length_take] at hcl
    simp only [lotF, Lot.cs] at heq
    simp -dsimp [hidx, hel, heq]
    refine B.cond_bool (fun hc => ?_) (fun hc => ?_) <;> simp -dsimp at hc ⊢
    · simp -dsimp [inc64 (n := k) (by omega), inc64 (n := (L.take k).count l) (by omega)]
      refine hY (L.length - (k + 1)) _ _ (by omega) ⟨rfl, k + 1, by omega, ?_⟩
      rw [htk, List.count_append, hc]; simp
    · simp -dsimp [inc64 (n := k) (by omega)]
      refine hY (L.length - (k + 1)) _ _ (by omega) ⟨rfl, k + 1, by omega, ?_⟩
      rw [htk, List.count_append, List.count_singleton]; simp [hc]
  · rw [List.take_of_length_le (by omega)]
    exact dn_same hq
def law04_awake.Spec (C : CSem) (N : Nat → Nat) : Prop := ∀ (h : AHeap) (Q : AVal → AHeap → Prop), Q (.bool true) h → C (N 146) [] h Q
theorem law04_awake.spec (i : law04_awake.Imp C N) (s1 : law04_three.Spec C N) (s2 : lot_Sort.Spec C N) (s3 : lot_Sweep.Spec C N) (s4 : lot_On.Spec C N) (s5 : lot_Right.Spec C N) (s6 : lot_Of.Spec C N) : law04_awake.Spec C N := by
  intro h Q hq
  apply i
  simp -dsimp
  refine s1 _ _ fun x1 h1 o1 => ?_
  refine s2 _ _ _ _ _ (o1.slAt 0 rfl) (by decide) fun x2 h2 o2 => ?_
  rw [show sortLots three = [⟨2, [65], 3, 6, 4, false⟩, ⟨3, [66], 0, 6, 2, true⟩, ⟨1, [65], 0, 9, 5, true⟩] by decide] at o2
  refine s1 _ _ fun x3 h3 o3 => ?_
  refine s3 _ _ _ _ _ _ (o3.slAt 0 rfl) (by decide) fun x4 x5 h4 o4 => ?_
  rw [show three.filter (fun l => !lotOver 6 l) = [⟨1, [65], 0, 9, 5, true⟩, ⟨2, [65], 3, 6, 4, false⟩] by decide, show three.filter (lotOver 6) = [⟨3, [66], 0, 6, 2, true⟩] by decide] at o4
  have a2 := (o2.slAt 0 rfl).mono (AHeap.le_trans o3.le o4.le)
  have a4 := o4.slAt 0 rfl
  have a5 := o4.slAt 1 rfl
  have i0 : V.idxS 6 x2 (.int .i64 0) = some (elp 6 x2 0 0) := a2.idxN (i := 0) (by simp)
  have i1 : V.idxS 6 x2 (.int .i64 1) = some (elp 6 x2 1 0) := a2.idxN (i := 1) (by simp)
  have i2 : V.idxS 6 x2 (.int .i64 2) = some (elp 6 x2 2 0) := a2.idxN (i := 2) (by simp)
  have j0 : V.idxS 6 x5 (.int .i64 0) = some (elp 6 x5 0 0) := a5.idxN (i := 0) (by simp)
  have f0 := a2.fieldA (i := 0) (by simp) 0 0
  have f1 := a2.fieldA (i := 1) (by simp) 0 0
  have f2 := a2.fieldA (i := 2) (by simp) 0 0
  have g0 := a5.fieldA (i := 0) (by simp) 0 0
  have d0 := a2.ldv (i := 0) (f := 0) rfl (by omega)
  have d1 := a2.ldv (i := 1) (f := 0) rfl (by omega)
  have d2 := a2.ldv (i := 2) (f := 0) rfl (by omega)
  have c0 := a5.ldv (i := 0) (f := 0) rfl (by omega)
  simp at f0 f1 f2 g0 d0 d1 d2 c0
  simp -dsimp [a2.lenSl, a4.lenSl, a5.lenSl, i0, i1, i2, j0, f0, f1, f2, g0, d0, d1, d2, c0]
  refine s1 _ _ fun x6 h6 o6 => ?_
  simp -dsimp
  refine s4 _ _ _ _ _ _ (o6.slAt 0 rfl) (by decide) ?_
  rw [show lotOn three 4 = 11 by decide]
  simp -dsimp
  refine s1 _ _ fun x7 h7 o7 => ?_
  simp -dsimp
  refine s4 _ _ _ _ _ _ (o7.slAt 0 rfl) (by decide) ?_
  rw [show lotOn three 9 = 0 by decide]
  have b2 := a2.mono (AHeap.le_trans o6.le o7.le)
  have el := b2.elem (i := 0) rfl
  simp -dsimp [i0, el]
  refine s5 ⟨2, [65], 3, 6, 4, false⟩ _ _ ?_
  rw [show lotRight ⟨2, [65], 3, 6, 4, false⟩ = true by decide]
  simp -dsimp [A.bld]
  refine s5 ⟨0, [], 0, 0, 0, false⟩ _ _ ?_
  rw [show lotRight ⟨0, [], 0, 0, 0, false⟩ = false by decide]
  simp -dsimp
  refine s6 _ [⟨2, [65], 3, 6, 4, false⟩, ⟨3, [66], 0, 6, 2, true⟩, ⟨1, [65], 0, 9, 5, true⟩] _ _ _ _ b2 (by decide) fun x8 h8 o8 => ?_
  have a8 := (o8.slAt 0 rfl).lenSl
  rw [show lotOf [66] [⟨2, [65], 3, 6, 4, false⟩, ⟨3, [66], 0, 6, 2, true⟩, ⟨1, [65], 0, 9, 5, true⟩] = [⟨3, [66], 0, 6, 2, true⟩] by decide] at a8
  simp -dsimp [a8]
  exact dn_le (AHeap.le_trans o1.le (AHeap.le_trans o2.le (AHeap.le_trans o3.le (AHeap.le_trans o4.le (AHeap.le_trans o6.le (AHeap.le_trans o7.le o8.le)))))) hq
end Go.Ab

/- What is proved: contracts of the fourth chapter's statements' functions: what is sorted. No conditions. -/
set_option linter.unusedVariables false
set_option linter.unusedSimpArgs false
namespace Go.Ab
variable {C : CSem} {N : Nat → Nat}
theorem stable_self {T : Type} {c : T → T → Int} (W : Weak (lessC c)) {S : List T} (h : S.Pairwise fun a b => lessC c b a = false) : sortB c S = S := by
  refine (sortB_stable W S).unique W ⟨S.zipIdx, by simp, List.Perm.refl _, ?_⟩
  rw [List.pairwise_iff_getElem] at h ⊢
  intro i j h1 h2 hij
  rw [List.length_zipIdx] at h1 h2
  simp only [List.getElem_zipIdx]
  exact .inr ⟨h i j h1 h2 hij, by simpa using hij⟩
theorem sortLots_perm (L : List Lot) : (sortLots L).Perm L := (sortB_stable lotW L).perm
theorem sortLots_len (L : List Lot) : (sortLots L).length = L.length := (sortLots_perm L).length_eq
theorem sortLots_up (L : List Lot) : (sortLots L).Pairwise fun a b => lessC lotCmp b a = false := (sortB_stable lotW L).sorted lotW
theorem sortLots_again (L : List Lot) : sortLots (sortLots L) = sortLots L := stable_self lotW (sortLots_up L)
theorem lotCmp_pos (a b : Lot) : 0 < lotCmp a b ↔ b.Until < a.Until ∨ (a.Until = b.Until ∧ b.Id < a.Id) := by
  unfold lotCmp orInt cmpInt
  repeat' split
  all_goals omega
theorem lotCmp_one (a b : Lot) : lotCmp a b = -1 ∨ lotCmp a b = 0 ∨ lotCmp a b = 1 := by
  unfold lotCmp orInt cmpInt
  repeat' split
  all_goals omega
theorem lotCmp_swap (a b : Lot) : lotCmp b a = -lotCmp a b := by
  have h1 := lotCmp_one a b; have h2 := lotCmp_one b a
  have h3 := lotCmp_neg a b; have h4 := lotCmp_neg b a; have h5 := lotCmp_pos a b; have h6 := lotCmp_pos b a
  omega
theorem lotCmp_chain (a b c : Lot) (h1 : lotCmp a b ≤ 0) (h2 : lotCmp b c ≤ 0) : lotCmp a c ≤ 0 ∧ (lotCmp a c < 0 ∨ lotCmp a b = 0 ∧ lotCmp b c = 0) := by
  have e1 := lotCmp_pos a b; have e2 := lotCmp_pos b c; have e3 := lotCmp_pos a c
  have f1 := lotCmp_neg a b; have f2 := lotCmp_neg b c; have f3 := lotCmp_neg a c
  omega
def law04_LotSorted.Spec (C : CSem) (N : Nat → Nat) : Prop := ∀ (x : AVal) (L : List Lot) (R : List (List AVal)) (a b c : Lot) (h : AHeap) (Q : AVal → AHeap → Prop), SlX h 6 x (L.map Lot.cs) R → L.length < 4611686018427387904 → (∀ l ∈ L, l.Item.length < 4611686018427387904) →
  Q (.bool true) h → C (N 151) [x, .agg a.cs, .agg b.cs, .agg c.cs] h Q
theorem law04_LotSorted.spec (i : law04_LotSorted.Imp C N) (s1 : law04_awake.Spec C N) (s2 : law04_great.Spec C N) (s3 : lot_Sort.Spec C N) (s4 : kit_SameLots.Spec C N) (s5 : lot_Compare.Spec C N) (s6 : law04_count.Spec C N) : law04_LotSorted.Spec C N := by
  intro x L R a b c h Q hx hlen hit hq
  apply i
  simp -dsimp
  refine s1 _ _ ?_
  simp -dsimp
  refine s2 _ _ _ _ _ hx hlen hit fun bg hbg => ?_
  refine B.cond_bool (fun hb => dn_same hq) (fun hb => ?_)
  have hl := hbg hb
  refine s3 _ _ _ _ _ hx (by omega) fun x2 h2 o2 => ?_
  have hx2 := hx.mono o2.le
  have y2 := o2.slAt 0 rfl
  have e1 := hx2.lenSl
  have e2 := y2.lenSl
  rw [List.length_map] at e1 e2
  have hsl := sortLots_len L
  have hsp := sortLots_perm L
  have hsu := sortLots_up L
  have hsa := sortLots_again L
  rw [hsl] at e2
  simp -dsimp [e1, e2]
  refine s3 _ _ _ _ _ y2 (by omega) fun x3 h3 o3 => ?_
  rw [hsa] at o3
  simp -dsimp
  have y23 := y2.mono o3.le
  have hx3 := hx2.mono o3.le
  refine s4 _ _ _ _ _ _ _ _ (o3.slAt 0 rfl) y23 (by omega) ?_
  simp -dsimp
  generalize hS : sortLots L = S at *
  have hle := AHeap.le_trans o2.le o3.le
  clear o2 o3 y2 hx2
  refine LoopR.intro (fun t vs hh => hh = h3 ∧ ∃ k : Nat, k + t = S.length ∧ vs = [.int .i64 (k : Int)]) S.length ?_ ⟨rfl, 0, by simp, rfl⟩
  rintro Y t vs hh ⟨rfl, k, ht, rfl⟩ hY
  simp -dsimp [e2]
  refine B.cond_bool (fun hb => ?_) (fun hb => ?_)
  · have hk : k < S.length := by simp at hb; omega
    have hg : (S.map Lot.cs)[k]? = some (S[k]).cs := by rw [List.getElem?_map, List.getElem?_eq_getElem hk]; rfl
    have hel := y23.elem hg
    have hidx := y23.idxN (k := .i64) (i := k) (by simpa using hk)
    have hcnt : S.count S[k] = L.count S[k] := hsp.count_eq _
    have rest : (B.gd hh (.bool false) false (fun K => K x2 hh) fun v54 h => B.gd h (.bool false) false (fun K => K x2 h) fun v55 h => B.gd h (.bool false) false (fun K => K (.int .i64 (k : Int)) h) fun v56 h => B.gd h (.bool false) false (fun K => B.pv (V.idxS 6 v55 v56) fun v => K v h) fun v57 h =>
        B.gd h (.bool false) false (fun K => B.ldn h v57 6 fun v => K v h) fun v58 h => B.gd h (.bool false) false (fun K => K x h) fun v60 h => B.gd h (.bool false) false (fun K => K x2 h) fun v61 h => B.gd h (.bool false) false (fun K => K (.int .i64 (k : Int)) h) fun v62 h => B.gd h (.bool false) false (fun K => B.pv (V.idxS 6 v61 v62) fun v => K v h) fun v63 h =>
        B.gd h (.bool false) false (fun K => B.ldn h v63 6 fun v => K v h) fun v64 h => B.gd h (.bool false) false (fun K => B.call C (N 148) [v54, v58] h (B.keepS h [(v63, some 6)] K)) fun v59 h => B.gd h (.bool false) false (fun K => B.call C (N 148) [v60, v64] h K) fun v65 h =>
        B.gd h (.bool false) false (fun K => B.pv (V.bin .neq v59 v65) fun v => K v h) fun v66 h => B.pick (.bool false) (.bool true) v66 fun v67 => B.cond v67 (dn Q (.bool false) h) (B.pv (V.bin .add (.int .i64 (k : Int)) (.int .i64 1)) fun v37 => Y [v37] h) : Prop) := by
      simp -dsimp [hidx, hel]
      refine s6 _ _ _ S[k] _ _ y23 (by omega) ?_
      refine keepS1 ⟨_, hel⟩ ?_
      simp -dsimp
      refine s6 _ _ _ S[k] _ _ hx3 (by omega) ?_
      rw [hcnt]
      simp -dsimp [inc64 (n := k) (by omega)]
      exact hY (S.length - (k + 1)) _ _ (by omega) ⟨rfl, k + 1, by omega, by simp⟩
    rcases Nat.eq_zero_or_pos k with rfl | hk0
    · simp -dsimp only [V.bin_gtr, B.pv_some, Int.natCast_zero]
      rw [show decide ((0 : Int) < 0) = false by decide]
      simp -dsimp only [B.gd_t, B.gdb_pure, B.gdb_false, B.pick_f]
      exact rest
    · have hg1 : (S.map Lot.cs)[k - 1]? = some (S[k - 1]).cs := by rw [List.getElem?_map, List.getElem?_eq_getElem (by omega)]; rfl
      have hel1 := y23.elem hg1
      have hidx1 := y23.idxN (k := .i64) (i := k - 1) (by simp; omega)
      have ek : IntKind.i64.wrap ((k : Int) - 1) = ((k - 1 : Nat) : Int) := by rw [wrap_i64 (by omega) (by omega)]; omega
      have up := pw_get hsu (show k - 1 < k by omega) (List.getElem?_eq_getElem (by omega)) (List.getElem?_eq_getElem hk)
      have hng : ¬ 0 < lotCmp S[k - 1] S[k] := by
        have := lotCmp_swap S[k - 1] S[k]
        simp [lessC] at up; omega
      simp -dsimp only [V.bin_gtr, B.pv_some]
      rw [show decide ((0 : Int) < k) = true by simp; omega]
      simp -dsimp only [B.gd_t, B.gdb_pure, B.gdb_true, gv_true, V.bin_sub, ek, hidx1, hidx, B.pv_some, B.ldn_eq, hel1, hel]
      refine s5 _ _ _ _ ?_
      simp -dsimp only [B.gd_t, B.gdb_true, V.bin_gtr, B.pv_some, B.pick_t]
      rw [show decide (0 < lotCmp S[k - 1] S[k]) = false by simpa using hng]
      exact rest
  · have h1 := lotCmp_one a b; have h2 := lotCmp_one b c; have h3 := lotCmp_one a c
    have h4 := lotCmp_swap a b
    have h5 := lotCmp_chain a b c
    have h6 : lotCmp a a = 0 := by have := lotCmp_swap a a; omega
    simp -dsimp
    refine s5 a b _ _ ?_
    refine s5 b c _ _ ?_
    refine s5 a c _ _ ?_
    simp -dsimp
    refine s5 b a _ _ ?_
    rw [h4]
    generalize lotCmp a b = p at *
    generalize lotCmp b c = q at *
    generalize lotCmp a c = r at *
    have hw : IntKind.i64.wrap (0 - p) = -p := by rw [wrap_i64 (by omega) (by omega)]; omega
    simp -dsimp only [V.un_neg, V.bin_neq, B.pv_some, hw, decide_true, Bool.not_true, B.gd_f, Bool.not_false, B.gdb_true, V.fieldN_agg]
    simp -dsimp
    refine s5 a a _ _ ?_
    rw [h6]
    have fin := dn_le hle hq
    rcases h1 with rfl | rfl | rfl <;> rcases h2 with rfl | rfl | rfl <;> rcases h3 with rfl | rfl | rfl <;> first | (exfalso; omega) | (simp -dsimp; exact fin)
end Go.Ab

/- What is proved: plain facts on lots: what is over, how much can be used. No program in sight. No conditions. -/
set_option linter.unusedVariables false
set_option linter.unusedSimpArgs false
namespace Go.Ab
end Go.Ab

/- What is proved: contracts of the fourth chapter's statements' functions: what is over. No conditions. -/
set_option linter.unusedVariables false
set_option linter.unusedSimpArgs false
namespace Go.Ab
variable {C : CSem} {N : Nat → Nat}
end Go.Ab
