/- What is proved: a part of the way to the statement; each part is headed by what it proves. No conditions. -/
import Derived.Test.YtfinnbedbggnnaaQ6

/- What is proved: contracts of the fourth chapter's statements' functions. No conditions. -/
set_option linter.unusedVariables false
set_option linter.unusedSimpArgs false
namespace Go.Ab
variable {C : CSem} {N : Nat → Nat}
def three : List Lot := [⟨1, [65], 0, 9, 5, true⟩, ⟨2, [65], 3, 6, 4, false⟩, ⟨3, [66], 0, 6, 2, true⟩]
def law04_three.Spec (C : CSem) (N : Nat → Nat) : Prop := ∀ (h : AHeap) (Q : AVal → AHeap → Prop), (∀ x' h', Owns h h' [.sl 6 x' (three.map Lot.cs) []] → Q x' h') → C (N 159) [] h Q
theorem law04_three.spec (i : law04_three.Imp C N) : law04_three.Spec C N := by
  intro h Q hq
  apply i
  simp -dsimp [repL, A.bld]
  intro id hid
  refine dn_same (hq _ _ ?_)
  have := (Owns.start h).newSl hid (n := 3) (cp := 3) (es := 6) (L := three.map Lot.cs) (R := []) (by simp [three]) (by simp [three]) (by simp [three]) (by simp [three]; rfl)
  simpa using this
def law04_great.Spec (C : CSem) (N : Nat → Nat) : Prop := ∀ (x : AVal) (L : List Lot) (R : List (List AVal)) (h : AHeap) (Q : AVal → AHeap → Prop), SlX h 6 x (L.map Lot.cs) R → L.length < 4611686018427387904 → (∀ l ∈ L, l.Item.length < 4611686018427387904) →
  (∀ b : Bool, (b = false → L.length ≤ 400) → Q (.bool b) h) → C (N 150) [x] h Q
theorem law04_great.spec (i : law04_great.Imp C N) : law04_great.Spec C N := by
  intro x L R h Q hx hlen hit hq
  apply i
  have e1 := hx.lenSl
  rw [List.length_map] at e1
  simp -dsimp [e1]
  refine LoopR.intro (fun t vs hh => hh = h ∧ ∃ (k : Nat) (n : Int), k + t = L.length ∧ vs = [.int .i64 n, .int .i64 (k : Int)] ∧ (L.length : Int) ≤ n ∧ (n ≤ 4611686018427387904 + 4611686018427387904 / 50 + 400)) L.length ?_ ⟨rfl, 0, L.length, by simp, rfl, by omega, by omega⟩
  rintro Y t vs hh ⟨rfl, k, n, ht, rfl, h1, h2⟩ hY
  simp +contextual -dsimp [e1]
  refine B.cond_bool (fun hb => ?_) (fun hb => ?_) <;> simp -dsimp at hb ⊢
  · have hk : k < L.length := by omega
    have hg : (L.map Lot.cs)[k]? = some (L[k]).cs := by rw [List.getElem?_map, List.getElem?_eq_getElem hk]; rfl
    have hidx := hx.idxN (k := .i64) (i := k) (by simpa using hk)
    have hfa := hx.fieldA (i := k) (by simpa using hk) 0 1
    have hld := hx.ldv (i := k) (f := 1) hg (by omega)
    simp at hld hfa
    have hl := hit _ (List.getElem_mem hk)
    have e4 : IntKind.i64.wrap ((L[k].Item.length : Int) / 50) = (L[k].Item.length : Int) / 50 := wrap_i64 (by omega) (by omega)
    simp -dsimp [hidx, hfa, hld, e4, inc64 (n := k) (by omega)]
    rw [wrap_i64 (by omega) (by omega)]
    refine hY (L.length - (k + 1)) _ _ (by omega) ⟨rfl, k + 1, _, by omega, by simp; rfl, by omega, by omega⟩
  · exact dn_same (hq _ fun he => by simp at he; omega)
def law04_awake.Spec (C : CSem) (N : Nat → Nat) : Prop := ∀ (h : AHeap) (Q : AVal → AHeap → Prop), Q (.bool true) h → C (N 146) [] h Q
theorem law04_awake.spec (i : law04_awake.Imp C N) (s1 : law04_three.Spec C N) (s2 : lot_Sort.Spec C N) (s3 : lot_Sweep.Spec C N) (s4 : lot_On.Spec C N) (s5 : lot_Right.Spec C N) (s6 : lot_Of.Spec C N) : law04_awake.Spec C N := by
  intro h Q hq
  apply i
  simp -dsimp
  refine s1 _ _ fun x1 h1 o1 => ?_
  refine s2 _ _ _ _ _ (o1.slAt 0 rfl) (by decide) fun x2 h2 o2 => ?_
  rw [show sortLots three = [⟨2, [65], 3, 6, 4, false⟩, ⟨3, [66], 0, 6, 2, true⟩, ⟨1, [65], 0, 9, 5, true⟩] by decide] at o2
  refine s1 _ _ fun x3 h3 o3 => ?_
  refine s3 _ _ _ _ _ _ (o3.slAt 0 rfl) (by decide) fun x4 x5 h4 o4 => ?_
  rw [show three.filter (fun l => !lotOver 6 l) = [⟨1, [65], 0, 9, 5, true⟩, ⟨2, [65], 3, 6, 4, false⟩] by decide, show three.filter (lotOver 6) = [⟨3, [66], 0, 6, 2, true⟩] by decide] at o4
  have a2 := (o2.slAt 0 rfl).mono (AHeap.le_trans o3.le o4.le)
  have a4 := o4.slAt 0 rfl
  have a5 := o4.slAt 1 rfl
  have i0 : V.idxS 6 x2 (.int .i64 0) = some (elp 6 x2 0 0) := a2.idxN (i := 0) (by simp)
  have i1 : V.idxS 6 x2 (.int .i64 1) = some (elp 6 x2 1 0) := a2.idxN (i := 1) (by simp)
  have i2 : V.idxS 6 x2 (.int .i64 2) = some (elp 6 x2 2 0) := a2.idxN (i := 2) (by simp)
  have j0 : V.idxS 6 x5 (.int .i64 0) = some (elp 6 x5 0 0) := a5.idxN (i := 0) (by simp)
  have f0 := a2.fieldA (i := 0) (by simp) 0 0
  have f1 := a2.fieldA (i := 1) (by simp) 0 0
  have f2 := a2.fieldA (i := 2) (by simp) 0 0
  have g0 := a5.fieldA (i := 0) (by simp) 0 0
  have d0 := a2.ldv (i := 0) (f := 0) rfl (by omega)
  have d1 := a2.ldv (i := 1) (f := 0) rfl (by omega)
  have d2 := a2.ldv (i := 2) (f := 0) rfl (by omega)
  have c0 := a5.ldv (i := 0) (f := 0) rfl (by omega)
  simp at f0 f1 f2 g0 d0 d1 d2 c0
  simp -dsimp [a2.lenSl, a4.lenSl, a5.lenSl, i0, i1, i2, j0, f0, f1, f2, g0, d0, d1, d2, c0]
  refine s1 _ _ fun x6 h6 o6 => ?_
  simp -dsimp
  refine s4 _ _ _ _ _ _ (o6.slAt 0 rfl) (by decide) ?_
  rw [show lotOn three 4 = 11 by decide]
  simp -dsimp
  refine s1 _ _ fun x7 h7 o7 => ?_
  simp -dsimp
  refine s4 _ _ _ _ _ _ (o7.slAt 0 rfl) (by decide) ?_
  rw [show lotOn three 9 = 0 by decide]
  have b2 := a2.mono (AHeap.le_trans o6.le o7.le)
  have el := b2.elem (i := 0) rfl
  simp -dsimp [i0, el]
  refine s5 ⟨2, [65], 3, 6, 4, false⟩ _ _ ?_
  rw [show lotRight ⟨2, [65], 3, 6, 4, false⟩ = true by decide]
  simp -dsimp [A.bld]
  refine s5 ⟨0, [], 0, 0, 0, false⟩ _ _ ?_
  rw [show lotRight ⟨0, [], 0, 0, 0, false⟩ = false by decide]
  simp -dsimp
  refine s6 _ [⟨2, [65], 3, 6, 4, false⟩, ⟨3, [66], 0, 6, 2, true⟩, ⟨1, [65], 0, 9, 5, true⟩] _ _ _ _ b2 (by decide) fun x8 h8 o8 => ?_
  have a8 := (o8.slAt 0 rfl).lenSl
  rw [show lotOf [66] [⟨2, [65], 3, 6, 4, false⟩, ⟨3, [66], 0, 6, 2, true⟩, ⟨1, [65], 0, 9, 5, true⟩] = [⟨3, [66], 0, 6, 2, true⟩] by decide] at a8
  simp -dsimp [a8]
  exact dn_le (AHeap.le_trans o1.le (AHeap.le_trans o2.le (AHeap.le_trans o3.le (AHeap.le_trans o4.le (AHeap.le_trans o6.le (AHeap.le_trans o7.le o8.le)))))) hq
end Go.Ab

/- What is proved: contracts of the fourth chapter's statements' functions: what is sorted. No conditions. -/
set_option linter.unusedVariables false
set_option linter.unusedSimpArgs false
namespace Go.Ab
variable {C : CSem} {N : Nat → Nat}
theorem w64_0 : IntKind.i64.wrap 0 = 0 := wrap_i64 (by omega) (by omega)
end Go.Ab

/- What is proved: plain facts on lots: what is over, how much can be used. No program in sight. No conditions. -/
set_option linter.unusedVariables false
set_option linter.unusedSimpArgs false
namespace Go.Ab
def amt (day : Int) (l : Lot) : Int := if lotRight l && Window.has ⟨l.From, l.Until⟩ day then l.Qty else 0
def amts (day : Int) : List Lot → Int
  | [] => 0
  | l :: L => amt day l + amts day L
theorem wrap64_add (a b : Int) : IntKind.i64.wrap (IntKind.i64.wrap a + b) = IntKind.i64.wrap (a + b) := by
  simp only [IntKind.wrap_i64]; omega
theorem lotOn_from (day : Int) : ∀ (L : List Lot) (n : Int), (L.filter lotRight).foldl (onStep day) (IntKind.i64.wrap n) = IntKind.i64.wrap (n + amts day L)
  | [], n => by simp [amts]
  | l :: L, n => by
    rw [List.filter_cons]
    cases hr : lotRight l with
    | false =>
      simp only [Bool.false_eq_true, if_false]
      rw [lotOn_from day L n]; simp [amts, amt, hr]
    | true =>
      simp only [if_true, List.foldl_cons]
      cases hh : Window.has ⟨l.From, l.Until⟩ day with
      | false => rw [onStep, if_neg (by rw [hh]; simp), lotOn_from day L n]; simp [amts, amt, hr, hh]
      | true => rw [onStep, if_pos hh, wrap64_add, lotOn_from day L (n + l.Qty)]; simp [amts, amt, hr, hh, Int.add_assoc]
theorem lotOn_eq (L : List Lot) (day : Int) : lotOn L day = IntKind.i64.wrap (amts day L) := by
  have := lotOn_from day L 0
  rw [w64_0, Int.zero_add] at this
  exact this
theorem amts_part (day : Int) (p : Lot → Bool) : ∀ L : List Lot, amts day (L.filter p) + amts day (L.filter fun l => !p l) = amts day L
  | [] => rfl
  | l :: L => by
    have := amts_part day p L
    rw [List.filter_cons, List.filter_cons]
    cases h : p l <;> simp [amts] <;> omega
theorem amt_over (now : Int) (l : Lot) (h : lotOver now l = true) : amt now l = 0 := by
  unfold amt
  rw [if_neg]
  simp [lotOver] at h
  simp [Window.has]
  omega
theorem amts_zero (day : Int) : ∀ {L : List Lot}, (∀ l ∈ L, amt day l = 0) → amts day L = 0
  | [], _ => rfl
  | l :: L, h => by rw [amts, h l (by simp), amts_zero day fun l hl => h l (by simp [hl])]; rfl
theorem amts_gone (now : Int) (L : List Lot) : amts now (L.filter (lotOver now)) = 0 := amts_zero now fun l hl => amt_over now l (List.mem_filter.1 hl).2
theorem amts_left (now : Int) (L : List Lot) : amts now (L.filter fun l => !lotOver now l) = amts now L := by
  have h1 := amts_part now (lotOver now) L
  have h2 := amts_gone now L
  omega
theorem gone_mono (day now : Int) (h : day ≤ now) (L : List Lot) : (L.filter (lotOver day)).length ≤ (L.filter (lotOver now)).length := by
  rw [← List.countP_eq_length_filter, ← List.countP_eq_length_filter]
  refine List.countP_mono_left fun l _ hl => ?_
  simp [lotOver] at hl ⊢
  exact ⟨hl.1, by omega⟩
theorem swept_len (now : Int) (L : List Lot) : (L.filter fun l => !lotOver now l).length + (L.filter (lotOver now)).length = L.length := by
  rw [← List.countP_eq_length_filter, ← List.countP_eq_length_filter]
  have := List.length_eq_countP_add_countP (lotOver now) (l := L)
  simp only [Bool.not_eq_true] at this
  have e : L.countP (fun l => !lotOver now l) = L.countP (fun a => decide (lotOver now a = false)) := by congr 1; funext l; cases lotOver now l <;> rfl
  rw [e]; omega
/-- The items seen among the first. -/
def seenIn (L : List Lot) (i : Nat) (s : List UInt8) : Bool := (L.take i).any fun l => decide (l.Item = s)
theorem amts_seen (day : Int) (p : Lot → Bool) (s : List UInt8) (hp : ∀ l, l.Item = s → p l = false) : ∀ L : List Lot, amts day (L.filter fun l => p l || decide (l.Item = s)) = amts day (L.filter p) + amts day (lotOf s L)
  | [] => rfl
  | l :: L => by
    have := amts_seen day p s hp L
    unfold lotOf at this ⊢
    rw [List.filter_cons, List.filter_cons, List.filter_cons]
    by_cases h : l.Item = s
    · simp [h, hp l h, amts]; omega
    · cases hl : p l <;> simp [h, amts] <;> omega
theorem seen_step {L : List Lot} {i : Nat} (hi : i < L.length) (s : List UInt8) : seenIn L (i + 1) s = (seenIn L i s || decide (L[i].Item = s)) := by
  unfold seenIn
  rw [List.take_add_one, List.getElem?_eq_getElem hi, List.any_append]; simp
def seenSum (day : Int) (L : List Lot) (i : Nat) : Int := amts day (L.filter fun l => seenIn L i l.Item)
theorem seenSum_old (day : Int) {L : List Lot} {i : Nat} (hi : i < L.length) (h : seenIn L i L[i].Item = true) : seenSum day L (i + 1) = seenSum day L i := by
  unfold seenSum
  congr 2
  funext l
  rw [seen_step hi]
  by_cases e : L[i].Item = l.Item
  · rw [← e, h]; simp
  · simp [e]
theorem seenSum_new (day : Int) {L : List Lot} {i : Nat} (hi : i < L.length) (h : seenIn L i L[i].Item = false) : seenSum day L (i + 1) = seenSum day L i + amts day (lotOf L[i].Item L) := by
  unfold seenSum
  rw [← amts_seen day (fun l => seenIn L i l.Item) L[i].Item (fun l e => by rw [e]; exact h)]
  congr 2
  funext l
  rw [seen_step hi]
  congr 1
  rw [decide_eq_decide]; exact eq_comm
theorem seenSum_all (day : Int) (L : List Lot) : seenSum day L L.length = amts day L := by
  unfold seenSum
  rw [List.filter_eq_self.2]
  intro l hl
  unfold seenIn
  rw [List.take_length, List.any_eq_true]
  exact ⟨l, hl, by simp⟩
end Go.Ab

/- What is proved: contracts of the fourth chapter's statements' functions: what is over. No conditions. -/
set_option linter.unusedVariables false
set_option linter.unusedSimpArgs false
namespace Go.Ab
variable {C : CSem} {N : Nat → Nat}
def kit_Pick.Spec (C : CSem) (N : Nat → Nat) : Prop := ∀ (a m : Int) (h : AHeap) (Q : AVal → AHeap → Prop), 0 < m → m ≤ 4611686018427387904 → (∀ n : Int, 0 ≤ n → n < m → Q (.int .i64 n) h) → C (N 155) [.int .i64 a, .int .i64 m] h Q
theorem kit_Pick.spec (i : kit_Pick.Imp C N) : kit_Pick.Spec C N := by
  intro a m h Q h1 h2 hq
  apply i
  have k1 := Int.tmod_lt_of_pos a h1
  have k2 := Int.lt_tmod_of_pos a h1
  have hm : m ≠ 0 := by omega
  simp -dsimp [hm, show ¬ m < 1 by omega]
  refine B.cond_bool (fun hb => ?_) (fun hb => ?_) <;> simp -dsimp at hb ⊢
  · rw [wrap_i64 (by omega) (by omega)]
    exact dn_same (hq _ (by omega) (by omega))
  · exact dn_same (hq _ hb k1)
theorem filter_again {X : Type} (p : X → Bool) (L : List X) : (L.filter p).filter p = L.filter p := by
  rw [List.filter_filter]; simp
theorem filter_none {X : Type} (p : X → Bool) (L : List X) : (L.filter fun l => !p l).filter p = [] := by
  rw [List.filter_filter, List.filter_eq_nil_iff]
  intro a _; simp
def law04_LotSwept.Spec (C : CSem) (N : Nat → Nat) : Prop := ∀ (x : AVal) (L : List Lot) (R : List (List AVal)) (now less : Int) (h : AHeap) (Q : AVal → AHeap → Prop), SlX h 6 x (L.map Lot.cs) R → L.length < 4611686018427387904 → (∀ l ∈ L, l.Item.length < 4611686018427387904) →
  Q (.bool true) h → C (N 156) [x, .int .i64 now, .int .i64 less] h Q
theorem law04_LotSwept.spec (i : law04_LotSwept.Imp C N) (s1 : law04_awake.Spec C N) (s2 : law04_great.Spec C N) (s3 : lot_Sweep.Spec C N) (s4 : kit_SameLots.Spec C N) (s5 : lot_On.Spec C N) (s6 : lot_Of.Spec C N) (s7 : kit_Pick.Spec C N) : law04_LotSwept.Spec C N := by
  intro x L R now less h Q hx hlen hit hq
  apply i
  simp -dsimp
  refine s1 _ _ ?_
  simp -dsimp
  refine s2 _ _ _ _ _ hx hlen hit fun bg hbg => ?_
  refine B.cond_bool (fun hb => dn_same hq) (fun hb => ?_)
  have hl := hbg hb
  refine s3 _ _ _ _ _ _ hx (by omega) fun xl xg h2 o2 => ?_
  have hx2 := hx.mono o2.le
  have yl := o2.slAt 0 rfl
  have yg := o2.slAt 1 rfl
  have lp := swept_len now L
  have onl : lotOn (L.filter fun l => !lotOver now l) now = lotOn L now := by rw [lotOn_eq, lotOn_eq, amts_left]
  have ong : lotOn (L.filter (lotOver now)) now = 0 := by rw [lotOn_eq, amts_gone, w64_0]
  have fa := filter_again (fun l => !lotOver now l) L
  have fn := filter_none (lotOver now) L
  have gm := fun day hd => gone_mono day now hd L
  simp -dsimp
  refine s3 _ _ _ _ _ _ yl (by omega) fun xa xm h3 o3 => ?_
  rw [fa, fn] at o3
  generalize (L.filter fun l => !lotOver now l) = A at *
  generalize hG : L.filter (lotOver now) = G at *
  have e1 := hx2.lenSl
  have e2 := yl.lenSl
  have e3 := yg.lenSl
  have e4 := (o3.slAt 1 rfl).lenSl
  rw [List.length_map] at e1 e2 e3
  have es : IntKind.i64.wrap ((A.length : Int) + G.length) = (L.length : Int) := by rw [wrap_i64 (by omega) (by omega)]; omega
  simp -dsimp [e1, e2, e3, e4, es]
  have yl3 := yl.mono o3.le
  have yg3 := yg.mono o3.le
  have hx3 := hx2.mono o3.le
  refine s4 _ _ _ _ _ _ _ _ (o3.slAt 0 rfl) yl3 (by omega) ?_
  simp -dsimp
  refine s5 _ _ _ _ _ _ yg3 (by omega) ?_
  rw [ong]
  simp -dsimp
  refine s5 _ _ _ _ _ _ yl3 (by omega) ?_
  rw [onl]
  simp -dsimp
  refine s5 _ _ _ _ _ _ hx3 (by omega) ?_
  simp -dsimp
  refine s7 _ _ _ _ (by omega) (by omega) fun n _ _ => ?_
  simp -dsimp
  refine s3 _ _ _ _ _ _ hx3 (by omega) fun xf xg2 h4 o4 => ?_
  have e5 := (o4.slAt 1 rfl).lenSl
  rw [List.length_map] at e5
  have hle := AHeap.le_trans o2.le (AHeap.le_trans o3.le o4.le)
  have hx4 := hx3.mono o4.le
  generalize IntKind.i64.wrap (now - n) = day at *
  have gd := gm day
  simp +contextual -dsimp [e3, e5]
  refine B.cond_bool (fun hb2 => ?_) (fun hb2 => ?_)
  · exfalso
    simp at hb2
    have := gd hb2.1
    omega
  · clear o2 o3 o4 yl yg yl3 yg3 hx2 hx3
    refine LoopR.intro (fun t vs hh => h4.le hh ∧ ∃ k : Nat, k + t = L.length ∧ vs = [.int .i64 (IntKind.i64.wrap (seenSum now L k)), .int .i64 (k : Int)]) L.length ?_ ⟨AHeap.le_refl _, 0, by simp, ?_⟩
    · rintro Y t vs hh ⟨hle2, k, ht, rfl⟩ hY
      have hxx := hx4.mono hle2
      simp -dsimp [e1]
      refine B.cond_bool (fun hb => ?_) (fun hb => ?_) <;> simp -dsimp at hb ⊢
      · have hg : (L.map Lot.cs)[k]? = some (L[k]).cs := by rw [List.getElem?_map, List.getElem?_eq_getElem hb]; rfl
        have hidx := hxx.idxN (k := .i64) (i := k) (by simpa using hb)
        have hfa := hxx.fieldA (i := k) (by simpa using hb) 0 1
        have hld := hxx.ldv (i := k) (f := 1) hg (by omega)
        simp at hld hfa
        refine LoopR.intro (fun t vs h5 => h5 = hh ∧ ∃ j : Nat, j + t = k ∧ vs = [.bool (seenIn L j L[k].Item), .int .i64 (j : Int)]) k ?_ ⟨rfl, 0, by simp, by simp [seenIn]⟩
        rintro Z t2 vs h5 ⟨rfl, j, hj, rfl⟩ hZ
        simp -dsimp
        refine B.cond_bool (fun hb3 => ?_) (fun hb3 => ?_) <;> simp -dsimp at hb3 ⊢
        · have hjl : j < L.length := by omega
          have hg2 : (L.map Lot.cs)[j]? = some (L[j]).cs := by rw [List.getElem?_map, List.getElem?_eq_getElem hjl]; rfl
          have hidx2 := hxx.idxN (k := .i64) (i := j) (by simpa using hjl)
          have hfa2 := hxx.fieldA (i := j) (by simpa using hjl) 0 1
          have hld2 := hxx.ldv (i := j) (f := 1) hg2 (by omega)
          simp at hld2 hfa2
          have st := seen_step hjl L[k].Item
          generalize seenIn L j L[k].Item = sb at *
          cases sb
          · simp -dsimp [hidx, hfa, hld, hidx2, hfa2, hld2, inc64 (n := j) (by omega)]
            refine hZ (k - (j + 1)) _ _ (by omega) ⟨rfl, j + 1, by omega, ?_⟩
            rw [st]; simp
          · simp -dsimp [inc64 (n := j) (by omega)]
            refine hZ (k - (j + 1)) _ _ (by omega) ⟨rfl, j + 1, by omega, ?_⟩
            rw [st]; simp
        · have : j = k := by omega
          subst this
          cases hs : seenIn L j L[j].Item
          · simp -dsimp [hidx, hfa, hld]
            refine s6 _ _ _ _ _ _ hxx (by omega) fun xo h6 o6 => ?_
            have hfl := List.length_filter_le (fun l : Lot => decide (l.Item = L[j].Item)) L
            refine s5 _ _ _ _ _ _ (o6.slAt 0 rfl) (by unfold lotOf; omega) ?_
            simp -dsimp [inc64 (n := j) (by omega)]
            refine hY (L.length - (j + 1)) _ _ (by omega) ⟨AHeap.le_trans hle2 o6.le, j + 1, by omega, ?_⟩
            rw [seenSum_new now hb hs, lotOn_eq, wrap64_add, Int.add_comm (seenSum now L j), wrap64_add, Int.add_comm]; simp
          · simp -dsimp [inc64 (n := j) (by omega)]
            refine hY (L.length - (j + 1)) _ _ (by omega) ⟨hle2, j + 1, by omega, ?_⟩
            rw [seenSum_old now hb hs]; simp
      · have : k = L.length := by omega
        subst this
        refine s5 _ _ _ _ _ _ hxx (by omega) ?_
        rw [seenSum_all, lotOn_eq]
        simp -dsimp
        exact dn_le (AHeap.le_trans hle hle2) hq
    · have : seenSum now L 0 = 0 := by
        unfold seenSum seenIn
        exact amts_zero now (by simp)
      rw [this, w64_0]; rfl
end Go.Ab
