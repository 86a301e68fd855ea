/- What is proved: a plan of a drawn region is one; code does in the model what is told of it; so do calls. -/
import Derived.Test.YtjhldpbpopjkiaaAbU
namespace Go.Ab
open Go.RowKit (Below)

/-! The bits. -/
def maskOne (o : Oper) (acc : List Nat) : Nat := o.after.toList.foldl (fun m e => bif Region.binds .any e then m ||| 2 ^ e.on ||| acc.getD e.on 0 else m) 0

theorem foldl_bits (acc : List Nat) : ∀ (l : List Edge) (m x : Nat), (l.foldl (fun m e => bif Region.binds .any e then m ||| 2 ^ e.on ||| acc.getD e.on 0 else m) m).testBit x = true ↔
    m.testBit x = true ∨ ∃ e ∈ l, Region.binds .any e = true ∧ (x = e.on ∨ (acc.getD e.on 0).testBit x = true)
  | [], m, x => by simp
  | e :: l, m, x => by
    rw [List.foldl_cons, foldl_bits acc l]
    cases hb : Region.binds .any e with
    | false =>
      simp only [cond_false, List.mem_cons]
      constructor
      · rintro (h | ⟨e', he, h⟩)
        · exact .inl h
        · exact .inr ⟨e', .inr he, h⟩
      · rintro (h | ⟨e', rfl | he, h1, h2⟩)
        · exact .inl h
        · rw [hb] at h1; cases h1
        · exact .inr ⟨e', he, h1, h2⟩
    | true =>
      simp only [cond_true, Nat.testBit_or, Nat.testBit_two_pow, Bool.or_eq_true, decide_eq_true_eq, List.mem_cons]
      constructor
      · rintro (((h | h) | h) | ⟨e', he, h⟩)
        · exact .inl h
        · exact .inr ⟨e, .inl rfl, hb, .inl h.symm⟩
        · exact .inr ⟨e, .inl rfl, hb, .inr h⟩
        · exact .inr ⟨e', .inr he, h⟩
      · rintro (h | ⟨e', rfl | he, h1, h2⟩)
        · exact .inl (.inl (.inl h))
        · rcases h2 with h2 | h2
          · exact .inl (.inl (.inr h2.symm))
          · exact .inl (.inr h2)
        · exact .inr ⟨e', he, h1, h2⟩

theorem masksOf_spec : ∀ (l : List Oper) (acc : List Nat), (masksOf l acc).length = acc.length + l.length ∧ (∀ i, i < acc.length → (masksOf l acc).getD i 0 = acc.getD i 0) ∧
    ∀ (i : Nat) (o : Oper), l[i]? = some o → (masksOf l acc).getD (acc.length + i) 0 = maskOne o ((masksOf l acc).take (acc.length + i))
  | [], acc => ⟨by simp [masksOf], fun _ _ => rfl, fun i o h => by simp at h⟩
  | o :: l, acc => by
    have e : masksOf (o :: l) acc = masksOf l (acc ++ [maskOne o acc]) := rfl
    obtain ⟨h1, h2, h3⟩ := masksOf_spec l (acc ++ [maskOne o acc])
    rw [e]
    refine ⟨by rw [h1]; simp; omega, fun i hi => ?_, fun i o' ho => ?_⟩
    · rw [h2 i (by simp; omega)]
      simp [List.getD, List.getElem?_append_left hi]
    · cases i with
      | zero =>
        simp at ho
        subst ho
        rw [Nat.add_zero, h2 acc.length (by simp)]
        have ht : (masksOf l (acc ++ [maskOne o acc])).take acc.length = acc := by
          apply List.ext_getElem?
          intro j
          by_cases hj : j < acc.length
          · rw [List.getElem?_take_of_lt hj]
            have := h2 j (by simp; omega)
            simp only [List.getD, List.getElem?_append_left hj] at this
            have hl : j < (masksOf l (acc ++ [maskOne o acc])).length := by rw [h1]; simp; omega
            rw [List.getElem?_eq_getElem hl, List.getElem?_eq_getElem hj] at this ⊢
            simpa using this
          · rw [List.getElem?_eq_none (by rw [List.length_take]; omega), List.getElem?_eq_none (by omega)]
        rw [ht]
        simp [List.getD]
      | succ i =>
        have := h3 i o' (by simpa using ho)
        simp only [List.length_append, List.length_singleton] at this
        rw [show acc.length + (i + 1) = acc.length + 1 + i by omega]
        exact this

theorem maskOk {ops : Array Oper} (hb : ops.toList.all (fun o => o.after.toList.all fun e => Nat.blt e.on ops.size) = true) : MaskOk ops (masksOf ops.toList []) := by
  obtain ⟨h1, _, h3⟩ := masksOf_spec ops.toList []
  intro i o ho
  have hsp := h3 i o (by simpa using ho)
  simp only [List.length_nil, Nat.zero_add] at hsp h1
  have hi : i < ops.size := (Array.getElem?_eq_some_iff.1 ho).1
  rw [hsp]
  constructor
  · intro e he hbd
    refine ⟨(foldl_bits _ _ _ _).2 (.inr ⟨e, by simpa using he, hbd, .inl rfl⟩), ?_⟩
    rw [List.all_eq_true] at hb
    have := hb o (by have := Array.mem_of_getElem? ho; simpa using this)
    rw [List.all_eq_true] at this
    have := this e (by simpa using he)
    rwa [Nat.blt_eq] at this
  · intro x hx
    rcases (foldl_bits _ _ _ _).1 hx with h | ⟨e, he, hbd, hor⟩
    · simp at h
    · refine ⟨e, by simpa using he, hbd, hor.imp id fun h => ?_⟩
      by_cases hlt : e.on < i
      · simp only [List.getD, List.getElem?_take_of_lt hlt] at h
        exact h
      · rw [List.getD, List.getElem?_eq_none (by rw [List.length_take]; omega)] at h
        simp at h

/-! The plan. -/
theorem item_spec {P : Program} {ops : Array Oper} {t : Item} (ht : t ∈ items P ops.toList) : ops[t.i]? = some t.o ∧ (masksOf ops.toList [])[t.i]? = some t.m ∧ t.k = kdOf P t.o.op := by
  unfold items at ht
  obtain ⟨⟨⟨m, o⟩, i⟩, hm, rfl⟩ := List.mem_map.1 ht
  have hz := List.mk_mem_zipIdx_iff_getElem?.1 hm
  rw [List.getElem?_zip_eq_some] at hz
  exact ⟨by simpa using hz.2, hz.1, rfl⟩

theorem plan_mem {its : List Item} {t : Item} (ht : t ∈ planOf its) : t ∈ its := by
  unfold planOf at ht
  obtain ⟨i, _, hi⟩ := List.mem_filterMap.1 ht
  exact List.mem_of_getElem? hi

theorem placeStays_spec {x y : Item} (h : placeStays x y = true) (t : TypeId) (a : Operand) (hx : x.o.op = .load t a) (d : Nat) (hd : y.o.dst = some d) : a ≠ .tmp d := by
  rintro rfl
  unfold placeStays at h
  simp only [hx, hd] at h
  simp at h

theorem fitsAll_spec {ops : Array Oper} : ∀ {l : List Item}, fitsAll ops l = true →
    l.Pairwise (fun x y => x.m.testBit y.i = false ∧ placeStays x y = true ∧ (y.m.testBit x.i = true ∨ (x.k.fits y.k = true ∧ x.o.apart ops y.o = true))) ∧ ∀ x ∈ l, placeStays x x = true ∧ x.m.testBit x.i = false
  | [], _ => ⟨.nil, by simp⟩
  | x :: r, h => by
    simp only [fitsAll, Bool.and_eq_true, Bool.not_eq_true', List.all_eq_true, Bool.or_eq_true] at h
    obtain ⟨⟨⟨h1, h2⟩, h3⟩, h4⟩ := h
    obtain ⟨k1, k2⟩ := fitsAll_spec h4
    refine ⟨List.pairwise_cons.2 ⟨fun y hy => ⟨(h1 y hy).1.1, (h1 y hy).1.2, (h1 y hy).2⟩, k1⟩, fun y hy => ?_⟩
    rcases List.mem_cons.1 hy with rfl | hy
    · exact ⟨h2, h3⟩
    · exact k2 y hy

theorem keepsOf_mem {x y : Item} {t : TypeId} {a : Operand} (ho : x.o.op = .load t a) (hb : y.m.testBit x.i = false) : ∀ {l : List Item}, x ∈ l → (a, t) ∈ keepsOf l y
  | [], hx => by cases hx
  | z :: l, hx => by
    simp only [keepsOf]
    rcases List.mem_cons.1 hx with e | hx
    · refine List.mem_append_left _ ?_
      rw [← e, ho]
      simp only [hb, cond_false, List.mem_singleton]
    · exact List.mem_append_right _ (keepsOf_mem ho hb hx)

theorem keepsOf_from : ∀ {l : List Item} {y : Item} {q : Operand × TypeId}, q ∈ keepsOf l y → ∃ x ∈ l, x.o.op = .load q.2 q.1
  | [], _, _, h => by simp [keepsOf] at h
  | z :: l, y, q, h => by
    simp only [keepsOf] at h
    rcases List.mem_append.1 h with h | h
    · split at h
      · rename_i t a ho
        cases hb : y.m.testBit z.i <;> simp [hb] at h
        subst h
        exact ⟨z, by simp, ho⟩
      · cases h
    · obtain ⟨x, hx, ho⟩ := keepsOf_from h
      exact ⟨x, by simp [hx], ho⟩

theorem withKeeps_map : ∀ (seen l : List Item), (withKeeps seen l).map (·.1) = l
  | _, [] => rfl
  | seen, y :: r => by simp [withKeeps, withKeeps_map]

theorem withKeeps_spec : ∀ (seen l : List Item) (y : DItem), y ∈ withKeeps seen l → y.1 ∈ l ∧ ∃ l1, (∃ l2, l = l1 ++ y.1 :: l2) ∧ y.2 = bif y.1.k.isEffect then keepsOf (seen ++ l1) y.1 else []
  | _, [], y, h => by simp [withKeeps] at h
  | seen, z :: r, y, h => by
    simp only [withKeeps] at h
    rcases List.mem_cons.1 h with rfl | h
    · exact ⟨by simp, [], ⟨r, rfl⟩, by simp⟩
    · obtain ⟨k1, l1, ⟨l2, k2⟩, k3⟩ := withKeeps_spec _ _ _ h
      exact ⟨by simp [k1], z :: l1, ⟨l2, by rw [k2]; rfl⟩, by rw [k3]; simp⟩

theorem isEffect_iff {k : Kd} : k.isEffect = true ↔ k = .effect := by cases k <;> simp [Kd.isEffect]

theorem withKeeps_pair {ops : Array Oper} : ∀ (l seen : List Item), fitsAll ops (seen ++ l) = true → (withKeeps seen l).Pairwise (Pair ops)
  | [], _, _ => .nil
  | x :: r, seen, h => by
    have hs := fitsAll_spec h
    simp only [withKeeps]
    refine List.pairwise_cons.2 ⟨fun y hy => ?_, withKeeps_pair r (seen ++ [x]) (by simpa using h)⟩
    obtain ⟨hyr, l1, ⟨l2, _⟩, hk⟩ := withKeeps_spec _ _ _ hy
    have hpw := hs.1
    have hxy : x.m.testBit y.1.i = false ∧ placeStays x y.1 = true ∧ (y.1.m.testBit x.i = true ∨ (x.k.fits y.1.k = true ∧ x.o.apart ops y.1.o = true)) :=
      (List.pairwise_cons.1 (List.pairwise_append.1 hpw).2.1).1 y.1 hyr
    refine ⟨hxy.1, fun t a ho d hd => placeStays_spec hxy.2.1 t a ho d hd, hxy.2.2, fun t a ho he hb => ?_, fun q hq d hd => ?_⟩
    · rw [hk, he]
      exact keepsOf_mem ho hb (by simp)
    · cases he : x.k.isEffect with
      | false => simp [he] at hq
      | true =>
        simp only [he, cond_true] at hq
        obtain ⟨z, hz, ho⟩ := keepsOf_from hq
        have := (List.pairwise_append.1 hpw).2.2 z hz y.1 (by simp [hyr])
        exact placeStays_spec this.2.1 q.2 q.1 ho d hd

theorem distinct_spec : ∀ {l : List Nat}, distinct l = true → l.Pairwise (· ≠ ·)
  | [], _ => .nil
  | x :: r, h => by
    simp only [distinct, Bool.and_eq_true, List.all_eq_true, Bool.not_eq_true'] at h
    refine List.pairwise_cons.2 ⟨fun y hy e => ?_, distinct_spec h.2⟩
    have := h.1 y hy
    rw [e] at this
    simp at this

theorem plan_inv {P : Program} {ops : Array Oper} {l : List DItem} (h : plan P ops = some l) : MaskOk ops (masksOf ops.toList []) ∧ l.length = ops.size ∧ Inv P ops (masksOf ops.toList []) l (Array.replicate ops.size false) := by
  unfold plan at h
  simp only at h
  generalize hp : planOf (items P ops.toList) = p at h
  cases hc : (fitsAll ops p && Nat.beq p.length ops.size && distinct (p.map (·.i)) && (List.range ops.size).all (fun i => p.any fun t => Nat.beq t.i i) && ops.toList.all (fun o => o.after.toList.all fun e => Nat.blt e.on ops.size)) with
  | false => rw [hc] at h; cases h
  | true =>
    rw [hc] at h
    cases h
    simp only [Bool.and_eq_true] at hc
    obtain ⟨⟨⟨⟨h1, h2⟩, h3⟩, h4⟩, h5⟩ := hc
    have hlen : (withKeeps [] p).length = ops.size := by
      have := congrArg List.length (withKeeps_map [] p)
      rw [List.length_map] at this
      rw [this]; exact Nat.eq_of_beq_eq_true h2
    have hfs := fitsAll_spec h1
    have hmem : ∀ y ∈ withKeeps [] p, y.1 ∈ items P ops.toList := fun y hy => by
      obtain ⟨k, _⟩ := withKeeps_spec _ _ _ hy
      rw [← hp] at k
      exact plan_mem k
    refine ⟨maskOk h5, hlen, ?_⟩
    exact {
      sz := by simp
      open_ := fun i hi => by
        simp only [Array.getD_eq_getD_getElem?, Array.getElem?_replicate, hi, if_true, Option.getD_some, true_iff]
        rw [List.all_eq_true] at h4
        have := h4 i (by simpa using hi)
        rw [List.any_eq_true] at this
        obtain ⟨t, ht, e⟩ := this
        have : t ∈ (withKeeps [] p).map (·.1) := by rw [withKeeps_map]; exact ht
        obtain ⟨y, hy, rfl⟩ := List.mem_map.1 this
        exact ⟨y, hy, Nat.eq_of_beq_eq_true e⟩
      at_ := fun y hy => by obtain ⟨a, b, _⟩ := item_spec (hmem y hy); exact ⟨a, b⟩
      good := fun y hy => by
        obtain ⟨k1, l1, _, k3⟩ := withKeeps_spec _ _ _ hy
        obtain ⟨p1, p2⟩ := hfs.2 y.1 k1
        refine ⟨fun t a ho d hd => placeStays_spec p1 t a ho d hd, p2, fun hne => ?_, (item_spec (hmem y hy)).2.2⟩
        rw [k3]
        cases he : y.1.k.isEffect with
        | false => rfl
        | true => exact absurd (isEffect_iff.1 he) hne
      pair := withKeeps_pair p [] (by simpa using h1)
      nodup := by
        have := distinct_spec h3
        rw [← withKeeps_map [] p, List.map_map] at this
        exact this
      down := fun i hi => by
        exfalso
        rw [Array.getD_eq_getD_getElem?, Array.getElem?_replicate] at hi
        split at hi <;> simp at hi }

/-! Code. -/
def codeIn (n : Nat) : Code → Bool
  | .region _ ops _ => ops.toList.all (dstIn n)
  | .seq a b => codeIn n a && codeIn n b
  | .cond _ a b => codeIn n a && codeIn n b
  | .block _ a => codeIn n a
  | .loop a => codeIn n a
  | _ => true

def exOf : Exit → Ex → Prop
  | .normal, .normal => True
  | .exit i, .exit j => i = j
  | .ret, .ret => True
  | _, _ => False

section
variable {P : Program} {w0 : World} {ρ0 : Locs} {h0 H0 : AHeap} {n : Nat}

def Post (w0 : World) (ρ0 : Locs) (h0 H0 : AHeap) (n : Nat) (Q : Ex → Slots → AHeap → Prop) : Exit → Act → World → Prop := fun e a w =>
  ∃ e' s h, exOf e e' ∧ St w0 ρ0 h0 H0 n s h a w ∧ Q e' s h

theorem St.drew {s : Slots} {h : AHeap} {a : Act} {w : World} (x : St w0 ρ0 h0 H0 n s h a w) (k : Nat) : St w0 ρ0 h0 H0 n s h a { w with drawn := k } := by
  obtain ⟨ρ, H, q1, q2, q3, q4, q5⟩ := x.ex
  exact ⟨⟨ρ, H, q1, q2, q3, q4.drew k, q5⟩, x.defers, x.size⟩

theorem code_sound (hm : P.follows .mixedOrders = true) : ∀ (c : Code) (Q : Ex → Slots → AHeap → Prop) (s : Slots) (h : AHeap) (a : Act) (w : World), codeIn n c = true → awp P (AC P) c Q s h → St w0 ρ0 h0 H0 n s h a w →
    c.wp P (Post w0 ρ0 h0 H0 n Q) a w
  | .skip, Q, s, h, a, w, _, hx, hS => wp_skip ⟨.normal, s, h, trivial, hS, hx⟩
  | .region id ops draw, Q, s, h, a, w, hc, hx, hS => by
    have hd : ∀ o ∈ ops.toList, dstIn n o = true := List.all_eq_true.1 hc
    have hQ : ∀ s h a w, St w0 ρ0 h0 H0 n s h a w → Q .normal s h → Post w0 ρ0 h0 H0 n Q .normal a w := fun s h a w k1 k2 => ⟨.normal, s, h, trivial, k1, k2⟩
    cases draw with
    | false =>
      refine wp_region ?_
      rw [List.range_eq_range', show ops.size = ops.toList.length by simp]
      exact ops_sound hd hQ ops.toList 0 s h a w rfl hx hS
    | true =>
      simp only [awp] at hx
      split at hx
      · rename_i l hl
        obtain ⟨h1, h2, h3⟩ := plan_inv hl
        refine wp_region_any hm ?_
        rw [← h2]
        exact draw_sound h1 hd hQ l.length l _ s h a _ rfl (by rw [h2]; exact h3) hx (hS.drew _)
      · exact hx.elim
  | .seq x y, Q, s, h, a, w, hc, hx, hS => by
    simp only [codeIn, Bool.and_eq_true] at hc
    refine wp_seq (wp_mono (code_sound hm x _ s h a w hc.1 hx hS) ?_)
    rintro e a' w' ⟨e', s', h', he, hS', hq⟩
    cases e <;> cases e' <;> (try exact he.elim)
    · exact code_sound hm y Q s' h' a' w' hc.2 hq hS'
    · exact ⟨_, s', h', he, hS', hq⟩
    · exact ⟨_, s', h', he, hS', hq⟩
  | .cond c x y, Q, s, h, a, w, hc, hx, hS => by
    simp only [codeIn, Bool.and_eq_true] at hc
    simp only [awp] at hx
    obtain ⟨ρ, H, q1, q2, q3, q4, q5⟩ := hS.ex
    have hr := evS_rel q5 c
    unfold A.cond at hx
    split at hx
    · rename_i b hb
      rw [hb] at hr
      exact wp_cond_split (t := b) hr (fun e => code_sound hm x Q s h a w hc.1 (hx.1 e) hS) (fun e => code_sound hm y Q s h a w hc.2 (hx.2 e) hS)
    · exact hx.elim
  | .block id c, Q, s, h, a, w, hc, hx, hS => by
    refine wp_block (wp_mono (code_sound hm c _ s h a w hc hx hS) ?_)
    rintro e a' w' ⟨e', s', h', he, hS', hq⟩
    cases e <;> cases e' <;> (try exact he.elim)
    · exact ⟨.normal, s', h', trivial, hS', hq⟩
    · rename_i i j
      have he' : i = j := he
      subst he'
      simp only [Exit.inBlock, Ex.inBlock] at hq ⊢
      by_cases hi : i = id
      · rw [if_pos hi]
        rw [show Nat.beq i id = true by simp [hi]] at hq
        exact ⟨.normal, s', h', trivial, hS', hq⟩
      · rw [if_neg hi]
        rw [show Nat.beq i id = false by rw [← Bool.not_eq_true, Nat.beq_eq]; exact hi] at hq
        exact ⟨.exit i, s', h', rfl, hS', hq⟩
    · exact ⟨.ret, s', h', trivial, hS', hq⟩
  | .loop c, Q, s, h, a, w, hc, hx, hS => by
    intro b k cs
    have key := hx (fun s h => ∀ a w, St w0 ρ0 h0 H0 n s h a w → ∃ e a' w', Post w0 ρ0 h0 H0 n Q e a' w' ∧ Arrives P (lone (b.at a (.code c :: .inLoop c :: k)) cs w) b k cs e a' w') ?_ a w hS
    · obtain ⟨e, a', w', hq, harr⟩ := key
      exact ⟨e, a', w', hq, .of_steps (.one step_loop) harr⟩
    · intro s h hbody a w hS
      obtain ⟨e, a₁, w₁, ⟨e', s', h', he, hS', hq⟩, harr⟩ := code_sound hm c _ s h a w hc hbody hS b (.inLoop c :: k) cs
      cases e <;> cases e' <;> (try exact he.elim)
      · obtain ⟨e₂, a₂, w₂, hq₂, harr₂⟩ := hq a₁ w₁ hS'
        exact ⟨e₂, a₂, w₂, hq₂, .of_steps (Steps.trans harr (.one step_inLoop)) harr₂⟩
      · exact ⟨_, a₁, w₁, ⟨_, s', h', he, hS', hq⟩, .pass (x := .inLoop c) rfl (fun _ _ => .inl (by simp)) harr⟩
      · exact ⟨_, a₁, w₁, ⟨_, s', h', he, hS', hq⟩, .pass (x := .inLoop c) rfl (fun _ _ => .inl (by simp)) harr⟩
  | .exit id, Q, s, h, a, w, _, hx, hS => wp_exit ⟨.exit id, s, h, rfl, hS, hx⟩
  | .ret, Q, s, h, a, w, _, hx, hS => wp_ret ⟨.ret, s, h, trivial, hS, hx⟩
  | .rangeFunc _ _ _ _, _, _, _, _, _, _, hx, _ => hx.elim
  | .scope _, _, _, _, _, _, _, hx, _ => hx.elim
  | .label _, _, _, _, _, _, _, hx, _ => hx.elim
  | .goto _, _, _, _, _, _, _, hx, _ => hx.elim
  | .refuse _, _, _, _, _, _, _, hx, _ => hx.elim

/-! Calls. -/
def resOne (a : Act) : ResultVar → Sem Value
  | .tmp t => pure (a.tmps.getD t Go.undef)
  | .cell x t => do loadVar t (← asAddr (a.tmps.getD x Go.undef))

theorem resS_run {w0 : World} {ρ : Locs} {h H : AHeap} {s : Slots} {a : Act} {w : World} (hR : R w0 ρ H w) (hle : h.le H) (hs : SRel ρ s a) : ∀ (rs : List ResultVar) (l : List AVal), resS P h s rs = some l →
    ∃ vs : List Value, (rs.mapM (resOne a)).run P w = .ok vs w ∧ VRels ρ l vs
  | [], l, h => by cases h; exact ⟨[], rfl, rfl⟩
  | .cell x t :: r, l, hh => by
    simp only [resS, joinV] at hh
    split at hh
    · rename_i v l' hv hl
      cases hh
      obtain ⟨vs, k1, k2⟩ := resS_run hR hle hs r l' hl
      obtain ⟨ad, u, e1, e2, e3⟩ := resCell_run (P := P) hR hle (hs x) hv
      refine ⟨u :: vs, ?_, ⟨_, _, rfl, e3, k2⟩⟩
      rw [List.mapM_cons]
      simp only [resOne, e1, asAddr, Sem.run_bind, Sem.run_pure, Result.andThen_ok, e2, k1]
    · cases hh
  | .tmp t :: r, l, hh => by
    simp only [resS, joinV] at hh
    split at hh
    · rename_i v l' hv hl
      cases hv
      cases hh
      obtain ⟨vs, k1, k2⟩ := resS_run hR hle hs r l' hl
      refine ⟨a.tmps.getD t Go.undef :: vs, ?_, ⟨_, _, rfl, hs t, k2⟩⟩
      rw [List.mapM_cons]
      simp only [resOne, Sem.run_bind, Sem.run_pure, Result.andThen_ok, k1]
    · cases hh

theorem results_run {w0 : World} {ρ : Locs} {m H : AHeap} {s : Slots} {a : Act} {w : World} (hR : R w0 ρ H w) (hle : m.le H) (hs : SRel ρ s a) {fn : Func} {v : AVal} (h : resV P m s fn.results.toList = some v) : ∃ u, (results fn a.tmps).run P w = .ok u w ∧ VRel ρ v u := by
  unfold resV oneOf at h
  cases hl : resS P m s fn.results.toList with
  | none => rw [hl] at h; cases h
  | some l =>
    obtain ⟨vs, k1, k2⟩ := resS_run (P := P) hR hle hs _ l hl
    have hr : (results fn a.tmps).run P w = .ok (if h : vs.toArray.size = 1 then vs.toArray[0] else .tuple vs.toArray) w := by
      have h0 : results fn a.tmps = (do
          let vs ← fn.results.mapM (resOne a)
          pure (if h : vs.size = 1 then vs[0] else .tuple vs)) := by
        unfold results
        congr 1
      rw [h0, Array.mapM_eq_mapM_toList]
      simp only [Sem.run_bind, Sem.run_map, k1, Result.andThen_ok, Sem.run_pure]
    rw [hl] at h
    rw [hr]
    cases l with
    | nil =>
      cases h
      have : vs = [] := k2
      subst this
      exact ⟨_, rfl, [], rfl, rfl⟩
    | cons x r =>
      obtain ⟨u, us, rfl, k3, k4⟩ := k2
      cases r with
      | nil =>
        cases h
        have : us = [] := k4
        subst this
        exact ⟨u, rfl, k3⟩
      | cons y r =>
        cases h
        obtain ⟨u2, us2, rfl, k5, k6⟩ := k4
        refine ⟨.tuple (u :: u2 :: us2).toArray, ?_, _, rfl, ⟨_, _, rfl, k3, _, _, rfl, k5, k6⟩⟩
        simp

theorem AC_intro (hm : P.follows .mixedOrders = true) {f : FuncId} {fn : Func} {c : Code} (hf : P.funcs[f]? = some fn) (hb : fn.body = some c) (hcall : ∀ (va : Array Value) (w : World), (callFunc f va).run P w = .ok (.enter f va) w)
    (hc : codeIn fn.ntmps c = true) {args : List AVal} (hl : args.length ≤ fn.ntmps) {h : AHeap} {Q : AVal → AHeap → Prop} (hx : awp P (AC P) c (retQ P fn.results.toList Q) (startS args) h) : AC P f args h Q := by
  refine ⟨hcall, fun w0 ρ H w va hle hR hv => ?_⟩
  refine calls_of_wp hf hb ?_
  have hlen := hv.length
  have hS : St w0 ρ h H fn.ntmps (startS args) h { tmps := va.toArray ++ Array.replicate (fn.ntmps - va.toArray.size) undef, defers := [] } w := by
    refine ⟨⟨ρ, H, Locs.le_refl ρ, hle, Fr.refl h H, hR, fun k => ?_⟩, rfl, by simp; omega⟩
    unfold startS
    cases ha : args[k]? with
    | none => simp only [List.getD, ha]; exact trivial
    | some x =>
      obtain ⟨u, k1, k2⟩ := hv.get ha
      have hk : k < va.length := (List.getElem?_eq_some_iff.1 k1).1
      have : (va.toArray ++ Array.replicate (fn.ntmps - va.toArray.size) Go.undef).getD k Go.undef = u := by
        simp [Array.getElem?_append, hk]
        have := (List.getElem?_eq_some_iff.1 k1).2
        exact this
      rw [show (List.getD args k AVal.undef) = x by simp [List.getD, ha]]
      show VRel ρ x ((va.toArray ++ Array.replicate (fn.ntmps - va.toArray.size) Go.undef).getD k Go.undef)
      rw [this]; exact k2
  refine wp_mono (code_sound hm c _ _ h _ w hc hx hS) ?_
  rintro e a' w' ⟨e', s', h', he, hS', hq⟩
  obtain ⟨ρ', H', q1, q2, q3, q4, q5⟩ := hS'.ex
  have fin : ∀ e'', (e'' = .normal ∨ e'' = .ret) → A.pv (resV P h' s' fn.results.toList) (fun v => Q v h') → bodyPost P fn (fun e w' => ∃ v, e = .returned v ∧ After w0 ρ h H Q v w') e'' a' w' := by
    intro e'' hor hq
    obtain ⟨v, hv, hQ⟩ := pv_some hq
    obtain ⟨u, k1, k2⟩ := results_run (P := P) q4 q2 q5 hv
    have : a'.defers = [] ∧ ∃ v, (results fn a'.tmps).run P w' = .ok v w' ∧ ∃ v_1, Ending.returned v = .returned v_1 ∧ After w0 ρ h H Q v_1 w' :=
      ⟨hS'.defers, u, k1, u, rfl, ⟨⟨v, ρ', h', H', q1, k2, hQ, q2, q3, q4⟩⟩⟩
    rcases hor with rfl | rfl <;> exact this
  cases e <;> cases e' <;> (try exact he.elim)
  · exact fin _ (.inl rfl) hq
  · exact hq.elim
  · exact fin _ (.inr rfl) hq
end
end Go.Ab
