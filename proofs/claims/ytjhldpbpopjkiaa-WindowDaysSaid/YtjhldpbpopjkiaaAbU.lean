/- What is proved: regions, code and calls do in the model what is told of them in the abstract memory. -/
import Derived.Test.YtjhldpbpopjkiaaAbT
namespace Go.Ab
open Go.RowKit (Below)

/-- How slots and memory stand to a frame and a world; what began at h0, H0. -/
structure St (w0 : World) (ρ0 : Locs) (h0 H0 : AHeap) (n : Nat) (s : Slots) (h : AHeap) (a : Act) (w : World) : Prop where
  ex : ∃ ρ H, ρ0.le ρ ∧ h.le H ∧ Fr h0 H0 h H ∧ R w0 ρ H w ∧ SRel ρ s a
  defers : a.defers = []
  size : n ≤ a.tmps.size

def dstIn (n : Nat) (o : Oper) : Bool :=
  match o.dst with
  | none => true
  | some d => Nat.blt d n

section
variable {P : Program} {w0 : World} {ρ0 : Locs} {h0 H0 : AHeap} {n : Nat} {s : Slots} {h : AHeap} {a : Act} {w : World} {ops : Array Oper} {Q : Exit → Act → World → Prop}

theorem step_sound {i : Nat} {o : Oper} (hi : ops[i]? = some o) (hd : dstIn n o = true) (hS : St w0 ρ0 h0 H0 n s h a w) {K : AVal → AHeap → Prop} (hx : (stepSh P ops.toList o s h).run (AC P) h K) :
    wpOp P ops Q i (fun a' w' => ∃ v h', K v h' ∧ St w0 ρ0 h0 H0 n (putS s o.dst v) h' a' w') a w := by
  obtain ⟨ρ, H, q1, q2, q3, q4, q5⟩ := hS.ex
  have hdst : ∀ k, o.dst = some k → k < a.tmps.size := fun k hk => by
    unfold dstIn at hd
    rw [hk] at hd
    have hd' : Nat.blt k n = true := hd
    rw [Nat.blt_eq] at hd'
    exact Nat.lt_of_lt_of_le hd' hS.size
  have hput : ∀ v, (a.put o.dst v).defers = [] ∧ n ≤ (a.put o.dst v).tmps.size := fun v => by
    have := hS.defers
    have := hS.size
    cases o.dst with
    | none => exact ⟨by assumption, by assumption⟩
    | some d => exact ⟨by assumption, by simpa [Act.put] using this⟩
  have go : (shOf P o.op (evS s) h).run (AC P) h K → o.wp P a w (fun a' w' => ∃ v h', K v h' ∧ St w0 ρ0 h0 H0 n (putS s o.dst v) h' a' w') Q := fun hx => by
    refine Oper.wp_mono ?_ (op_sound (Q := Q) q4 q2 q5 (opWp_sh.2 hx))
    rintro a' w' ⟨v, hA, rfl⟩
    obtain ⟨x, ρ', h', H', k1, k2, k3, k4, k5, k6⟩ := hA.ex
    exact ⟨x, h', k3, ⟨⟨ρ', H', Locs.le_trans q1 k1, k4, q3.trans k5, k6, (q5.mono k1).put k2 hdst⟩, (hput v).1, (hput v).2⟩⟩
  unfold wpOp
  simp only [hi]
  unfold stepSh at hx
  cases hg : o.guard with
  | none =>
    simp only [hg] at hx
    have : Region.wanted o (yielded ops a.tmps) = true := by simp [Region.wanted, hg]
    rw [if_pos this]
    exact .inl (go hx)
  | some jb =>
    obtain ⟨j, b⟩ := jb
    simp only [hg] at hx
    cases ht : gslot ops.toList j with
    | none => simp only [ht] at hx; exact hx.elim
    | some t =>
      simp only [ht] at hx
      cases hst : s t <;> simp only [hst] at hx <;> (try exact hx.elim)
      case tup l =>
        cases l with
        | cons _ _ => exact hx.elim
        | nil =>
          have hr := q5 t
          rw [hst] at hr
          obtain ⟨l, hr', hl⟩ := hr
          have hl : l = [] := hl
          subst hl
          have hy : yielded ops a.tmps j = none := by
            unfold yielded
            have hds : (ops[j]?).bind (·.dst) = some t := by unfold gslot at ht; simpa using ht
            rw [hds]
            simp only [Option.bind_some]
            cases hv : a.tmps[t]? with
            | none => rfl
            | some v => simp [hv] at hr'; subst hr'; rfl
          have : ¬ Region.wanted o (yielded ops a.tmps) = true := by simp [Region.wanted, hg, hy]
          rw [if_neg this]
          exact ⟨.tup [], h, hx, ⟨⟨ρ, H, q1, q2, q3, q4, q5.put (x := .tup []) (v := Go.undef) ⟨[], rfl, rfl⟩ hdst⟩, (hput _).1, (hput _).2⟩⟩
      rename_i b'
      have hr := q5 t
      rw [hst] at hr
      have hy : yielded ops a.tmps j = some b' := by
        unfold yielded
        have hds : (ops[j]?).bind (·.dst) = some t := by unfold gslot at ht; simpa using ht
        rw [hds]
        simp only [Option.bind_some]
        have hr' : a.tmps.getD t Go.undef = .bool b' := hr
        cases hv : a.tmps[t]? with
        | none => simp [hv, Go.undef] at hr'
        | some v => simp [hv] at hr'; subst hr'; rfl
      by_cases e : b' = b
      · rw [if_pos e] at hx
        have : Region.wanted o (yielded ops a.tmps) = true := by simp [Region.wanted, hg, hy, e]
        rw [if_pos this]
        exact .inl (go hx)
      · rw [if_neg e] at hx
        have : ¬ Region.wanted o (yielded ops a.tmps) = true := by simp [Region.wanted, hg, hy, e]
        rw [if_neg this]
        exact ⟨.tup [], h, hx, ⟨⟨ρ, H, q1, q2, q3, q4, q5.put (x := .tup []) (v := Go.undef) ⟨[], rfl, rfl⟩ hdst⟩, (hput _).1, (hput _).2⟩⟩

theorem ops_sound (hd : ∀ o ∈ ops.toList, dstIn n o = true) {Qn : Slots → AHeap → Prop} (hQ : ∀ s h a w, St w0 ρ0 h0 H0 n s h a w → Qn s h → Q .normal a w) :
    ∀ (l : List Oper) (i : Nat) (s : Slots) (h : AHeap) (a : Act) (w : World), ops.toList.drop i = l → opsWp P (AC P) ops.toList l Qn s h → St w0 ρ0 h0 H0 n s h a w → wpOps P ops Q (List.range' i l.length) a w
  | [], i, s, h, a, w, _, hx, hS => hQ s h a w hS hx
  | o :: r, i, s, h, a, w, hl, hx, hS => by
    have hi : ops[i]? = some o := by
      have : (ops.toList.drop i)[0]? = some o := by rw [hl]; rfl
      simpa using this
    rw [List.length_cons, List.range'_succ, wpOps_cons]
    have hx' : (stepSh P ops.toList o s h).run (AC P) h fun v h => opsWp P (AC P) ops.toList r Qn (putS s o.dst v) h := stepWp_sh.1 hx
    refine wpOp_mono ?_ (step_sound (Q := Q) hi (hd o (by have := Array.mem_of_getElem? hi; simpa using this)) hS hx')
    rintro a' w' ⟨v, h', hk, hS'⟩
    refine ops_sound hd hQ r (i + 1) _ h' a' w' ?_ hk hS'
    rw [← List.tail_drop, hl]; rfl

/-- Something comes of an operation. -/
theorem Oper.wp_some {o : Oper} {K : Act → World → Prop} (hh : o.wp P a w K fun _ _ _ => False) : ∃ a' w', K a' w' := by
  unfold Oper.wp at hh
  generalize (execOp a.eval o).run P w = r at hh
  cases r with
  | ok x w' =>
    cases x <;> simp only [Oper.upon] at hh <;> (try exact ⟨_, _, hh⟩) <;> (try exact hh.elim)
    · obtain ⟨e, w'', _, hR, _⟩ := hh []
      cases e with
      | returned v => exact ⟨_, _, hR⟩
      | panicked _ => exact hR.elim
      | outgrown => obtain ⟨_, _, hR⟩ := hR; exact hR.elim
    · obtain ⟨v, w'', hR, _⟩ := hh default []
      exact ⟨_, _, hR⟩
  | halt x w' => cases x <;> simp only [Oper.upon] at hh

theorem wpOp_some {i : Nat} {o : Oper} (hi : ops[i]? = some o) {K : Act → World → Prop} (hh : wpOp P ops (fun _ _ _ => False) i K a w) : ∃ a' w', K a' w' := by
  unfold wpOp at hh
  simp only [hi] at hh
  split at hh
  · rcases hh with hh | ⟨_, _, _, hh⟩
    · exact Oper.wp_some hh
    · exact hh.elim
  · exact ⟨_, _, hh⟩

/-- What may be drawn does not fail. -/
theorem notFail (hd : ∀ o ∈ ops.toList, dstIn n o = true) (t : DItem) (ht : Good P t) (ys : List DItem) (Qn : Slots → AHeap → Prop) (hte : t.1.k ≠ .effect) (htl : t.1.k ≠ .load) :
    ∀ (xs : List DItem) (s : Slots) (h : AHeap) (a : Act) (w : World), (∀ x ∈ xs, ops[x.1.i]? = some x.1.o) → (∀ x ∈ xs, x.1.o.apart ops t.1.o = true) → opsWpD P (AC P) ops.toList (xs ++ t :: ys) Qn s h → St w0 ρ0 h0 H0 n s h a w →
      stepSh P ops.toList t.1.o s h ≠ .fail
  | [], s, h, a, w, _, _, hx, _ => fun e => by
    rw [List.nil_append, opsWpD_cons, e] at hx
    exact hx
  | x :: xs, s, h, a, w, hi, hap, hx, hS => by
    rw [List.cons_append, opsWpD_cons] at hx
    have hix := hi x (by simp)
    obtain ⟨a', w', v, h', hk, hS'⟩ := wpOp_some hix (step_sound (Q := fun _ _ _ => False) hix (hd _ (by have := Array.mem_of_getElem? hix; simpa using this)) hS hx)
    have r := notFail hd t ht ys Qn hte htl xs _ h' a' w' (fun y hy => hi y (by simp [hy])) (fun y hy => hap y (by simp [hy])) hk.2 hS'
    obtain ⟨ap1, _, _⟩ := putS_apart (hap x (by simp))
    rw [stepSh_put fun d hd => ap1 d hd] at r
    have hk := ht.kind
    cases e : t.1.k with
    | effect => exact absurd e hte
    | load => exact absurd e htl
    | pure => rw [e] at hk; rw [(stepSh_pure (h := h) (s := s) (ops := ops.toList) hk.symm).1 h h']; exact r
    | alloc => rw [e] at hk; rw [(stepSh_alloc (h := h) (s := s) (ops := ops.toList) hk.symm).1 h h']; exact r

structure Inv (P : Program) (ops : Array Oper) (ms : List Nat) (rem : List DItem) (listed : Array Bool) : Prop where
  sz : listed.size = ops.size
  open_ : ∀ i, i < ops.size → (listed.getD i true = false ↔ ∃ t ∈ rem, t.1.i = i)
  at_ : ∀ t ∈ rem, ops[t.1.i]? = some t.1.o ∧ ms[t.1.i]? = some t.1.m
  good : ∀ t ∈ rem, Good P t
  pair : rem.Pairwise (Pair ops)
  nodup : (rem.map (·.1.i)).Pairwise (· ≠ ·)
  down : ∀ i, listed.getD i false = true → ∀ x, (ms.getD i 0).testBit x = true → listed.getD x false = true

/-- The bits of an operation are those that it directly comes behind, and theirs. -/
def MaskOk (ops : Array Oper) (ms : List Nat) : Prop :=
  ∀ (i : Nat) (o : Oper), ops[i]? = some o → (∀ e ∈ o.after, Region.binds .any e = true → (ms.getD i 0).testBit e.on = true ∧ e.on < ops.size) ∧
    ∀ x, (ms.getD i 0).testBit x = true → ∃ e ∈ o.after, Region.binds .any e = true ∧ (x = e.on ∨ (ms.getD e.on 0).testBit x = true)

theorem pairwise_ahead {α : Type} {r : α → α → Prop} {xs ys : List α} {t : α} (hp : (xs ++ t :: ys).Pairwise r) : ∀ x ∈ xs, r x t := fun x hx =>
  (List.pairwise_append.1 hp).2.2 x hx t (by simp)

theorem draw_sound {ms : List Nat} (hms : MaskOk ops ms) (hd : ∀ o ∈ ops.toList, dstIn n o = true) {Qn : Slots → AHeap → Prop} (hQ : ∀ s h a w, St w0 ρ0 h0 H0 n s h a w → Qn s h → Q .normal a w) :
    ∀ (m : Nat) (rem : List DItem) (listed : Array Bool) (s : Slots) (h : AHeap) (a : Act) (w : World), rem.length = m → Inv P ops ms rem listed → opsWpD P (AC P) ops.toList rem Qn s h → St w0 ρ0 h0 H0 n s h a w → wpAny P .any ops Q m listed a w
  | 0, rem, listed, s, h, a, w, hl, inv, hx, hS => by
    have : rem = [] := List.eq_nil_of_length_eq_zero hl
    subst this
    refine ⟨?_, hQ s h a w hS hx⟩
    apply List.eq_nil_iff_forall_not_mem.2
    intro j hj
    obtain ⟨h1, o, ho, _⟩ := mem_ready.1 hj
    have hlt := (Array.getElem?_eq_some_iff.1 ho).1
    obtain ⟨t, ht, _⟩ := (inv.open_ j hlt).1 h1
    cases ht
  | m + 1, rem, listed, s, h, a, w, hl, inv, hx, hS => by
    have getD_of : ∀ j, j < ops.size → listed.getD j true = listed.getD j false := fun j hj => by
      have : j < listed.size := by rw [inv.sz]; exact hj
      simp [this]
    refine ⟨fun hr => ?_, fun i hi => ?_⟩
    · -- the first that is left is ready
      exfalso
      cases rem with
      | nil => simp at hl
      | cons t r =>
        obtain ⟨ho, hm⟩ := inv.at_ t (by simp)
        have hlt := (Array.getElem?_eq_some_iff.1 ho).1
        have hmem : t.1.i ∈ Region.ready .any ops listed := by
          refine mem_ready.2 ⟨(inv.open_ _ hlt).2 ⟨t, by simp, rfl⟩, t.1.o, ho, fun e he hb => ?_⟩
          obtain ⟨hbit, hlt2⟩ := (hms _ _ ho).1 e he hb
          have hmD : ms.getD t.1.i 0 = t.1.m := by simp [List.getD, hm]
          rw [hmD] at hbit
          cases hle : listed.getD e.on false with
          | true => rfl
          | false =>
            exfalso
            obtain ⟨y, hy, hyi⟩ := (inv.open_ _ hlt2).1 (by rw [getD_of _ hlt2]; exact hle)
            rcases List.mem_cons.1 hy with rfl | hy
            · rw [← hyi] at hbit
              rw [(inv.good y (by simp)).self] at hbit; cases hbit
            · have := ((List.pairwise_cons.1 inv.pair).1 y hy).notBehind
              rw [hyi, hbit] at this; cases this
        rw [hr] at hmem
        cases hmem
    · obtain ⟨h1, o, ho, hall⟩ := mem_ready.1 hi
      have hlt := (Array.getElem?_eq_some_iff.1 ho).1
      obtain ⟨t, ht, rfl⟩ := (inv.open_ i hlt).1 h1
      obtain ⟨xs, ys, rfl⟩ := List.append_of_mem ht
      obtain ⟨ho', hm⟩ := inv.at_ t ht
      rw [ho] at ho'
      cases ho'
      have hmD : ms.getD t.1.i 0 = t.1.m := by simp [List.getD, hm]
      -- what it comes behind is over
      have hover : ∀ x, t.1.m.testBit x = true → listed.getD x false = true := fun x hx => by
        rw [← hmD] at hx
        obtain ⟨e, he, hb, hor⟩ := (hms _ _ ho).2 x hx
        have hl := hall e he hb
        rcases hor with rfl | hor
        · exact hl
        · exact inv.down _ hl x hor
      have hunord : ∀ x ∈ xs, t.1.m.testBit x.1.i = false := fun x hx => by
        cases hb : t.1.m.testBit x.1.i with
        | false => rfl
        | true =>
          have h2 := hover _ hb
          obtain ⟨hox, _⟩ := inv.at_ x (by simp [hx])
          have hltx := (Array.getElem?_eq_some_iff.1 hox).1
          have := (inv.open_ _ hltx).2 ⟨x, by simp [hx], rfl⟩
          rw [getD_of _ hltx, h2] at this; cases this
      have hpt : ∀ x ∈ xs, Pair ops x t := pairwise_ahead inv.pair
      have hap : ∀ x ∈ xs, x.1.o.apart ops t.1.o = true := fun x hx => ((hpt x hx).free.resolve_left (by rw [hunord x hx]; simp)).2
      have hpxs : xs.Pairwise (Pair ops) := (List.pairwise_append.1 inv.pair).1
      have hb := bubble t (inv.good t ht) ys Qn xs s h [] (by simp) (fun _ => rfl) (by simp) (fun x hx => inv.good x (by simp [hx])) hpt hunord hpxs
        (fun c1 c2 => notFail hd t (inv.good t ht) ys Qn c1 c2 xs s h a w (fun x hx => (inv.at_ x (by simp [hx])).1) hap hx hS) hx
      have hdt : dstIn n t.1.o = true := hd _ (by have := Array.mem_of_getElem? ho; simpa using this)
      refine wpOp_mono ?_ (step_sound (Q := Q) ho hdt hS hb)
      rintro a' w' ⟨v, h', ⟨_, hk⟩, hS'⟩
      refine draw_sound hms hd hQ m (xs ++ ys) _ _ h' a' w' (by simp only [List.length_append, List.length_cons] at hl ⊢; omega) ?_ hk hS'
      have hsub : (xs ++ ys).Sublist (xs ++ t :: ys) := List.Sublist.append_left (List.sublist_cons_self t ys) xs
      have hnd : ∀ y ∈ xs ++ ys, y.1.i ≠ t.1.i := fun y hy => by
        have hn := inv.nodup
        rw [List.map_append, List.map_cons] at hn
        rcases List.mem_append.1 hy with hy | hy
        · exact (List.pairwise_append.1 hn).2.2 _ (List.mem_map.2 ⟨y, hy, rfl⟩) _ (by simp)
        · have := ((List.pairwise_cons.1 (List.pairwise_append.1 hn).2.1).1 _ (List.mem_map.2 ⟨y, hy, rfl⟩))
          exact fun e => this e.symm
      exact {
        sz := by simpa using inv.sz
        open_ := fun i hi => by
          by_cases e : t.1.i = i
          · subst e
            have : (listed.setIfInBounds t.1.i true).getD t.1.i true = true := by simp
            rw [this]
            constructor
            · intro h; cases h
            · rintro ⟨y, hy, e⟩; exact absurd e (hnd y hy)
          · rw [getD_set_ne true e, inv.open_ i hi]
            constructor
            · rintro ⟨y, hy, e'⟩
              refine ⟨y, ?_, e'⟩
              rcases List.mem_append.1 hy with hy | hy
              · exact List.mem_append_left _ hy
              · rcases List.mem_cons.1 hy with rfl | hy
                · exact absurd e' e
                · exact List.mem_append_right _ hy
            · rintro ⟨y, hy, e'⟩; exact ⟨y, hsub.subset hy, e'⟩
        at_ := fun y hy => inv.at_ y (hsub.subset hy)
        good := fun y hy => inv.good y (hsub.subset hy)
        pair := inv.pair.sublist hsub
        nodup := inv.nodup.sublist (hsub.map _)
        down := fun i hi x hx => by
          by_cases e : t.1.i = i
          · subst e
            rw [hmD] at hx
            exact getD_set_true (hover x hx)
          · rw [getD_set_ne false e] at hi
            exact getD_set_true (inv.down i hi x hx) }
end
end Go.Ab
