/- What is proved: stores and appends at the abstract memory keep its tie to the world. No conditions. -/
import Derived.Test.YtjhldpbpopjkiaaAbA
namespace Go.Ab
open Go.RowKit (Below)

/-- A world in which one block's cells are turned, and nothing else. -/
structure Turned (w w' : World) (k : Nat) (arr : Array Value) (e : TypeId) (fr : Nat × Nat) : Prop where
  os : w'.os = w.os
  tape : w'.tape = w.tape
  output : w'.output = w.output
  size : w'.heap.size = w.heap.size
  at_ : w'.heap[k]? = some (.cells arr e fr)
  other : ∀ i, i ≠ k → w'.heap[i]? = w.heap[i]?

theorem Turned.below {w0 w w' : World} {k : Nat} {arr : Array Value} {e : TypeId} {fr : Nat × Nat} (h : Turned w w' k arr e fr) (hb : Below w0.heap.size w0 w) (hk : w0.heap.size ≤ k) : Below w0.heap.size w0 w' :=
  hb.trans ⟨h.os, h.tape, h.output, Nat.le_of_eq h.size.symm, fun i hi => h.other i (by omega)⟩

/-- A store into a block of the call's own: the other generations are forgotten. -/
theorem R.write {w0 : World} {ρ : Locs} {H : AHeap} {w w' : World} (h : R w0 ρ H w) {id : Nat} {b : Blk} (hid : H id = some b) (hown : b.own = true)
    {g hi : Nat} (hg : (g, hi) ∈ b.gens) {L : Loc} (hL : ρ id g = some L) {arr' : Array Value} {e : TypeId} {fr' : Nat × Nat} (hfr : frOk fr' L.size) (ht : Turned w w' L.blk arr' e fr') (hsz : arr'.size = L.size)
    (cs' : List AVal) (hcs : hi ≤ cs'.length)
    (hc : ∀ j, L.lo ≤ j → j < hi → ∀ a, cs'[j]? = some a → ∃ u, arr'[L.base + (j - L.lo)]? = some u ∧ VRel ρ a u ∧ u.oneCell' = true) :
    R w0 ρ (upd H id { b with cells := cs', gens := [(g, hi)] }) w' := by
  obtain ⟨h0, L', arr, e', fr, h1, h2, h3, h4, h5, h6⟩ := (h.blk id b hid).gen g hi hg
  rw [hL] at h1
  cases h1
  have hno : b.obj = none := by
    cases ho : b.obj with
    | none => rfl
    | some o => have := ((h.blk id b hid).obj o ho).1; rw [this] at hg; cases hg
  constructor
  · exact ht.below h.below (h5 hown).1
  · obtain ⟨N, k⟩ := h.fin
    refine ⟨max N (id + 1), fun i hi => ⟨?_, fun g => (k i (by omega)).2 g⟩⟩
    rw [upd_other _ _ (by omega)]; exact (k i (by omega)).1
  · intro i bi hb
    by_cases hi' : i = id
    · subst hi'
      rw [upd_same] at hb
      cases hb
      refine ⟨fun g hg => (h.blk i b hid).nxt g hg, fun g' hi' hm => ?_, fun g1 k1 g2 k2 hm hm' L1 L2 e1 e2 _ => ?_, fun o ho => by simp [hno] at ho⟩
      · simp only [List.mem_singleton, Prod.mk.injEq] at hm
        obtain ⟨rfl, rfl⟩ := hm
        exact ⟨hcs, L, arr', e, fr', hL, ht.at_, hsz, h4, fun _ => ⟨(h5 hown).1, hfr⟩, hc⟩
      · simp only [List.mem_singleton, Prod.mk.injEq] at hm hm'
        obtain ⟨rfl, rfl⟩ := hm
        obtain ⟨rfl, rfl⟩ := hm'
        rw [e1] at e2
        cases e2; rfl
    · rw [upd_other _ _ hi'] at hb
      have ok := h.blk i bi hb
      refine ⟨ok.nxt, fun g' hi'' hm => ?_, ok.align, fun o ho => ?_⟩
      case refine_2 =>
        obtain ⟨q0, Lo, ob, q1, q2, q3, q4, q5, q6⟩ := ok.obj o ho
        refine ⟨q0, Lo, ob, q1, q2, q3, q4, ?_, q6⟩
        rw [ht.other _ (fun hx => by rw [hx, h2] at q5; exact q6.notCells _ _ _ (Option.some.inj q5).symm)]; exact q5
      obtain ⟨k0, L1, arr1, e1, fr1, k1, k2, k3⟩ := ok.gen g' hi'' hm
      have := h.sep id i b bi (Ne.symm hi') hid hb hown (g, hi) hg (g', hi'') hm L L1 hL k1
      exact ⟨k0, L1, arr1, e1, fr1, k1, by rw [ht.other _ (Ne.symm this)]; exact k2, k3⟩
  · intro i j bi bj hne hi' hj hoi gi hgi gj hgj Li Lj e1 e2
    by_cases c1 : i = id
    · subst c1
      rw [upd_same] at hi'
      cases hi'
      rw [upd_other _ _ (Ne.symm hne)] at hj
      simp only [List.mem_singleton] at hgi
      subst hgi
      exact h.sep i j b bj hne hid hj hown (g, hi) hg gj hgj Li Lj e1 e2
    · rw [upd_other _ _ c1] at hi'
      by_cases c2 : j = id
      · subst c2
        rw [upd_same] at hj
        cases hj
        simp only [List.mem_singleton] at hgj
        subst hgj
        exact h.sep i j bi b hne hi' hid hoi gi hgi (g, hi) hg Li Lj e1 e2
      · rw [upd_other _ _ c2] at hj
        exact h.sep i j bi bj hne hi' hj hoi gi hgi gj hgj Li Lj e1 e2
  · intro i j bi bj hne hi' hj oi oj Li Lj e1 e2
    have c1 : i ≠ id := fun hh => by subst hh; rw [upd_same] at hi'; cases hi'; simp [hno] at oi
    have c2 : j ≠ id := fun hh => by subst hh; rw [upd_same] at hj; cases hj; simp [hno] at oj
    rw [upd_other _ _ c1] at hi'
    rw [upd_other _ _ c2] at hj
    exact h.osep i j bi bj hne hi' hj oi oj Li Lj e1 e2

/-- The generations behind an append at place 'e'. -/
def cutGens (gens : List (Nat × Nat)) (e : Nat) : List (Nat × Nat) := gens.map fun p => (p.1, min p.2 e)

theorem mem_cutGens {gens : List (Nat × Nat)} {e g k : Nat} (h : (g, k) ∈ cutGens gens e) : ∃ k', (g, k') ∈ gens ∧ k = min k' e := by
  obtain ⟨⟨g', k'⟩, h1, h2⟩ := List.mem_map.1 h
  simp only [Prod.mk.injEq] at h2
  obtain ⟨rfl, rfl⟩ := h2
  exact ⟨k', h1, rfl⟩

def appBlk (b : Blk) (e : Nat) (news : List AVal) : Blk :=
  { cells := b.cells.take e ++ news, gens := (b.next, e + news.length) :: cutGens b.gens e, next := b.next + 1, own := b.own, obj := none }

/-- What both kinds of append share: the new generation lies at L' in the new world; in all old places the cells ahead of 'e' are as they were. -/
theorem R.app {w0 : World} {ρ : Locs} {H : AHeap} {w w' : World} (h : R w0 ρ H w) {id : Nat} {b : Blk} (hid : H id = some b) (hown : b.own = true)
    {g hi : Nat} (hg : (g, hi) ∈ b.gens) {L : Loc} (hL : ρ id g = some L) {e : Nat} (he : e ≤ hi) (hlo : L.lo ≤ e) (news : List AVal) (L' : Loc)
    (hbel : Below w0.heap.size w0 w')
    (hnew : (L'.blk = L.blk ∧ L'.base = L.base ∧ L'.lo = L.lo ∧ L'.size = L.size) ∨ (w.heap.size ≤ L'.blk ∧ L.lo ≤ L'.lo ∧ L'.lo ≤ e))
    (hb' : w0.heap.size ≤ L'.blk)
    (hothers : ∀ k, k ≠ L.blk → k < w.heap.size → w'.heap[k]? = w.heap[k]?)
    (hold : ∀ arr ty fr, w.heap[L.blk]? = some (.cells arr ty fr) → ∃ arr', w'.heap[L.blk]? = some (.cells arr' ty fr) ∧ arr'.size = arr.size ∧ ∀ x, x < L.base + (e - L.lo) → arr'[x]? = arr[x]?)
    {arr' : Array Value} {ty : TypeId} {fr' : Nat × Nat} (hfr : frOk fr' L'.size) (hat : w'.heap[L'.blk]? = some (.cells arr' ty fr')) (hsz : arr'.size = L'.size) (hroom : L'.base + (e + news.length - L'.lo) ≤ L'.size)
    (hc : ∀ j, L'.lo ≤ j → j < e + news.length → ∀ a, (b.cells.take e ++ news)[j]? = some a → ∃ u, arr'[L'.base + (j - L'.lo)]? = some u ∧ VRel ρ a u ∧ u.oneCell' = true) :
    R w0 (ρ.put id b.next L') (upd H id (appBlk b e news)) w' := by
  have okb := h.blk id b hid
  obtain ⟨h0, L0, arr, e', fr, h1, h2, h3, h4, h5, h6⟩ := okb.gen g hi hg
  rw [hL] at h1
  cases h1
  have hnx : ρ id b.next = none := okb.nxt _ (Nat.le_refl _)
  have hle : ρ.le (ρ.put id b.next L') := Locs.le_put _ hnx
  have hgn : ∀ g1 k1, (g1, k1) ∈ b.gens → g1 ≠ b.next := fun g1 k1 hm hx => by
    obtain ⟨_, L1, _, _, _, k, _⟩ := okb.gen g1 k1 hm
    rw [hx, hnx] at k; cases k
  have hltb : ∀ k o, w.heap[k]? = some o → k < w.heap.size := fun k o hk => (Array.getElem?_eq_some_iff.1 hk).1
  have htl : (b.cells.take e).length = e := by rw [List.length_take]; omega
  constructor
  · exact hbel
  · obtain ⟨N, k⟩ := h.fin
    refine ⟨max N (id + 1), fun i hi => ⟨?_, fun g => ?_⟩⟩
    · rw [upd_other _ _ (by omega)]; exact (k i (by omega)).1
    · rw [Locs.put_other _ _ (by omega)]; exact (k i (by omega)).2 g
  · intro i bi hb
    by_cases hi' : i = id
    · subst hi'
      rw [upd_same] at hb
      cases hb
      refine ⟨fun g hg => ?_, fun g1 k1 hm => ?_, fun g1 k1 g2 k2 hm hm' L1 L2 e1 e2 heq => ?_, fun o ho => by simp [appBlk] at ho⟩
      · simp only [appBlk] at hg
        rw [Locs.put_other _ _ (by omega)]; exact okb.nxt g (by omega)
      · simp only [appBlk, List.mem_cons, Prod.mk.injEq] at hm
        rcases hm with ⟨rfl, rfl⟩ | hm
        · refine ⟨by simp only [appBlk, List.length_append, htl]; omega, L', arr', ty, fr', Locs.put_same .., hat, hsz, hroom, fun _ => ⟨hb', hfr⟩, fun j hj1 hj2 a ha => ?_⟩
          obtain ⟨u, k1, k2, k3⟩ := hc j hj1 hj2 a ha
          exact ⟨u, k1, k2.mono hle, k3⟩
        · obtain ⟨k', hm2, rfl⟩ := mem_cutGens hm
          obtain ⟨c0, L1, arr1, e1, fr1, c1, c2, c3, c4, c5, c6⟩ := okb.gen g1 k' hm2
          have hput : (ρ.put i b.next L') i g1 = some L1 := hle _ _ _ c1
          have hal := okb.align g hi g1 k' hg hm2 L L1 hL c1
          have hcell : ∀ j, j < e → (b.cells.take e ++ news)[j]? = b.cells[j]? := fun j hj => by
            rw [List.getElem?_append_left (by omega), List.getElem?_take_of_lt hj]
          have key : ∃ arr2, w'.heap[L1.blk]? = some (.cells arr2 e1 fr1) ∧ arr2.size = arr1.size ∧ ∀ j, L1.lo ≤ j → j < min k' e → arr2[L1.base + (j - L1.lo)]? = arr1[L1.base + (j - L1.lo)]? := by
            by_cases hbk : L1.blk = L.blk
            · rw [hbk] at c2
              obtain ⟨arr2, d1, d2, d3⟩ := hold arr1 e1 fr1 c2
              refine ⟨arr2, by rw [hbk]; exact d1, d2, fun j hj1 hj2 => d3 _ ?_⟩
              have := hal hbk.symm
              omega
            · exact ⟨arr1, by rw [hothers _ hbk (hltb _ _ c2)]; exact c2, rfl, fun _ _ _ => rfl⟩
          obtain ⟨arr2, d1, d2, d3⟩ := key
          refine ⟨by simp only [appBlk, List.length_append, htl]; omega, L1, arr2, e1, fr1, hput, d1, d2.trans c3, by omega, c5, fun j hj1 hj2 a ha => ?_⟩
          simp only [appBlk] at ha
          rw [hcell j (by omega)] at ha
          obtain ⟨u, k1, k2, k3⟩ := c6 j hj1 (by omega) a ha
          exact ⟨u, by rw [d3 j hj1 hj2]; exact k1, k2.mono hle, k3⟩
      · simp only [appBlk, List.mem_cons, Prod.mk.injEq] at hm hm'
        have get : ∀ g1 k1, (g1, k1) ∈ cutGens b.gens e → ∀ L1, (ρ.put i b.next L') i g1 = some L1 → ∃ k2, (g1, k2) ∈ b.gens ∧ ρ i g1 = some L1 := fun g1 k1 hm L1 e1 => by
          obtain ⟨k2, hm, _⟩ := mem_cutGens hm
          refine ⟨k2, hm, ?_⟩
          rw [Locs.put_other _ _ (by rintro ⟨_, hx⟩; exact hgn _ _ hm hx)] at e1
          exact e1
        have one : ∀ g1 k1, (g1, k1) ∈ cutGens b.gens e → ∀ L1, (ρ.put i b.next L') i g1 = some L1 → L'.blk = L1.blk → L'.base + L1.lo = L1.base + L'.lo := fun g1 k1 hm L1 e1 heq => by
          obtain ⟨k2, hm, e1⟩ := get g1 k1 hm L1 e1
          obtain ⟨_, L3, _, _, _, c1, c2, _⟩ := okb.gen g1 k2 hm
          rw [e1] at c1
          cases c1
          rcases hnew with ⟨n1, n2, n3, _⟩ | ⟨n1, _⟩
          · have := okb.align g hi g1 k2 hg hm L L1 hL e1 (n1 ▸ heq)
            omega
          · have := hltb _ _ c2
            omega
        rcases hm with ⟨rfl, rfl⟩ | hm
        · rw [Locs.put_same] at e1
          cases e1
          rcases hm' with ⟨rfl, rfl⟩ | hm'
          · rw [Locs.put_same] at e2
            cases e2; rfl
          · exact one _ _ hm' _ e2 heq
        · rcases hm' with ⟨rfl, rfl⟩ | hm'
          · rw [Locs.put_same] at e2
            cases e2
            exact (one _ _ hm _ e1 heq.symm).symm
          · obtain ⟨k3, m1, f1⟩ := get _ _ hm _ e1
            obtain ⟨k4, m2, f2⟩ := get _ _ hm' _ e2
            exact okb.align _ _ _ _ m1 m2 _ _ f1 f2 heq
    · rw [upd_other _ _ hi'] at hb
      have ok := h.blk i bi hb
      refine ⟨fun g hg => by rw [Locs.put_other _ _ (by omega)]; exact ok.nxt g hg, fun g' hi'' hm => ?_, fun g1 k1 g2 k2 hm hm' L1 L2 e1 e2 => ?_, fun o ho => ?_⟩
      case refine_3 =>
        obtain ⟨q0, Lo, ob, q1, q2, q3, q4, q5, q6⟩ := ok.obj o ho
        refine ⟨q0, Lo, ob, hle _ _ _ q1, q2, q3, q4, ?_, q6.mono hle⟩
        rw [hothers _ (fun hx => by rw [hx, h2] at q5; exact q6.notCells _ _ _ (Option.some.inj q5).symm) (hltb _ _ q5)]; exact q5
      · obtain ⟨k0, L1, arr1, e1, fr1, k1, k2, k3, k4, k5, k6⟩ := ok.gen g' hi'' hm
        have := h.sep id i b bi (Ne.symm hi') hid hb hown (g, hi) hg (g', hi'') hm L L1 hL k1
        refine ⟨k0, L1, arr1, e1, fr1, hle _ _ _ k1, by rw [hothers _ (Ne.symm this) (hltb _ _ k2)]; exact k2, k3, k4, k5, fun j hj1 hj2 a ha => ?_⟩
        obtain ⟨u, c1, c2, c3⟩ := k6 j hj1 hj2 a ha
        exact ⟨u, c1, c2.mono hle, c3⟩
      · rw [Locs.put_other _ _ (by omega)] at e1 e2
        exact ok.align _ _ _ _ hm hm' _ _ e1 e2
  · -- apart
    have new_ne : ∀ j bj, j ≠ id → H j = some bj → ∀ gj ∈ bj.gens, ∀ Lj, ρ j gj.1 = some Lj → L'.blk ≠ Lj.blk := fun j bj hne hj gj hgj Lj hLj => by
      rcases hnew with ⟨n1, _⟩ | ⟨n1, _⟩
      · rw [n1]
        exact h.sep id j b bj (Ne.symm hne) hid hj hown (g, hi) hg gj hgj L Lj hL hLj
      · obtain ⟨_, L3, _, _, _, c1, c2, _⟩ := (h.blk j bj hj).gen gj.1 gj.2 hgj
        rw [hLj] at c1
        cases c1
        have := hltb _ _ c2
        omega
    have locs : ∀ (gi : Nat × Nat), gi ∈ (appBlk b e news).gens → ∀ Li, (ρ.put id b.next L') id gi.1 = some Li → Li = L' ∨ ∃ k, (gi.1, k) ∈ b.gens ∧ ρ id gi.1 = some Li := fun gi hgi Li e1 => by
      simp only [appBlk, List.mem_cons] at hgi
      rcases hgi with rfl | hgi
      · rw [Locs.put_same] at e1
        cases e1; exact .inl rfl
      · obtain ⟨k2, hm, _⟩ := mem_cutGens (g := gi.1) (k := gi.2) hgi
        rw [Locs.put_other _ _ (by rintro ⟨_, hx⟩; exact hgn _ _ hm hx)] at e1
        exact .inr ⟨k2, hm, e1⟩
    intro i j bi bj hne hi' hj hoi gi hgi gj hgj Li Lj e1 e2
    by_cases c1 : i = id
    · subst c1
      rw [upd_same] at hi'
      cases hi'
      rw [upd_other _ _ (Ne.symm hne)] at hj
      rw [Locs.put_other _ _ (by omega)] at e2
      rcases locs gi hgi Li e1 with rfl | ⟨k, m, f⟩
      · exact new_ne j bj (Ne.symm hne) hj gj hgj Lj e2
      · exact h.sep i j b bj hne hid hj hown (gi.1, k) m gj hgj Li Lj f e2
    · rw [upd_other _ _ c1] at hi'
      rw [Locs.put_other _ _ (by omega)] at e1
      by_cases c2 : j = id
      · subst c2
        rw [upd_same] at hj
        cases hj
        rcases locs gj hgj Lj e2 with rfl | ⟨k, m, f⟩
        · exact (new_ne i bi hne hi' gi hgi Li e1).symm
        · exact h.sep i j bi b hne hi' hid hoi gi hgi (gj.1, k) m Li Lj e1 f
      · rw [upd_other _ _ c2] at hj
        rw [Locs.put_other _ _ (by omega)] at e2
        exact h.sep i j bi bj hne hi' hj hoi gi hgi gj hgj Li Lj e1 e2

  · intro i j bi bj hne hi' hj oi oj Li Lj e1 e2
    have c1 : i ≠ id := fun hh => by subst hh; rw [upd_same] at hi'; cases hi'; simp [appBlk] at oi
    have c2 : j ≠ id := fun hh => by subst hh; rw [upd_same] at hj; cases hj; simp [appBlk] at oj
    rw [upd_other _ _ c1] at hi'
    rw [upd_other _ _ c2] at hj
    rw [Locs.put_other _ _ (by omega)] at e1 e2
    exact h.osep i j bi bj hne hi' hj oi oj Li Lj e1 e2

end Go.Ab
