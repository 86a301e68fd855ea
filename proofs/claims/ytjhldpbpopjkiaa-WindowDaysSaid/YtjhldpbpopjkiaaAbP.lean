/- What is proved: objects that are no cells; every operation that is told does in the model what is told of it. -/
import Derived.Test.YtjhldpbpopjkiaaAbO
namespace Go.Ab
open Go.RowKit (Below)

theorem R.newObj {w0 : World} {ρ : Locs} {H : AHeap} {w : World} (h : R w0 ρ H w) {id : Nat} (hid : H id = none) (hρ : ∀ g, ρ id g = none) {o : AObj} {ob : Obj} (hob : ObjRel ρ o ob) :
    R w0 (ρ.put id 0 ⟨w.heap.size, 0, 0, 0⟩) (upd H id (objOf o)) { w with heap := w.heap.push ob } := by
  have hle : ρ.le (ρ.put id 0 ⟨w.heap.size, 0, 0, 0⟩) := Locs.le_put _ (hρ 0)
  have hold : ∀ k o, w.heap[k]? = some o → (w.heap.push ob)[k]? = some o := fun k o hk => by
    rw [Array.getElem?_push]
    have : k < w.heap.size := (Array.getElem?_eq_some_iff.1 hk).1
    rw [if_neg (by omega)]; exact hk
  have hsz := h.below.size
  constructor
  · exact h.below.trans ⟨rfl, rfl, rfl, by simp, fun k hk => by
      show (w.heap.push _)[k]? = _
      rw [Array.getElem?_push, if_neg (by omega)]⟩
  · obtain ⟨N, k⟩ := h.fin
    refine ⟨max N (id + 1), fun i hi => ⟨?_, fun g => ?_⟩⟩
    · rw [upd_other _ _ (by omega)]; exact (k i (by omega)).1
    · rw [Locs.put_other _ _ (by omega)]; exact (k i (by omega)).2 g
  · intro i b hb
    by_cases hi : i = id
    · subst hi
      rw [upd_same] at hb
      cases hb
      refine ⟨fun g hg => ?_, fun g hi hm => by simp [objOf] at hm, fun g hi g' hi' hm => by simp [objOf] at hm, fun o' ho => ?_⟩
      · rw [Locs.put_other]
        · exact hρ g
        · simp only [objOf] at hg; omega
      · simp only [objOf, Option.some.injEq] at ho
        subst ho
        exact ⟨rfl, _, ob, Locs.put_same .., rfl, rfl, hsz, by show (w.heap.push _)[w.heap.size]? = _; simp, hob.mono hle⟩
    · rw [upd_other _ _ hi] at hb
      have ok := h.blk i b hb
      refine ⟨fun g hg => ?_, fun g hi' hm => ?_, fun g hi' g' hi'' hm hm' L L' e1 e2 => ?_, fun o ho => ?_⟩
      · rw [Locs.put_other _ _ (by omega)]; exact ok.nxt g hg
      · obtain ⟨h0, L, arr', e', fr, h1, h2, h3, h4, h5, h6⟩ := ok.gen g hi' hm
        refine ⟨h0, L, arr', e', fr, hle _ _ _ h1, hold _ _ h2, h3, h4, h5, fun j hj1 hj2 a ha => ?_⟩
        obtain ⟨u, k1, k2, k3⟩ := h6 j hj1 hj2 a ha
        exact ⟨u, k1, k2.mono hle, k3⟩
      · rw [Locs.put_other _ _ (by omega)] at e1 e2
        exact ok.align g hi' g' hi'' hm hm' L L' e1 e2
      · obtain ⟨h0, L, ob, h1, h2, h3, h4, h5, h6⟩ := ok.obj o ho
        exact ⟨h0, L, ob, hle _ _ _ h1, h2, h3, h4, hold _ _ h5, h6.mono hle⟩
  · intro i j bi bj hne hi hj hown gi hgi gj hgj Li Lj e1 e2
    have c1 : i ≠ id := fun hh => by subst hh; rw [upd_same] at hi; cases hi; simp [objOf] at hgi
    have c2 : j ≠ id := fun hh => by subst hh; rw [upd_same] at hj; cases hj; simp [objOf] at hgj
    rw [upd_other _ _ c1] at hi
    rw [upd_other _ _ c2] at hj
    rw [Locs.put_other _ _ (by omega)] at e1 e2
    exact h.sep i j bi bj hne hi hj hown gi hgi gj hgj Li Lj e1 e2
  · have lt : ∀ j bj, H j = some bj → bj.obj.isSome = true → ∀ Lj, ρ j 0 = some Lj → Lj.blk < w.heap.size := fun j bj hj ho Lj hL => by
      obtain ⟨o', ho'⟩ := Option.isSome_iff_exists.1 ho
      obtain ⟨_, L, ob', h1, _, _, _, h2, _⟩ := (h.blk j bj hj).obj o' ho'
      rw [hL] at h1
      cases h1
      exact (Array.getElem?_eq_some_iff.1 h2).1
    intro i j bi bj hne hi hj oi oj Li Lj e1 e2
    by_cases c1 : i = id
    · subst c1
      rw [upd_other _ _ (Ne.symm hne)] at hj
      rw [Locs.put_same] at e1
      cases e1
      rw [Locs.put_other _ _ (by omega)] at e2
      have := lt j bj hj oj Lj e2
      simp only
      omega
    · rw [upd_other _ _ c1] at hi
      rw [Locs.put_other _ _ (by omega)] at e1
      by_cases c2 : j = id
      · subst c2
        rw [Locs.put_same] at e2
        cases e2
        have := lt i bi hi oi Li e1
        simp only
        omega
      · rw [upd_other _ _ c2] at hj
        rw [Locs.put_other _ _ (by omega)] at e2
        exact h.osep i j bi bj hne hi hj oi oj Li Lj e1 e2

theorem R.setObj {w0 : World} {ρ : Locs} {H : AHeap} {w : World} (h : R w0 ρ H w) {id : Nat} {b : Blk} (hid : H id = some b) {o o' : AObj} (ho : b.obj = some o) {L : Loc} (hL : ρ id 0 = some L) {ob' : Obj} (hob : ObjRel ρ o' ob') :
    R w0 ρ (upd H id { b with obj := some o' }) { w with heap := w.heap.setIfInBounds L.blk ob' } := by
  obtain ⟨hg0, L0, ob, q1, q2, q3, q4, q5, q6⟩ := (h.blk id b hid).obj o ho
  rw [hL] at q1
  cases q1
  have hlt : L.blk < w.heap.size := (Array.getElem?_eq_some_iff.1 q5).1
  have hat : (w.heap.setIfInBounds L.blk ob')[L.blk]? = some ob' := by rw [Array.getElem?_setIfInBounds_self_of_lt hlt]
  have hoth : ∀ k, k ≠ L.blk → (w.heap.setIfInBounds L.blk ob')[k]? = w.heap[k]? := fun k hk => by rw [Array.getElem?_setIfInBounds_ne (Ne.symm hk)]
  have hge : ∀ p, p ∈ ({ b with obj := some o' } : Blk).gens → False := fun p hm => by
    have hm' : p ∈ b.gens := hm
    rw [hg0] at hm'
    cases hm'
  constructor
  · exact h.below.trans ⟨rfl, rfl, rfl, by simp, fun k hk => hoth k (by omega)⟩
  · obtain ⟨N, k⟩ := h.fin
    refine ⟨max N (id + 1), fun i hi => ⟨?_, fun g => (k i (by omega)).2 g⟩⟩
    rw [upd_other _ _ (by omega)]; exact (k i (by omega)).1
  · intro i bi hb
    by_cases hi : i = id
    · subst hi
      rw [upd_same] at hb
      cases hb
      refine ⟨fun g hg => (h.blk i b hid).nxt g hg, fun g hi hm => (hge _ hm).elim, fun g hi g' hi' hm => (hge _ hm).elim, fun o'' ho' => ?_⟩
      simp only [Option.some.injEq] at ho'
      subst ho'
      exact ⟨hg0, L, ob', hL, q2, q3, q4, hat, hob⟩
    · rw [upd_other _ _ hi] at hb
      have ok := h.blk i bi hb
      refine ⟨ok.nxt, fun g hi' hm => ?_, ok.align, fun o1 ho1 => ?_⟩
      · obtain ⟨h0, L1, arr', e', fr, h1, h2, h3⟩ := ok.gen g hi' hm
        exact ⟨h0, L1, arr', e', fr, h1, by rw [hoth _ (fun hx => by rw [hx, q5] at h2; exact q6.notCells _ _ _ (Option.some.inj h2))]; exact h2, h3⟩
      · obtain ⟨h0, L1, ob1, h1, h2, h3, h4, h5, h6⟩ := ok.obj o1 ho1
        have := h.osep id i b bi (Ne.symm hi) hid hb (by rw [ho]; rfl) (by rw [ho1]; rfl) L L1 hL h1
        exact ⟨h0, L1, ob1, h1, h2, h3, h4, by rw [hoth _ (Ne.symm this)]; exact h5, h6⟩
  · intro i j bi bj hne hi hj hown gi hgi gj hgj Li Lj e1 e2
    have c1 : i ≠ id := fun hh => by subst hh; rw [upd_same] at hi; cases hi; exact hge _ hgi
    have c2 : j ≠ id := fun hh => by subst hh; rw [upd_same] at hj; cases hj; exact hge _ hgj
    rw [upd_other _ _ c1] at hi
    rw [upd_other _ _ c2] at hj
    exact h.sep i j bi bj hne hi hj hown gi hgi gj hgj Li Lj e1 e2
  · intro i j bi bj hne hi hj oi oj Li Lj e1 e2
    by_cases c1 : i = id
    · subst c1
      rw [upd_other _ _ (Ne.symm hne)] at hj
      exact h.osep i j b bj hne hid hj (by rw [ho]; rfl) oj Li Lj e1 e2
    · rw [upd_other _ _ c1] at hi
      by_cases c2 : j = id
      · subst c2
        exact h.osep i j bi b hne hi hid oi (by rw [ho]; rfl) Li Lj e1 e2
      · rw [upd_other _ _ c2] at hj
        exact h.osep i j bi bj hne hi hj oi oj Li Lj e1 e2

section
variable {P : Program} {w0 : World} {ρ : Locs} {h H : AHeap} {w : World} {s : Slots} {a : Act} {K : AVal → AHeap → Prop} {o : Oper} {Q : Exit → Act → World → Prop}

theorem op_range {t : TypeId} {x : Operand} (ho : o.op = .range t x) (ht : P.underlying t = some .string) (hR : R w0 ρ H w) (hle : h.le H) (hs : SRel ρ s a) (hop : A.rangeStr h (evS s x) K) : OpOk P w0 ρ h H K o a w Q := by
  have hx := evS_rel hs x
  unfold A.rangeStr at hop
  split at hop
  · rename_i l he
    rw [he] at hx
    obtain ⟨bs, ev, hl⟩ := hx
    obtain ⟨N, hN⟩ := hR.fin
    obtain ⟨hHN, hρN⟩ := hN N (Nat.le_refl N)
    have hhN : h N = none := by
      cases e : h N with
      | none => rfl
      | some b => have := hle N b e; rw [hHN] at this; cases this
    have hRr := hR.newObj hHN hρN (o := .iter l 0) (ob := .stringIter bs 0) ⟨bs, rfl, hl⟩
    refine ok_value (v := .pointer (some ⟨w.heap.size, 0, none⟩)) (w' := { w with heap := w.heap.push (.stringIter bs 0) }) ?_
      ⟨⟨.ptr N 0 0, _, _, _, Locs.le_put _ (hρN 0), ⟨_, Locs.put_same .., Nat.le_refl _, rfl⟩, hop N hhN, upd_le _ hle, Fr.fresh hHN, hRr⟩⟩
    simp [execOp, ho, ev, Instr.range, run_underlying ht]
  · exact hop.elim

theorem op_next {x : Operand} (ho : o.op = .next x true) (hR : R w0 ρ H w) (hle : h.le H) (hs : SRel ρ s a) (hop : A.nextStr h (evS s x) K) : OpOk P w0 ρ h H K o a w Q := by
  have hx := evS_rel hs x
  unfold A.nextStr at hop
  split at hop
  · rename_i id he
    rw [he] at hx
    split at hop
    · rename_i b hb
      split at hop
      · rename_i l pos hobj
        obtain ⟨L, hL, hlo, ev⟩ := hx
        obtain ⟨hg0, L0, ob, q1, q2, q3, q4, q5, q6⟩ := (hR.blk id b (hle id b hb)).obj _ hobj
        rw [hL] at q1
        cases q1
        obtain ⟨bs, rfl, hl⟩ := q6
        rw [q2, q3] at ev
        have hsz : l.length = bs.size := by rw [← hl]; rfl
        have hrune : A.rune l pos = Utf8.decode bs pos := by unfold A.rune; rw [← hl, Array.toArray_toList]
        split at hop
        · rename_i hpos
          have hRr := hR.setObj (hle id b hb) hobj hL (o' := .iter l (pos + (A.rune l pos).2)) (ob' := .stringIter bs (pos + (A.rune l pos).2)) ⟨bs, rfl, hl⟩
          have hpos' : pos < bs.size := by omega
          refine ok_value (v := .tuple #[.bool true, .int .i64 pos, .int .i32 (A.rune l pos).1]) (w' := { w with heap := w.heap.setIfInBounds L.blk (.stringIter bs (pos + (A.rune l pos).2)) }) ?_
            ⟨⟨.tup [.bool true, .int .i64 pos, .int .i32 (A.rune l pos).1], ρ, _, _, Locs.le_refl ρ, ⟨_, rfl, ⟨_, _, rfl, rfl, _, _, rfl, rfl, _, _, rfl, rfl, rfl⟩⟩, hop, upd_le _ hle, Fr.upd hb, hRr⟩⟩
          have hget : (getObj L.blk).run P w = .ok (.stringIter bs pos) w := by simp [getObj, Sem.run, q5]
          have hset : ∀ ob', (setObj L.blk ob').run P w = .ok () { w with heap := w.heap.setIfInBounds L.blk ob' } := fun ob' => by simp [setObj, Sem.run, q5]
          simp [execOp, ho, ev, Instr.next, hget, hpos', hset, ← hrune, goInt]
        · rename_i hpos
          have hpos' : ¬ pos < bs.size := by omega
          have hget : (getObj L.blk).run P w = .ok (.stringIter bs pos) w := by simp [getObj, Sem.run, q5]
          refine ok_pure hR hle (x := .tup [.bool false]) (v := .tuple #[.bool false]) ?_ ⟨_, rfl, ⟨_, _, rfl, rfl, rfl⟩⟩ hop
          simp [execOp, ho, ev, Instr.next, hget, hpos']
      · exact hop.elim
    · exact hop.elim
  · exact hop.elim

end
end Go.Ab
