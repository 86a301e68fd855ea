/- What is proved: each operation of the model does what is told of it in the abstract memory (all but append, copy, and what walks a text). -/
import Derived.Test.YtjhldpbpopjkiaaAbI
namespace Go.Ab
open Go.RowKit (Below)

section
variable {P : Program} {w0 : World} {ρ : Locs} {h H : AHeap} {w : World} {s : Slots} {a : Act} {K : AVal → AHeap → Prop} {o : Oper} {Q : Exit → Act → World → Prop}

theorem cells_of {cs : List AVal} {l : List Value} (hv : VRels ρ cs l) (h1 : ∀ u ∈ l, u.oneCell' = true) (rest : List Value) (j : Nat) (x : AVal) (hx : cs[j]? = some x) :
    ∃ u, (l ++ rest).toArray[j]? = some u ∧ VRel ρ x u ∧ u.oneCell' = true := by
  obtain ⟨u, k1, k2⟩ := hv.get hx
  have hj : j < l.length := (List.getElem?_eq_some_iff.1 k1).1
  refine ⟨u, ?_, k2, h1 u (List.mem_of_getElem? k1)⟩
  rw [List.getElem?_toArray, List.getElem?_append_left hj]; exact k1

theorem after_new (hR : R w0 ρ H w) (hle : h.le H) {cs : List AVal} {K0 : Nat → AHeap → Prop} (hn : A.new h cs K0) (arr : Array Value) (e : TypeId) (fr : Nat × Nat) (hfr : frOk fr arr.size) (hl : cs.length ≤ arr.size)
    (hc : ∀ (j : Nat) (x : AVal), cs[j]? = some x → ∃ u, arr[j]? = some u ∧ VRel ρ x u ∧ u.oneCell' = true) (n : Nat) :
    ∃ id ρ', K0 id (upd h id (blkOf cs)) ∧ ρ.le ρ' ∧ ρ' id 0 = some ⟨w.heap.size, 0, 0, arr.size⟩ ∧ (upd h id (blkOf cs)).le (upd H id (blkOf cs)) ∧ Fr h H (upd h id (blkOf cs)) (upd H id (blkOf cs)) ∧
      R w0 ρ' (upd H id (blkOf cs)) { w with heap := w.heap.push (.cells arr e fr), drawn := n } := by
  obtain ⟨N, hN⟩ := hR.fin
  obtain ⟨hHN, hρN⟩ := hN N (Nat.le_refl N)
  have hhN : h N = none := by
    cases e : h N with
    | none => rfl
    | some b => have := hle N b e; rw [hHN] at this; cases this
  exact ⟨N, _, hn N hhN, Locs.le_put _ (hρN 0), Locs.put_same .., upd_le _ hle, Fr.fresh hHN, (hR.new hHN hρN cs arr e fr hfr hl hc).drew n⟩

/-- Operations that make one new block and hand back a pointer to it. -/
theorem ok_newptr (hR : R w0 ρ H w) (hle : h.le H) {cs : List AVal} (hn : A.new h cs fun id h => K (.ptr id 0 0) h) {l : List Value} {e : TypeId} (hv : VRels ρ cs l) (h1 : ∀ u ∈ l, u.oneCell' = true)
    (hr : (execOp a.eval o).run P w = .ok (.value (.pointer (some ⟨w.heap.size, 0, none⟩))) { w with heap := w.heap.push (.cells l.toArray e) }) : OpOk P w0 ρ h H K o a w Q := by
  obtain ⟨id, ρ', k1, k2, k3, k4, k5, k6⟩ := after_new hR hle hn l.toArray e (0, 0) (.inl (Nat.le_refl _)) (by simp [hv.length]) (by simpa using cells_of hv h1 []) w.drawn
  exact ok_value hr ⟨⟨.ptr id 0 0, ρ', _, _, k2, ⟨_, k3, Nat.le_refl _, rfl⟩, k1, k4, k5, k6⟩⟩

theorem op_move {x : Operand} (ho : o.op = .move x ∨ o.op = .assign x) (hR : R w0 ρ H w) (hle : h.le H) (hs : SRel ρ s a) (hop : K (evS s x) h) : OpOk P w0 ρ h H K o a w Q :=
  ok_pure hR hle (v := a.eval x) (by rcases ho with ho | ho <;> simp [execOp, ho]) (evS_rel hs x) hop

theorem op_pick {c x y : Operand} (ho : o.op = .pick c x y) (hR : R w0 ρ H w) (hle : h.le H) (hs : SRel ρ s a) (hop : A.pick (evS s c) (evS s x) (evS s y) fun v => K v h) : OpOk P w0 ρ h H K o a w Q := by
  have hc := evS_rel hs c
  unfold A.pick at hop
  split at hop
  · rename_i b hb
    rw [hb] at hc
    have hc' : a.eval c = .bool b := hc
    refine ok_pure hR hle (v := if b then a.eval x else a.eval y) (by simp [execOp, ho, hc', asBool]) ?_ hop
    cases b
    · exact evS_rel hs y
    · exact evS_rel hs x
  · exact hop.elim

theorem op_alloc {t : TypeId} (ho : o.op = .alloc t) (hR : R w0 ρ H w) (hle : h.le H) (hop : A.newO h (zeroOf P t) fun id h => K (.ptr id 0 0) h) : OpOk P w0 ρ h H K o a w Q := by
  unfold A.newO at hop
  split at hop
  · rename_i cs hz
    obtain ⟨i, z, hi, hz0, hv, h1, _, _, _⟩ := zeroOf_spec (ρ := ρ) hz
    refine ok_newptr hR hle hop hv h1 (e := t) ?_
    simp [execOp, ho, Instr.alloc, zeroValue, typeInfo, hi, hz0, newVar, newRow]
  · exact hop.elim

theorem op_box {t : TypeId} {x : Operand} (ho : o.op = .box t x) (hR : R w0 ρ H w) (hle : h.le H) (hs : SRel ρ s a)
    (hop : A.newO h (bif isAggB P t then A.cellsN (P.cellsOf t) (evS s x) else A.cells1 (evS s x)) fun id h => K (.ptr id 0 0) h) : OpOk P w0 ρ h H K o a w Q := by
  unfold A.newO at hop
  split at hop
  · rename_i cs hz
    have hx := evS_rel hs x
    have hr : ∀ l : List Value, (a.eval x).cells = l.toArray → (execOp a.eval o).run P w = .ok (.value (.pointer (some ⟨w.heap.size, 0, none⟩))) { w with heap := w.heap.push (.cells l.toArray t) } := fun l hl => by
      simp [execOp, ho, Instr.box, newVar, newRow, hl]
    cases hb : isAggB P t with
    | true =>
      simp only [hb, cond_true] at hz
      unfold A.cellsN at hz
      split at hz <;> (try (cases hz; done))
      rename_i cs' he
      split at hz <;> (try (cases hz; done))
      cases hz
      rw [he] at hx
      obtain ⟨l, e, hv, h1⟩ := hx
      exact ok_newptr hR hle hop hv h1 (hr l (by rw [e]; rfl))
    | false =>
      simp only [hb, cond_false] at hz
      unfold A.cells1 at hz
      cases hc : (evS s x).isCell with
      | false => simp [hc] at hz
      | true =>
        simp only [hc, cond_true, Option.some.injEq] at hz
        subst hz
        have ho := oneCell_of_isCell hc hx
        exact ok_newptr hR hle hop (l := [a.eval x]) ⟨_, _, rfl, hx, rfl⟩ (by simpa using ho) (hr _ (cells_of_oneCell ho))
  · exact hop.elim

theorem op_load1 {t : TypeId} {x : Operand} (ho : o.op = .load t x) (ht : isAggB P t = false) (hu : ∃ d, P.underlying t = some d) (hR : R w0 ρ H w) (hle : h.le H) (hs : SRel ρ s a)
    (hop : A.ld h (evS s x) fun v => K v h) : OpOk P w0 ρ h H K o a w Q := by
  obtain ⟨v, hv, hK⟩ := pv_some hop
  obtain ⟨ad, u, e1, e2, e3, _⟩ := ldv_sound hR hle hv (evS_rel hs x)
  obtain ⟨d, hd⟩ := hu
  refine ok_pure hR hle (v := u) ?_ e3 hK
  simp [execOp, ho, Instr.loadAt, e1, Instr.sureAddr, loadVar, run_isAgg hd, ht, e2]

theorem op_loadN {t : TypeId} {x : Operand} (ho : o.op = .load t x) (ht : isAggB P t = true) (hR : R w0 ρ H w) (hle : h.le H) (hs : SRel ρ s a)
    (hop : A.ldn h (evS s x) (P.cellsOf t) fun v => K v h) : OpOk P w0 ρ h H K o a w Q := by
  obtain ⟨v, hv, hK⟩ := pv_some hop
  have hd : ∃ d, P.underlying t = some d := by
    unfold isAggB at ht
    cases hu : P.underlying t with
    | none => simp [hu] at ht
    | some d => exact ⟨d, rfl⟩
  obtain ⟨d, hd⟩ := hd
  obtain ⟨i, hi⟩ := info_of_underlying hd
  have hsz := cellsOf_eq hi
  unfold A.ldnv at hv
  split at hv <;> (try (cases hv; done))
  rename_i id g off hp
  split at hv <;> (try (cases hv; done))
  rename_i b hb
  split at hv <;> (try (cases hv; done))
  rename_i hi' hg
  split at hv <;> (try (cases hv; done))
  rename_i hlt
  cases hv
  have hx := evS_rel hs x
  rw [hp] at hx
  obtain ⟨L, hL, hlo, e⟩ := hx
  obtain ⟨l, k1, k2, k3, k4⟩ := read_cells hR (hle id b hb) (mem_of_lookup hg) hL (n := P.cellsOf t) hlo hlt
  refine ok_pure hR hle (x := .agg ((b.cells.drop off).take (P.cellsOf t))) (v := .agg l.toArray) ?_ ⟨l, rfl, k2, k3⟩ hK
  have hc := run_loadCells_list (P := P) w ⟨L.blk, L.base + (off - L.lo), none⟩ l fun j u hj => by rw [addr_add]; exact k4 j u hj
  rw [k1, hsz] at hc
  simp [execOp, ho, Instr.loadAt, e, Instr.sureAddr, loadVar, run_isAgg hd, ht, run_sizeOf hi, hc]

/-- A result that stands in a variable. -/
theorem resCell_run {t : TypeId} {p v : AVal} {x : Value} (hR : R w0 ρ H w) (hle : h.le H) (hx : VRel ρ p x) (hv : resCell P h p t = some v) :
    ∃ ad u, x = .pointer (some ad) ∧ (loadVar t ad).run P w = .ok u w ∧ VRel ρ v u := by
  unfold resCell at hv
  split at hv
  · cases hv
  · rename_i d hd
    cases ht : isAggB P t with
    | false =>
      rw [ht] at hv
      obtain ⟨ad, u, e1, e2, e3, _⟩ := ldv_sound hR hle hv hx
      exact ⟨ad, u, e1, by simp [loadVar, run_isAgg hd, ht, e2], e3⟩
    | true =>
      rw [ht] at hv
      obtain ⟨i, hi⟩ := info_of_underlying hd
      have hsz := cellsOf_eq hi
      simp only [cond_true] at hv
      unfold A.ldnv at hv
      split at hv <;> (try (cases hv; done))
      rename_i id g off
      split at hv <;> (try (cases hv; done))
      rename_i b hb
      split at hv <;> (try (cases hv; done))
      rename_i hi' hg
      split at hv <;> (try (cases hv; done))
      rename_i hlt
      cases hv
      obtain ⟨L, hL, hlo, e⟩ := hx
      obtain ⟨l, k1, k2, k3, k4⟩ := read_cells hR (hle id b hb) (mem_of_lookup hg) hL (n := P.cellsOf t) hlo hlt
      have hc := run_loadCells_list (P := P) w ⟨L.blk, L.base + (off - L.lo), none⟩ l fun j u hj => by rw [addr_add]; exact k4 j u hj
      rw [k1, hsz] at hc
      exact ⟨_, .agg l.toArray, e, by simp [loadVar, run_isAgg hd, ht, run_sizeOf hi, hc], l, rfl, k2, k3⟩

/-- What a store leaves. -/
theorem op_storeL {t : TypeId} {p x : Operand} (ho : o.op = .store t p x) (hR : R w0 ρ H w) (hle : h.le H) {id g off : Nat} {b : Blk} {hi : Nat} (hp : VRel ρ (.ptr id g off) (a.eval p)) (hb : h id = some b) (hown : b.own = true)
    (hg : b.gens.lookup g = some hi) {xs : List AVal} {vs : List Value} (hx : VRels ρ xs vs) (h1 : ∀ u ∈ vs, u.oneCell' = true) (hv : (a.eval x).cells = vs.toArray) (hn : off + xs.length ≤ hi)
    (hsz : ∃ i, P.info? t = some i ∧ i.size = xs.length) (hK : K .undef (upd h id { b with cells := splice b.cells xs off, gens := [(g, hi)] })) : OpOk P w0 ρ h H K o a w Q := by
  obtain ⟨L, hL, hlo, e⟩ := hp
  obtain ⟨k1, k2⟩ := store_sound (P := P) hR (hle id b hb) hown (mem_of_lookup hg) hL hlo hn hx h1
  obtain ⟨i, hi', hs'⟩ := hsz
  have hlen := hx.length
  refine ok_skip (w' := w.setCells L.blk (L.base + (off - L.lo)) vs) ?_ ⟨⟨.undef, ρ, _, _, Locs.le_refl ρ, trivial, hK, upd_le _ hle, Fr.upd hb, k2⟩⟩
  have : ¬ (vs.length ≠ i.size) := by omega
  simp [execOp, ho, Instr.storeAt, e, Instr.sureAddr, storeVar, hv, run_sizeOf hi', this, k1]

theorem stv_some {p : AVal} {f : List AVal → Option (List AVal)} {n off : Nat} {K : AHeap → Prop} (h0 : A.ph (A.stv h p f n off) K) :
    ∃ id g o b hi cs, p = .ptr id g o ∧ h id = some b ∧ b.gens.lookup g = some hi ∧ b.own = true ∧ off + o + n ≤ hi ∧ f b.cells = some cs ∧ K (upd h id { b with cells := cs, gens := [(g, hi)] }) := by
  unfold A.ph at h0
  split at h0
  · rename_i h' he
    unfold A.stv at he
    split at he <;> (try (cases he; done))
    rename_i id g o
    split at he <;> (try (cases he; done))
    rename_i b hb
    split at he <;> (try (cases he; done))
    rename_i hi hg
    cases hc : (b.own && Nat.ble (off + o + n) hi) with
    | false => simp [hc] at he
    | true =>
      simp only [hc, cond_true] at he
      simp only [Bool.and_eq_true, Nat.ble_eq] at hc
      split at he <;> (try (cases he; done))
      rename_i cs hf
      cases he
      exact ⟨id, g, o, b, hi, cs, rfl, hb, hg, hc.1, hc.2, hf, h0⟩
  · exact h0.elim

theorem op_store1 {t : TypeId} {p x : Operand} (ho : o.op = .store t p x) (ht : P.cellsOf t = 1) (hR : R w0 ρ H w) (hle : h.le H) (hs : SRel ρ s a)
    (hop : A.st h (evS s p) (evS s x) fun h => K .undef h) : OpOk P w0 ρ h H K o a w Q := by
  obtain ⟨id, g, off, b, hi, cs, e1, e2, e3, e4, e5, e6, e7⟩ := stv_some hop
  have e6 : V.put1 off (evS s x) b.cells = some cs := by rw [e1] at e6; exact e6
  simp only [V.put1] at e6
  cases hc : (evS s x).isCell with
  | false => simp [hc] at e6
  | true =>
    simp only [hc, cond_true] at e6
    have hlt : off < b.cells.length := by
      rcases Nat.lt_or_ge off b.cells.length with h' | h'
      · exact h'
      · rw [if_neg (by omega)] at e6; cases e6
    rw [if_pos hlt] at e6
    cases e6
    have hx := evS_rel hs x
    have h1 := oneCell_of_isCell hc hx
    have hp := evS_rel hs p
    rw [e1] at hp
    have hi' : ∃ i, P.info? t = some i := by
      cases hh : P.info? t with
      | none => simp [Program.cellsOf, hh] at ht
      | some i => exact ⟨i, rfl⟩
    obtain ⟨i, hi'⟩ := hi'
    refine op_storeL ho hR hle hp e2 e4 e3 (xs := [evS s x]) (vs := [a.eval x]) ⟨_, _, rfl, hx, rfl⟩ (by simpa using h1) (cells_of_oneCell h1) (by simp only [List.length_singleton]; omega) ⟨i, hi', by rw [← cellsOf_eq hi', ht]; rfl⟩ ?_
    have : splice b.cells [evS s x] off = b.cells.set off (evS s x) := by
      unfold splice
      rw [List.set_eq_take_append_cons_drop, if_pos hlt, List.append_assoc]
      rfl
    rw [this]
    exact e7

theorem op_storeN {t : TypeId} {p x : Operand} (ho : o.op = .store t p x) (hi' : ∃ i, P.info? t = some i) (hR : R w0 ρ H w) (hle : h.le H) (hs : SRel ρ s a)
    (hop : A.stn h (evS s p) (P.cellsOf t) (evS s x) fun h => K .undef h) : OpOk P w0 ρ h H K o a w Q := by
  obtain ⟨id, g, off, b, hi, cs, e1, e2, e3, e4, e5, e6, e7⟩ := stv_some hop
  rw [e1] at e6
  unfold V.putN at e6
  split at e6 <;> (try (cases e6; done))
  rename_i xs hxs
  split at e6 <;> (try (cases e6; done))
  rename_i hlt
  cases e6
  have hx := evS_rel hs x
  rw [hxs] at hx
  obtain ⟨vs, hv, h2, h1⟩ := hx
  have hp := evS_rel hs p
  rw [e1] at hp
  obtain ⟨i, hi'⟩ := hi'
  refine op_storeL ho hR hle hp e2 e4 e3 h2 h1 (by rw [hv]; rfl) (by omega) ⟨i, hi', by rw [← cellsOf_eq hi', hlt.1]⟩ ?_
  have : splice b.cells xs off = b.cells.take off ++ xs ++ b.cells.drop (off + P.cellsOf t) := by
    unfold splice; rw [hlt.1]
  rw [this]
  exact e7

theorem op_nilCheck {x : Operand} (ho : o.op = .nilCheck x) (hR : R w0 ρ H w) (hle : h.le H) (hs : SRel ρ s a) (hop : A.nilCheck (evS s x) fun v => K v h) : OpOk P w0 ρ h H K o a w Q := by
  have hx := evS_rel hs x
  unfold A.nilCheck at hop
  split at hop
  · rename_i id g off he
    have hx' := hx
    rw [he] at hx
    obtain ⟨L, hL, hlo, e⟩ := hx
    exact ok_pure hR hle (x := evS s x) (v := a.eval x) (by simp [execOp, ho, e]) hx' hop
  · rename_i f first caps he
    have hx' := hx
    rw [he] at hx
    obtain ⟨l, l', e, _⟩ := hx
    exact ok_pure hR hle (x := evS s x) (v := a.eval x) (by simp [execOp, ho, e]) hx' hop
  · exact hop.elim

theorem op_bin {op : BinOp} {t u : TypeId} {x y : Operand} (ho : o.op = .binOp op t x y u) (hR : R w0 ρ H w) (hle : h.le H) (hs : SRel ρ s a) (hop : opWp P (AC P) (.binOp op t x y u) s h K) : OpOk P w0 ρ h H K o a w Q := by
  have hx := evS_rel hs x
  have hy := evS_rel hs y
  have fin : ∀ r : AVal, ((∀ a' b', (eqGuard op t a' b' (a.eval x) (a.eval y)).run P w = .ok () w) ∧ ∃ z, (binOp op t (a.eval x) (a.eval y)).run P w = .ok z w ∧ VRel ρ r z) → K r h → OpOk P w0 ρ h H K o a w Q := by
    rintro r ⟨g, z, hz, hr⟩ hK
    exact ok_pure hR hle (v := z) (by simp [execOp, ho, g, hz]) hr hK
  simp only [opWp] at hop
  split at hop
  · obtain ⟨r, h1, h2⟩ := pv_some hop; exact fin r (bin_run hx hy h1) h2
  · obtain ⟨r, h1, h2⟩ := pv_some hop; exact fin r (bin_run hx hy h1) h2
  · rename_i ht; obtain ⟨r, h1, h2⟩ := pv_some hop; exact fin r (eqBool_run ht hx hy h1) h2
  · rename_i ht; obtain ⟨r, h1, h2⟩ := pv_some hop; exact fin r (eqPtr_run ht hx hy h1) h2
  · rename_i ht; obtain ⟨r, h1, h2⟩ := pv_some hop; exact fin r (eqSl_run ht hx hy h1) h2
  · rename_i ht; obtain ⟨r, h1, h2⟩ := pv_some hop; exact fin r (eqFn_run ht hx hy h1) h2
  · rename_i ht
    split at hop
    · rename_i sh hsh
      obtain ⟨r, h1, h2⟩ := pv_some hop
      exact fin r (binAgg_run ht hsh hx hy h1) h2
    · exact hop.elim
  · exact hop.elim

theorem op_un {op : UnOp} {t : TypeId} {x : Operand} (ho : o.op = .unOp op t x) (hR : R w0 ρ H w) (hle : h.le H) (hs : SRel ρ s a) (hop : A.pv (V.un op (evS s x)) fun v => K v h) : OpOk P w0 ρ h H K o a w Q := by
  obtain ⟨r, h1, h2⟩ := pv_some hop
  have hx := evS_rel hs x
  unfold V.un at h1
  split at h1 <;> (try (cases h1; done))
  · rename_i k n he
    rw [he] at hx
    have e : a.eval x = .int k n := hx
    cases h1
    exact ok_pure hR hle (x := .int k (k.wrap (0 - n))) (v := .int k (k.wrap (0 - n))) (by simp [execOp, ho, e, Op.unary, Op.intArith]) rfl h2
  · rename_i k n he
    rw [he] at hx
    have e : a.eval x = .int k n := hx
    cases h1
    exact ok_pure hR hle (x := .int k _) (v := .int k _) (by simp only [execOp, ho, e, Op.unary, Op.intBits, Sem.run_bind, Sem.run_pure, Result.andThen_ok]) rfl h2
  · rename_i b he
    rw [he] at hx
    have e : a.eval x = .bool b := hx
    cases h1
    exact ok_pure hR hle (x := .bool !b) (v := .bool !b) (by simp [execOp, ho, e, Op.unary]) rfl h2
end
end Go.Ab
