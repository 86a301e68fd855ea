/- What is proved: each operation that is told does in the model what is told of it. -/
import Derived.Test.YtjhldpbpopjkiaaAbN
namespace Go.Ab
open Go.RowKit (Below)

section
variable {P : Program} {w0 : World} {ρ : Locs} {h H : AHeap} {w : World} {s : Slots} {a : Act} {K : AVal → AHeap → Prop} {o : Oper} {Q : Exit → Act → World → Prop}

theorem exec_builtin {c : Call} {b : Builtin} {l : List Operand} (ho : o.op = .call c) (hc : c.callee = .builtin b) (hl : c.args.toList = l) :
    ∃ consts, (execOp a.eval o).run P w = (builtin b c.argTypes o.type consts (l.map a.eval).toArray).run P w := by
  have : c.args.map a.eval = (l.map a.eval).toArray := by apply Array.ext'; simp [← hl]
  refine ⟨c.args.map fun x => match x with | .const _ => true | _ => false, ?_⟩
  simp only [execOp, ho, resolve, hc, Sem.run_bind, Sem.run_pure, Result.andThen_ok, invoke, this]
  rfl

theorem first_type {c : Call} {t : TypeId} {r : List TypeId} (ha : c.argTypes.toList = t :: r) : c.argTypes[0]? = some t := by
  have : c.argTypes.toList[0]? = some t := by rw [ha]; rfl
  simpa using this

theorem op_len {c : Call} {t : TypeId} {r : List TypeId} {x : Operand} (ho : o.op = .call c) (hc : c.callee = .builtin .len) (ha : c.argTypes.toList = t :: r) (hargs : c.args.toList = [x])
    (hR : R w0 ρ H w) (hle : h.le H) (hs : SRel ρ s a)
    (hop : match P.underlying t with
      | some .string => A.pv (V.lenStr (evS s x)) fun v => K v h
      | some (.slice _) => A.pv (V.lenSl (evS s x)) fun v => K v h
      | some (.array n _) => K (.int .i64 n) h
      | _ => False) : OpOk P w0 ρ h H K o a w Q := by
  have hx := evS_rel hs x
  have hat := first_type ha
  have main : ∀ n, (Builtin.len_ c.argTypes o.type #[a.eval x]).run P w = .ok (.int .i64 n) w → (execOp a.eval o).run P w = .ok (.value (.int .i64 n)) w := fun n hh => by
    obtain ⟨_, hex⟩ := exec_builtin (P := P) (w := w) (a := a) ho hc hargs; rw [hex]; simp [builtin, hh]
  split at hop
  · rename_i ht
    obtain ⟨r, h1, h2⟩ := pv_some hop
    unfold V.lenStr at h1
    split at h1 <;> (try (cases h1; done))
    rename_i l he
    cases h1
    rw [he] at hx
    obtain ⟨bs, ev, hl⟩ := hx
    have hsz : l.length = bs.size := by rw [← hl]; rfl
    refine ok_pure hR hle (x := .int .i64 l.length) (v := .int .i64 l.length) (main _ ?_) rfl h2
    rw [ev, hsz]; simp [Builtin.len_, hat, run_underlying ht, goInt]
  · rename_i e ht
    obtain ⟨r, h1, h2⟩ := pv_some hop
    have fin : ∀ (n : Nat), r = .int .i64 n → (∃ ad cp, a.eval x = .slice ad n cp) → OpOk P w0 ρ h H K o a w Q := by
      rintro n rfl ⟨ad, cp, ev⟩
      refine ok_pure hR hle (x := .int .i64 n) (v := .int .i64 n) (main _ ?_) rfl h2
      rw [ev]; simp [Builtin.len_, hat, run_underlying ht, goInt]
    unfold V.lenSl at h1
    split at h1 <;> (try (cases h1; done))
    · rename_i he; cases h1; rw [he] at hx; exact fin 0 rfl ⟨_, _, hx⟩
    · rename_i he; cases h1; rw [he] at hx; obtain ⟨_, hx⟩ := hx; exact fin 0 rfl ⟨_, _, hx⟩
    · rename_i he; cases h1; rw [he] at hx; obtain ⟨_, _, hx⟩ := rel_sl hx; exact fin _ rfl ⟨_, _, hx⟩
  · rename_i n e ht
    exact ok_pure hR hle (x := .int .i64 n) (v := .int .i64 n) (main _ (by simp [Builtin.len_, hat, run_underlying ht, goInt])) rfl hop
  · exact hop.elim

theorem op_minmax {c : Call} {x y : Operand} {b : Builtin} {f : AVal → AVal → Option AVal} (hb : (b = .min ∧ f = V.min2) ∨ (b = .max ∧ f = V.max2)) (ho : o.op = .call c) (hc : c.callee = .builtin b) (hargs : c.args.toList = [x, y])
    (hR : R w0 ρ H w) (hle : h.le H) (hs : SRel ρ s a) (hop : A.pv (f (evS s x) (evS s y)) fun v => K v h) : OpOk P w0 ρ h H K o a w Q := by
  have hx := evS_rel hs x
  have hy := evS_rel hs y
  obtain ⟨r, h1, h2⟩ := pv_some hop
  rcases hb with ⟨rfl, rfl⟩ | ⟨rfl, rfl⟩
  · unfold V.min2 at h1
    split at h1 <;> (try (cases h1; done))
    rename_i k m k' n e1 e2
    cases h1
    rw [e1] at hx
    rw [e2] at hy
    have ex : a.eval x = .int k m := hx
    have ey : a.eval y = .int k' n := hy
    refine ok_pure hR hle (x := .int k (if n < m then n else m)) (v := .int k (if n < m then n else m)) ?_ rfl h2
    obtain ⟨_, hex⟩ := exec_builtin (P := P) (w := w) (a := a) ho hc hargs
    rw [hex]
    simp [builtin, Builtin.min_, Builtin.min2, ex, ey]
  · unfold V.max2 at h1
    split at h1 <;> (try (cases h1; done))
    rename_i k m k' n e1 e2
    cases h1
    rw [e1] at hx
    rw [e2] at hy
    have ex : a.eval x = .int k m := hx
    have ey : a.eval y = .int k' n := hy
    refine ok_pure hR hle (x := .int k (if n > m then n else m)) (v := .int k (if n > m then n else m)) ?_ rfl h2
    obtain ⟨_, hex⟩ := exec_builtin (P := P) (w := w) (a := a) ho hc hargs
    rw [hex]
    simp [builtin, Builtin.max_, Builtin.max2, ex, ey]

theorem op_copy {c : Call} {t u e : TypeId} {x y : Operand} (ho : o.op = .call c) (hc : c.callee = .builtin .copy) (ha : c.argTypes.toList = [t, u]) (hargs : c.args.toList = [x, y]) (ht : P.underlying t = some (.slice e)) (hpos : 0 < P.cellsOf e)
    (hR : R w0 ρ H w) (hle : h.le H) (hs : SRel ρ s a) (hop : A.cpy h (P.cellsOf e) (evS s x) (evS s y) K) : OpOk P w0 ρ h H K o a w Q := by
  have hx := evS_rel hs x
  have hy := evS_rel hs y
  have hat := first_type ha
  obtain ⟨i, hi⟩ : ∃ i, P.info? e = some i := by
    cases hh : P.info? e with
    | none => simp [Program.cellsOf, hh] at hpos
    | some i => exact ⟨i, rfl⟩
  have hce := cellsOf_eq hi
  have main : ∀ r w', (Builtin.copy_ c.argTypes o.type #[a.eval x, a.eval y]).run P w = .ok r w' → (execOp a.eval o).run P w = .ok (.value r) w' := fun r w' hh => by
    obtain ⟨_, hex⟩ := exec_builtin (P := P) (w := w) (a := a) ho hc hargs; rw [hex]; simp [builtin, hh]
  unfold A.cpy at hop
  split at hop
  · exact hop.elim
  · rename_i m hm
    have hnone : ∀ (base : Option Addr) (cp n : Nat), (n = m ∨ ∃ l, evS s y = .str l) → a.eval x = .slice base 0 cp → ∀ K', K' = K → K' (.int .i64 0) h → OpOk P w0 ρ h H K o a w Q := by
      rintro base cp n _ ex _ rfl hK
      have hlen : ∃ q, (Builtin.lenOf (a.eval y)).run P w = .ok q w ∧ (Builtin.firstCells i.size 0 (a.eval y)).run P w = .ok #[] w := by
        unfold A.srcLen at hm
        split at hm <;> (try (cases hm; done))
        · rename_i he; rw [he] at hy; have ey : a.eval y = .slice none 0 0 := hy; exact ⟨0, by simp [ey, Builtin.lenOf], by simp [ey, Builtin.firstCells]⟩
        · rename_i he; rw [he] at hy; obtain ⟨ad, ey⟩ := hy; exact ⟨0, by simp [ey, Builtin.lenOf], by simp [ey, Builtin.firstCells, loadCells, loadCellsFrom]⟩
        · rename_i he; rw [he] at hy; obtain ⟨ad, _, ey⟩ := rel_sl hy; exact ⟨_, by simp [ey, Builtin.lenOf]; rfl, by simp [ey, Builtin.firstCells, loadCells, loadCellsFrom]⟩
        · rename_i he; rw [he] at hy; obtain ⟨bs, ey, _⟩ := hy; refine ⟨_, by simp [ey, Builtin.lenOf]; rfl, ?_⟩
          simp only [ey, Builtin.firstCells, Sem.run_pure]
          congr 1
          apply Array.ext'
          simp
      obtain ⟨q, q1, q2⟩ := hlen
      refine ok_pure hR hle (x := .int .i64 0) (v := .int .i64 0) (main _ _ ?_) rfl hK
      have h01 : (ht' : (c.argTypes[0]? = some t)) → True := fun _ => trivial
      cases base with
      | none => simp [Builtin.copy_, hat, run_underlying ht, ex, q1, q2, sizeOf, typeInfo, hi, goInt]
      | some ad => simp [Builtin.copy_, hat, run_underlying ht, ex, q1, q2, sizeOf, typeInfo, hi, goInt, storeCells]
    split at hop
    · rename_i he; rw [he] at hx; exact hnone _ _ m (.inl rfl) hx K rfl hop
    · rename_i he; rw [he] at hx; obtain ⟨_, hx⟩ := hx; exact hnone _ _ m (.inl rfl) hx K rfl hop
    · rename_i id g off len es cp' he
      rw [he] at hx
      split at hop
      · exact hop.elim
      · rename_i cs hcs
        have hns : ∀ l, evS s y ≠ .str l := fun l hl => by rw [hl] at hcs; simp [A.rdv] at hcs
        obtain ⟨ad, cp, ey⟩ := slice_of_srcLen hy hns hm
        obtain ⟨vs, hvl, hv, h1, hf, _⟩ := rdv_sound (P := P) hR hle hcs hy
        obtain ⟨id', g', off', b, hi', cs', e1, e2, e3, e4, e5, e6, e7⟩ := stv_some hop
        cases e1
        have hcl := hv.length
        simp only [V.putN] at e6
        split at e6 <;> (try (cases e6; done))
        rename_i hlt
        cases e6
        have hsp : splice b.cells cs off = b.cells.take off ++ cs ++ b.cells.drop (off + min m len * P.cellsOf e) := by unfold splice; rw [hlt.1]
        rw [← hsp] at e7
        have hff := hf w (fun _ _ _ hh => hh)
        rw [hce] at hff
        obtain ⟨L, hL, hlo, ⟨cap, ex, _⟩ | ⟨rfl, _, ax, ex⟩⟩ := hx
        · obtain ⟨k1, k2⟩ := store_sound (P := P) hR (hle id b e2) e4 (mem_of_lookup e3) hL hlo (by omega) hv h1
          refine ok_value (v := .int .i64 (min m len : Nat)) (main _ _ ?_) ⟨⟨.int .i64 (min m len : Nat), ρ, _, _, Locs.le_refl ρ, rfl, e7, upd_le _ hle, Fr.upd e2, k2⟩⟩
          rw [ey] at hff
          simp only [Builtin.copy_, hat]
          simp [run_underlying ht, ex, ey, Builtin.lenOf, sizeOf, typeInfo, hi, goInt, hff, k1]
        · have h0 : min m 0 = 0 := by omega
          have hvs : vs = [] := List.eq_nil_of_length_eq_zero (by rw [hvl, h0, Nat.zero_mul])
          subst hvs
          have hcs0 : cs = [] := List.eq_nil_of_length_eq_zero (by simpa using hcl)
          subst hcs0
          obtain ⟨k1, k2⟩ := store_sound (P := P) hR (hle id b e2) e4 (mem_of_lookup e3) hL hlo (xs := []) (vs := []) (by simp only [List.length_nil]; omega) rfl (by simp)
          refine ok_value (v := .int .i64 (min m 0 : Nat)) (main _ _ ?_) ⟨⟨.int .i64 (min m 0 : Nat), ρ, _, _, Locs.le_refl ρ, rfl, e7, upd_le _ hle, Fr.upd e2, k2⟩⟩
          rw [ey] at hff
          simp only [Builtin.copy_, hat]
          simp only [h0] at hff
          simp [run_underlying ht, ex, ey, Builtin.lenOf, sizeOf, typeInfo, hi, goInt, hff, storeCells]
          rfl
    · exact hop.elim

/-! Calls. -/
theorem ok_enter {f : FuncId} {va : List Value} {args : List AVal} (hr : (execOp a.eval o).run P w = (callFunc f va.toArray).run P w) (hv : VRels ρ args va) (hR : R w0 ρ H w) (hle : h.le H) (hop : AC P f args h K) :
    OpOk P w0 ρ h H K o a w Q := by
  unfold OpOk Oper.wp
  rw [hr, hop.1]
  simp only [Oper.upon]
  refine (hop.2 w0 ρ H w va hle hR hv).mono ?_
  rintro e w' ⟨v, rfl, hA⟩
  exact ⟨v, hA, rfl⟩

theorem op_call {c : Call} {f : FuncId} (ho : o.op = .call c) (hc : c.callee = .value (.func f)) (hR : R w0 ρ H w) (hle : h.le H) (hs : SRel ρ s a) (hop : AC P f (c.args.toList.map (evS s)) h K) : OpOk P w0 ρ h H K o a w Q := by
  refine ok_enter (va := c.args.toList.map a.eval) ?_ (evSs_rel hs _) hR hle hop
  simp only [execOp, ho, resolve, hc, Act.eval, Deferred.ofValue, Sem.run_bind, Sem.run_pure, Result.andThen_ok, invoke]
  congr 2
  apply Array.ext'; simp

theorem op_callv {c : Call} {x : Operand} (ho : o.op = .call c) (hc : c.callee = .value x) (hR : R w0 ρ H w) (hle : h.le H) (hs : SRel ρ s a) (hop : A.callv h (AC P) (evS s x) (c.args.toList.map (evS s)) K) : OpOk P w0 ρ h H K o a w Q := by
  have hx := evS_rel hs x
  unfold A.callv at hop
  split at hop
  · rename_i f first caps he
    rw [he] at hx
    obtain ⟨l, l', ev, h1, h2⟩ := hx
    refine ok_enter (va := l ++ c.args.toList.map a.eval ++ l') ?_ ((h1.append (evSs_rel hs _)).append h2) hR hle hop
    simp only [execOp, ho, resolve, hc, ev, Deferred.ofValue, Sem.run_bind, Sem.run_pure, Result.andThen_ok, invoke]
    congr 2
    apply Array.ext'; simp
  · exact hop.elim
end
end Go.Ab
