/- What is proved: each operation of the model does what is told of it in the abstract memory (cuts, places, literals, calls). -/
import Derived.Test.YtjhldpbpopjkiaaAbJ
namespace Go.Ab
open Go.RowKit (Below)

section
variable {P : Program} {w0 : World} {ρ : Locs} {h H : AHeap} {w : World} {s : Slots} {a : Act} {K : AVal → AHeap → Prop} {o : Oper} {Q : Exit → Act → World → Prop}

theorem sure_ptr (b off : Nat) (w : World) : (Instr.sureAddr (.pointer (some ⟨b, off, none⟩))).run P w = .ok ⟨b, off, none⟩ w := rfl

theorem op_fieldAddr {t : TypeId} {x : Operand} {f : Nat} {fs : Array Field} {fd : Field} (ho : o.op = .fieldAddr t x f) (ht : P.underlying t = some (.struct fs)) (hf : fs[f]? = some fd) (hz : Nat.beq (P.cellsOf fd.type) 0 = false)
    (hR : R w0 ρ H w) (hle : h.le H) (hs : SRel ρ s a) (hop : A.pv (V.fieldAddr fd.offset (evS s x)) fun v => K v h) : OpOk P w0 ρ h H K o a w Q := by
  obtain ⟨r, h1, h2⟩ := pv_some hop
  have hx := evS_rel hs x
  unfold V.fieldAddr at h1
  split at h1 <;> (try (cases h1; done))
  rename_i id g off he
  rw [he] at hx
  obtain ⟨L, hL, hlo, e⟩ := hx
  cases h1
  have hsz : ∃ i, P.info? fd.type = some i ∧ ¬ i.size = 0 := by
    cases hh : P.info? fd.type with
    | none => simp [Program.cellsOf, hh] at hz
    | some i =>
      refine ⟨i, rfl, fun hi => ?_⟩
      simp [Program.cellsOf, hh, hi] at hz
  obtain ⟨i, hi, hi0⟩ := hsz
  refine ok_pure hR hle (x := .ptr id g (off + fd.offset)) (v := .pointer (some ⟨L.blk, L.base + (off - L.lo) + fd.offset, none⟩)) ?_ ⟨L, hL, by omega, by rw [show L.base + (off - L.lo) + fd.offset = L.base + (off + fd.offset - L.lo) by omega]⟩ h2
  simp [execOp, ho, e, Instr.fieldAt, run_underlying ht, hf, Instr.sureAddr, fieldPlace, run_sizeOf hi, hi0, addr_add]

theorem op_field {t : TypeId} {x : Operand} {f : Nat} {fs : Array Field} {fd : Field} {d : TypeDesc} (ho : o.op = .field t x f) (ht : P.underlying t = some (.struct fs)) (hf : fs[f]? = some fd) (hd : P.underlying fd.type = some d)
    (hR : R w0 ρ H w) (hle : h.le H) (hs : SRel ρ s a)
    (hop : bif isAggB P fd.type then A.pv (V.fieldN fd.offset (P.cellsOf fd.type) (evS s x)) fun v => K v h else A.pv (V.field1 fd.offset (evS s x)) fun v => K v h) : OpOk P w0 ρ h H K o a w Q := by
  have hx := evS_rel hs x
  obtain ⟨i, hi⟩ := info_of_underlying hd
  have hsz := cellsOf_eq hi
  cases hb : isAggB P fd.type with
  | true =>
    simp only [hb, cond_true] at hop
    obtain ⟨r, h1, h2⟩ := pv_some hop
    unfold V.fieldN at h1
    split at h1 <;> (try (cases h1; done))
    rename_i cs he
    split at h1 <;> (try (cases h1; done))
    rename_i hlt
    cases h1
    rw [he] at hx
    obtain ⟨l, e, hv, h1⟩ := hx
    refine ok_pure hR hle (x := .agg ((cs.drop fd.offset).take (P.cellsOf fd.type))) (v := .agg ((l.drop fd.offset).take (P.cellsOf fd.type)).toArray) ?_ ⟨_, rfl, (hv.drop _).take _, fun u hu => h1 u (List.mem_of_mem_drop (List.mem_of_mem_take hu))⟩ h2
    simp only [execOp, ho, e, Instr.field, Sem.run_bind, run_underlying ht, Result.andThen_ok, hf, asAgg, Sem.run_pure, part, run_isAgg hd, hb, if_true, run_sizeOf hi]
    congr 3
    apply Array.ext'
    simp only [List.extract_toArray, List.extract_eq_take_drop]
    rw [show fd.offset + i.size - fd.offset = P.cellsOf fd.type by omega]
  | false =>
    simp only [hb, cond_false] at hop
    obtain ⟨r, h1, h2⟩ := pv_some hop
    unfold V.field1 at h1
    split at h1 <;> (try (cases h1; done))
    rename_i cs he
    rw [he] at hx
    obtain ⟨l, e, hv, _⟩ := hx
    obtain ⟨u, k1, k2⟩ := hv.get h1
    refine ok_pure hR hle (x := r) (v := u) ?_ k2 h2
    simp [execOp, ho, e, Instr.field, run_underlying ht, hf, asAgg, part, run_isAgg hd, hb, k1]

theorem op_indexS {t e : TypeId} {x i : Operand} (ho : o.op = .indexAddr t x i) (ht : P.underlying t = some (.slice e)) (hR : R w0 ρ H w) (hle : h.le H) (hs : SRel ρ s a) (hi : ∃ d, P.info? e = some d)
    (hop : A.pv (V.idxS (P.cellsOf e) (evS s x) (evS s i)) fun v => K v h) : OpOk P w0 ρ h H K o a w Q := by
  obtain ⟨r, h1, h2⟩ := pv_some hop
  have hx := evS_rel hs x
  have hy := evS_rel hs i
  obtain ⟨ie, hie⟩ := hi
  unfold V.idxS at h1
  split at h1 <;> (try (cases h1; done))
  rename_i id g off len es cp k n he hk
  split at h1 <;> (try (cases h1; done))
  rename_i hlt
  cases h1
  rw [he] at hx
  rw [hk] at hy
  obtain ⟨L, hL, hlo, ⟨cap, ev, _⟩ | ⟨h0, _⟩⟩ := hx
  case inr => omega
  have ei : a.eval i = .int k n := hy
  refine ok_pure hR hle (x := .ptr id g (off + n.toNat * P.cellsOf e)) (v := .pointer (some ⟨L.blk, L.base + (off - L.lo) + n.toNat * P.cellsOf e, none⟩)) ?_
    ⟨L, hL, by omega, by rw [show L.base + (off - L.lo) + n.toNat * P.cellsOf e = L.base + (off + n.toNat * P.cellsOf e - L.lo) by omega]⟩ h2
  simp [execOp, ho, ev, ei, Instr.indexAt, asIntOf, run_underlying ht, hlt, run_sizeOf hie, cellsOf_eq hie, addr_add]

theorem op_indexA {t e : TypeId} {x i : Operand} {len : Nat} (ho : o.op = .indexAddr t x i) (ht : P.underlying t = some (.array len e)) (hR : R w0 ρ H w) (hle : h.le H) (hs : SRel ρ s a) (hi : ∃ d, P.info? e = some d)
    (hop : A.pv (V.idxA len (P.cellsOf e) (evS s x) (evS s i)) fun v => K v h) : OpOk P w0 ρ h H K o a w Q := by
  obtain ⟨r, h1, h2⟩ := pv_some hop
  have hx := evS_rel hs x
  have hy := evS_rel hs i
  obtain ⟨ie, hie⟩ := hi
  unfold V.idxA at h1
  split at h1 <;> (try (cases h1; done))
  rename_i id g off k n he hk
  split at h1 <;> (try (cases h1; done))
  rename_i hlt
  cases h1
  rw [he] at hx
  rw [hk] at hy
  obtain ⟨L, hL, hlo, ev⟩ := hx
  have ei : a.eval i = .int k n := hy
  refine ok_pure hR hle (x := .ptr id g (off + n.toNat * P.cellsOf e)) (v := .pointer (some ⟨L.blk, L.base + (off - L.lo) + n.toNat * P.cellsOf e, none⟩)) ?_
    ⟨L, hL, by omega, by rw [show L.base + (off - L.lo) + n.toNat * P.cellsOf e = L.base + (off + n.toNat * P.cellsOf e - L.lo) by omega]⟩ h2
  simp [execOp, ho, ev, ei, Instr.indexAt, asIntOf, run_underlying ht, hlt, run_sizeOf hie, cellsOf_eq hie, addr_add, Instr.sureAddr]

theorem op_indexStr {t : TypeId} {x i : Operand} (ho : o.op = .index t x i) (ht : P.underlying t = some .string) (hR : R w0 ρ H w) (hle : h.le H) (hs : SRel ρ s a)
    (hop : A.pv (V.idxStr (evS s x) (evS s i)) fun v => K v h) : OpOk P w0 ρ h H K o a w Q := by
  obtain ⟨r, h1, h2⟩ := pv_some hop
  have hx := evS_rel hs x
  have hy := evS_rel hs i
  unfold V.idxStr at h1
  split at h1 <;> (try (cases h1; done))
  rename_i l k n he hk
  split at h1 <;> (try (cases h1; done))
  rename_i hn
  split at h1 <;> (try (cases h1; done))
  rename_i b hb
  cases h1
  rw [he] at hx
  rw [hk] at hy
  obtain ⟨bs, ev, rfl⟩ := hx
  have ei : a.eval i = .int k n := hy
  have hget : bs[n.toNat]? = some b := by
    have hlt : n.toNat < bs.data.toList.length := (List.getElem?_eq_some_iff.1 hb).1
    have hlt' : n.toNat < bs.size := hlt
    have h3 : bs.data.toList[n.toNat] = b := by have := List.getElem?_eq_getElem hlt; rw [this] at hb; exact Option.some.inj hb
    rw [getElem?_pos bs n.toNat hlt']
    exact congrArg some h3
  refine ok_pure hR hle (x := .int .u8 b.toNat) (v := .int .u8 b.toNat) ?_ rfl h2
  simp [execOp, ho, ev, ei, Instr.index, asIntOf, run_underlying ht, hn, hget]

theorem op_extract {x : Operand} {i : Nat} (ho : o.op = .extract x i) (hR : R w0 ρ H w) (hle : h.le H) (hs : SRel ρ s a) (hop : A.pv (V.ext i (evS s x)) fun v => K v h) : OpOk P w0 ρ h H K o a w Q := by
  obtain ⟨r, h1, h2⟩ := pv_some hop
  have hx := evS_rel hs x
  unfold V.ext at h1
  split at h1 <;> (try (cases h1; done))
  rename_i vs he
  rw [he] at hx
  obtain ⟨l, e, hv⟩ := hx
  obtain ⟨u, k1, k2⟩ := hv.get h1
  exact ok_pure hR hle (x := r) (v := u) (by simp [execOp, ho, e, Instr.extract, k1]) k2 h2

theorem op_makeFunc {f : FuncId} {first caps : Array Operand} (ho : o.op = .makeFunc (.func f) first caps) (hR : R w0 ρ H w) (hle : h.le H) (hs : SRel ρ s a)
    (hop : K (.fn f (first.toList.map (evS s)) (caps.toList.map (evS s))) h) : OpOk P w0 ρ h H K o a w Q := by
  refine ok_pure hR hle (x := .fn f (first.toList.map (evS s)) (caps.toList.map (evS s))) (v := .func (.func f) (first.map a.eval) (caps.map a.eval)) (by simp [execOp, ho, Instr.makeFunc]) ⟨first.toList.map a.eval, caps.toList.map a.eval, ?_, evSs_rel hs _, evSs_rel hs _⟩ hop
  congr 1 <;> (apply Array.ext'; simp)

theorem asNat_rel {x : AVal} {v : Value} {n : Nat} (hx : VRel ρ x v) (h : V.asNat x = some n) : ∃ k, v = .int k n := by
  unfold V.asNat at h
  split at h <;> (try (cases h; done))
  rename_i k m
  split at h <;> (try (cases h; done))
  rename_i hm
  cases h
  exact ⟨k, by rw [show ((m.toNat : Nat) : Int) = m by omega]; exact hx⟩

/-- The ends of a cut within a length that is no more than the room there is. -/
theorem ends_run {isS : Bool} {n cp room : Nat} (hroom : max n cp ≤ room) {lo hi : Option AVal} {lv hv : Option Value} (hlo : ∀ x, lo = some x → ∃ v, lv = some v ∧ VRel ρ x v) (hhi : ∀ x, hi = some x → ∃ v, hv = some v ∧ VRel ρ x v)
    (hlo0 : lo = none → lv = none) (hhi0 : hi = none → hv = none) {l m : Nat} (h : V.endsC n cp lo hi = some (l, m)) :
    (Instr.sliceBounds isS n room lv hv none).run P w = .ok (l, m, room) w ∧ l ≤ m ∧ m ≤ max n cp := by
  unfold V.endsC at h
  split at h <;> (try (cases h; done))
  rename_i hn ln e1 e2
  split at h <;> (try (cases h; done))
  rename_i hlt
  cases h
  refine ⟨?_, hlt⟩
  have H1 : hv = none ∧ m = n ∨ ∃ k, hv = some (.int k m) := by
    cases hi with
    | none => simp at e1; exact .inl ⟨hhi0 rfl, e1.symm⟩
    | some x => simp at e1; obtain ⟨v, hv', hr⟩ := hhi x rfl; obtain ⟨k, hk⟩ := asNat_rel hr e1; exact .inr ⟨k, by rw [hv', hk]⟩
  have H2 : lv = none ∧ l = 0 ∨ ∃ k, lv = some (.int k l) := by
    cases lo with
    | none => simp at e2; exact .inl ⟨hlo0 rfl, e2.symm⟩
    | some x => simp at e2; obtain ⟨v, hv', hr⟩ := hlo x rfl; obtain ⟨k, hk⟩ := asNat_rel hr e2; exact .inr ⟨k, by rw [hv', hk]⟩
  have c1 : m ≤ room := by omega
  have c2 : l ≤ m := hlt.1
  rcases H1 with ⟨rfl, rfl⟩ | ⟨k, rfl⟩ <;> rcases H2 with ⟨rfl, rfl⟩ | ⟨k', rfl⟩ <;> simp [Instr.sliceBounds, Instr.sliceBound, asIntOf, c1, c2]

theorem op_rel {x : Option Operand} (hs : SRel ρ s a) : (∀ y, x.map (evS s) = some y → ∃ v, x.map a.eval = some v ∧ VRel ρ y v) ∧ (x.map (evS s) = none → x.map a.eval = none) := by
  cases x with
  | none => simp
  | some x => exact ⟨fun y hy => ⟨a.eval x, rfl, by cases hy; exact evS_rel hs x⟩, by simp⟩

theorem op_cutStr {t : TypeId} {x : Operand} {lo hi : Option Operand} (ho : o.op = .slice t x lo hi none) (ht : P.underlying t = some .string) (hR : R w0 ρ H w) (hle : h.le H) (hs : SRel ρ s a)
    (hop : A.pv (V.cutStr (evS s x) (lo.map (evS s)) (hi.map (evS s))) fun v => K v h) : OpOk P w0 ρ h H K o a w Q := by
  obtain ⟨r, h1, h2⟩ := pv_some hop
  have hx := evS_rel hs x
  unfold V.cutStr at h1
  split at h1 <;> (try (cases h1; done))
  rename_i l he
  split at h1 <;> (try (cases h1; done))
  rename_i m n hen
  cases h1
  rw [he] at hx
  obtain ⟨bs, ev, rfl⟩ := hx
  obtain ⟨r1, _, _⟩ := ends_run (P := P) (w := w) (isS := false) (n := bs.data.toList.length) (cp := bs.data.toList.length) (room := bs.data.toList.length) (by omega) (op_rel hs).1 (op_rel hs).1 (op_rel hs).2 (op_rel hs).2 hen
  have hsz : bs.data.toList.length = bs.size := rfl
  rw [hsz] at r1
  refine ok_pure hR hle (x := .str ((bs.data.toList.take n).drop m)) (v := .string (bs.extract m n)) ?_ ⟨_, rfl, ?_⟩ h2
  · simp [execOp, ho, ev, Instr.sliceAt, Instr.slice, run_underlying ht, r1]
  · rw [ByteArray.data_extract, Array.toList_extract, List.extract_eq_take_drop, List.drop_take]

theorem op_cutSl {t e : TypeId} {x : Operand} {lo hi : Option Operand} (ho : o.op = .slice t x lo hi none) (ht : P.underlying t = some (.slice e)) (hie : ∃ i, P.info? e = some i) (hR : R w0 ρ H w) (hle : h.le H) (hs : SRel ρ s a)
    (hop : A.pv (V.cutSl (P.cellsOf e) (evS s x) (lo.map (evS s)) (hi.map (evS s))) fun v => K v h) : OpOk P w0 ρ h H K o a w Q := by
  obtain ⟨r, h1, h2⟩ := pv_some hop
  have hx := evS_rel hs x
  obtain ⟨ie, hie⟩ := hie
  unfold V.cutSl at h1
  split at h1 <;> (try (cases h1; done))
  · rename_i id g off n es cp he
    split at h1 <;> (try (cases h1; done))
    rename_i l m hen
    split at h1 <;> (try (cases h1; done))
    rename_i hes
    subst hes
    cases h1
    rw [he] at hx
    obtain ⟨L, hL, hlo, ⟨cap, ev, c1, c2, c3, c4⟩ | ⟨rfl, rfl, ad, ev⟩⟩ := hx
    · obtain ⟨r1, b1, b2⟩ := ends_run (P := P) (w := w) (isS := true) (room := cap) (by omega) (op_rel hs).1 (op_rel hs).1 (op_rel hs).2 (op_rel hs).2 hen
      by_cases hcl : cap = l
      · subst hcl
        refine ok_pure hR hle (x := .sl id g (off + cap * P.cellsOf e) (m - cap) (P.cellsOf e) (cp - cap)) (v := .slice (some ⟨L.blk, L.base + (off - L.lo), none⟩) (m - cap) (cap - cap)) ?_
          ⟨L, hL, by omega, .inr ⟨by omega, by omega, ⟨L.blk, L.base + (off - L.lo), none⟩, by rw [show m - cap = 0 by omega, show cap - cap = 0 by omega]⟩⟩ h2
        simp [execOp, ho, ev, Instr.sliceAt, Instr.slice, run_underlying ht, r1, run_sizeOf hie]
      · refine ok_pure hR hle (x := .sl id g (off + l * P.cellsOf e) (m - l) (P.cellsOf e) (cp - l)) (v := .slice (some ⟨L.blk, L.base + (off - L.lo) + l * P.cellsOf e, none⟩) (m - l) (cap - l)) ?_
          ⟨L, hL, by omega, .inl ⟨cap - l, by rw [show L.base + (off - L.lo) + l * P.cellsOf e = L.base + (off + l * P.cellsOf e - L.lo) by omega], by omega, ?_, by omega, by omega⟩⟩ h2
        · simp [execOp, ho, ev, Instr.sliceAt, Instr.slice, run_underlying ht, r1, run_sizeOf hie, hcl, cellsOf_eq hie, addr_add]
        · have : (cap - l) * P.cellsOf e + l * P.cellsOf e = cap * P.cellsOf e := by rw [← Nat.add_mul, show cap - l + l = cap by omega]
          omega
    · obtain ⟨r1, b1, b2⟩ := ends_run (P := P) (w := w) (isS := true) (room := 0) (by omega) (op_rel hs).1 (op_rel hs).1 (op_rel hs).2 (op_rel hs).2 hen
      have hl : l = 0 := by omega
      have hm : m = 0 := by omega
      subst hl; subst hm
      refine ok_pure hR hle (x := .sl id g (off + 0 * P.cellsOf e) (0 - 0) (P.cellsOf e) (0 - 0)) (v := .slice (some ad) 0 0) ?_ ⟨L, hL, by omega, .inr ⟨rfl, rfl, ad, rfl⟩⟩ h2
      simp [execOp, ho, ev, Instr.sliceAt, Instr.slice, run_underlying ht, r1, run_sizeOf hie]
  · rename_i he
    split at h1 <;> (try (cases h1; done))
    rename_i lm hen
    obtain ⟨l, m⟩ := lm
    cases h1
    rw [he] at hx
    obtain ⟨ad, ev⟩ := hx
    obtain ⟨r1, b1, b2⟩ := ends_run (P := P) (w := w) (isS := true) (room := 0) (by omega) (op_rel hs).1 (op_rel hs).1 (op_rel hs).2 (op_rel hs).2 hen
    have hl : l = 0 := by omega
    have hm : m = 0 := by omega
    subst hl; subst hm
    refine ok_pure hR hle (x := .sz) (v := .slice (some ad) 0 0) ?_ ⟨ad, rfl⟩ h2
    simp [execOp, ho, ev, Instr.sliceAt, Instr.slice, run_underlying ht, r1, run_sizeOf hie]
  · rename_i he
    split at h1 <;> (try (cases h1; done))
    rename_i lm hen
    obtain ⟨l, m⟩ := lm
    cases h1
    rw [he] at hx
    have ev : a.eval x = .slice none 0 0 := hx
    obtain ⟨r1, b1, b2⟩ := ends_run (P := P) (w := w) (isS := true) (room := 0) (by omega) (op_rel hs).1 (op_rel hs).1 (op_rel hs).2 (op_rel hs).2 hen
    have hl : l = 0 := by omega
    have hm : m = 0 := by omega
    subst hl; subst hm
    refine ok_pure hR hle (x := .nils) (v := .slice none 0 0) ?_ rfl h2
    simp [execOp, ho, ev, Instr.sliceAt, Instr.slice, run_underlying ht, r1, run_sizeOf hie]
end
end Go.Ab
