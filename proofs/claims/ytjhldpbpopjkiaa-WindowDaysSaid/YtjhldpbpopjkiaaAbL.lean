/- What is proved: literals, new slices, conversions and the builtins but append and copy do what is told in the abstract memory. -/
import Derived.Test.YtjhldpbpopjkiaaAbK
namespace Go.Ab
open Go.RowKit (Below)

/-- A new block that nothing is told of. -/
theorem R.push {w0 : World} {ρ : Locs} {H : AHeap} {w : World} (h : R w0 ρ H w) (o : Obj) : R w0 ρ H { w with heap := w.heap.push o } where
  below := h.below.trans ⟨rfl, rfl, rfl, by simp, fun k hk => by
      have := h.below.size
      show (w.heap.push _)[k]? = _
      rw [Array.getElem?_push, if_neg (by omega)]⟩
  fin := h.fin
  blk := fun id b e => by
    have hold : ∀ k o', w.heap[k]? = some o' → (w.heap.push o)[k]? = some o' := fun k o' hk => by
      rw [Array.getElem?_push]
      have : k < w.heap.size := (Array.getElem?_eq_some_iff.1 hk).1
      rw [if_neg (by omega)]; exact hk
    have k := h.blk id b e
    refine ⟨k.nxt, fun g hi hm => ?_, k.align, fun o' ho => ?_⟩
    · obtain ⟨h0, L, arr, e', fr, h1, h2, h3⟩ := k.gen g hi hm
      exact ⟨h0, L, arr, e', fr, h1, hold _ _ h2, h3⟩
    · obtain ⟨h0, L, ob, h1, h2, h3, h4, h5, h6⟩ := k.obj o' ho
      exact ⟨h0, L, ob, h1, h2, h3, h4, hold _ _ h5, h6⟩
  sep := h.sep
  osep := h.osep

section
variable {P : Program} {w0 : World} {ρ : Locs} {h H : AHeap} {w : World} {s : Slots} {a : Act} {K : AVal → AHeap → Prop} {o : Oper} {Q : Exit → Act → World → Prop}

theorem isAggB_one {t : TypeId} {z : Option Nat} (h : partOf P t = some z) : z.getD 1 = P.cellsOf t := by
  unfold partOf at h
  cases hb : isAggB P t with
  | true => simp [hb] at h; subst h; rfl
  | false =>
    simp only [hb, cond_false] at h
    cases hc : Nat.beq (P.cellsOf t) 1 with
    | true => simp [hc] at h; subst h; exact (Nat.eq_of_beq_eq_true hc).symm
    | false => simp [hc] at h

theorem placesS_rel (hs : SRel ρ s a) {fs : Array Field} {place : Nat → Option (Nat × Nat)} (hp : ∀ i f, fs[i]? = some f → place i = some (f.offset, P.cellsOf f.type)) :
    ∀ (parts : List (Nat × Operand)) (ps : List (Nat × Option Nat × AVal)), placesS P fs (parts.map fun p => (p.1, evS s p.2)) = some ps → PartsRel ρ place ps (parts.map fun p => (p.1, a.eval p.2))
  | [], ps, h => by simp [placesS] at h; subst h; rfl
  | (i, x) :: r, ps, h => by
    simp only [List.map_cons, placesS] at h
    split at h <;> (try (cases h; done))
    rename_i f l hf hl
    split at h <;> (try (cases h; done))
    rename_i z hz
    cases h
    exact ⟨(i, a.eval x), _, rfl, ⟨by rw [isAggB_one hz]; exact hp i f hf, evS_rel hs x⟩, placesS_rel hs hp r l hl⟩

theorem placesE_rel (hs : SRel ρ s a) {n : Nat} {z : Option Nat} (hz : z.getD 1 = n) :
    ∀ (parts : List (Nat × Operand)), PartsRel ρ (fun i => some (i * n, n)) (placesE n z (parts.map fun p => (p.1, evS s p.2))) (parts.map fun p => (p.1, a.eval p.2))
  | [] => rfl
  | (i, x) :: r => ⟨(i, a.eval x), _, rfl, ⟨by simp only; rw [hz], evS_rel hs x⟩, placesE_rel hs hz r⟩

theorem joinL_mem : ∀ {l : List (Option (List AVal))} {r : List AVal}, joinL l = some r → ∀ x ∈ l, ∃ y, x = some y
  | [], _, _, x, hx => by simp at hx
  | none :: _, _, h, _, _ => by simp [joinL] at h
  | some a :: l, r, h, x, hx => by
    simp only [joinL] at h
    split at h
    · rename_i m hm
      rcases List.mem_cons.1 hx with rfl | hx
      · exact ⟨a, rfl⟩
      · exact joinL_mem hm x hx
    · cases h

theorem zeroAt_info {d : Nat} {t : TypeId} {cs : List AVal} (h : zeroAt P d t = some cs) : ∃ i, P.info? t = some i := by
  cases d with
  | zero => simp [zeroAt] at h
  | succ d =>
    simp only [zeroAt] at h
    cases hu : P.underlying t with
    | none => simp [hu] at h
    | some dd => exact info_of_underlying hu

theorem mapM_all {α β : Type} {f : α → Option β} {g : α → β} : ∀ (l : List α), (∀ x ∈ l, f x = some (g x)) → l.mapM f = some (l.map g)
  | [], _ => rfl
  | x :: l, h => by rw [List.mapM_cons, h x (by simp), mapM_all l (fun y hy => h y (by simp [hy]))]; rfl

theorem fillL_length : ∀ {ps : List (Nat × Option Nat × AVal)} {cs cs' : List AVal}, fillL ps cs = some cs' → cs'.length = cs.length
  | [], _, _, h => by cases h; rfl
  | (off, none, v) :: r, cs, cs', h => by
    simp only [fillL] at h
    split at h <;> (try (cases h; done))
    rename_i c1 hc
    rw [fillL_length h]
    unfold V.put1 at hc
    cases hv : v.isCell with
    | false => simp [hv] at hc
    | true =>
      simp only [hv, cond_true] at hc
      split at hc <;> (try (cases hc; done))
      cases hc; simp
  | (off, some n, v) :: r, cs, cs', h => by
    simp only [fillL] at h
    split at h <;> (try (cases h; done))
    rename_i c1 hc
    rw [fillL_length h]
    unfold V.putN at hc
    split at hc <;> (try (cases hc; done))
    split at hc <;> (try (cases hc; done))
    rename_i hh
    cases hc
    simp only [List.length_append, List.length_take, List.length_drop]; omega

theorem zeroAt_struct {d : Nat} {t : TypeId} {fs : Array Field} (ht : P.underlying t = some (.struct fs)) : zeroAt P (d + 1) t = joinL (fs.toList.map fun f => zeroAt P d f.type) := by
  simp only [zeroAt, ht]
theorem zeroAt_array {d n : Nat} {t e : TypeId} {cs : List AVal} (ht : P.underlying t = some (.array n e)) (h : zeroAt P (d + 1) t = some cs) : ∃ l, zeroAt P d e = some l := by
  simp only [zeroAt, ht] at h
  cases hh : zeroAt P d e with
  | none => simp [hh] at h
  | some l => exact ⟨l, rfl⟩

theorem op_build {t : TypeId} {parts : Array (Nat × Operand)} (ho : o.op = .build t parts) (hR : R w0 ρ H w) (hle : h.le H) (hs : SRel ρ s a) (hop : opWp P (AC P) (.build t parts) s h K) : OpOk P w0 ρ h H K o a w Q := by
  simp only [opWp] at hop
  obtain ⟨r, h1, h2⟩ := pv_some hop
  split at h1 <;> (try (cases h1; done))
  rename_i z ps hz hps
  split at h1 <;> (try (cases h1; done))
  rename_i cs hcs
  cases h1
  obtain ⟨it, zv, hit, hzv, hv, hone, hlen, hsz, ⟨d, hd⟩, hza⟩ := zeroOf_spec (ρ := ρ) hz
  have key : ∀ place, PartsRel ρ place ps (parts.toList.map fun p => (p.1, a.eval p.2)) → P.built t (parts.toList.map fun p => (p.1, a.eval p.2)) = Instr.fill place zv.cells (parts.toList.map fun p => (p.1, a.eval p.2)) → OpOk P w0 ρ h H K o a w Q := by
    intro place hrel hb
    obtain ⟨l', k1, k2, k3⟩ := fill_sound place ps _ z cs zv.cells.toList hrel hcs hv hone
    rw [Array.toArray_toList] at k1
    refine ok_pure hR hle (x := .agg cs) (v := .agg l'.toArray) ?_ ⟨l', rfl, k2, k3⟩ h2
    have : P.built t (parts.map fun p => (p.1, a.eval p.2)).toList = some l'.toArray := by rw [Array.toList_map, hb, k1]
    simp [execOp, ho, run_build w t _ _ this]
  unfold placesOf at hps
  split at hps
  · rename_i fs ht
    have hza' := hza
    rw [show (12 : Nat) = 11 + 1 from rfl, zeroAt_struct ht] at hza'
    have hinfo : ∀ f ∈ fs.toList, ∃ i, P.info? f.type = some i := fun f hf => by
      obtain ⟨y, hy⟩ := joinL_mem hza' _ (List.mem_map.2 ⟨f, hf, rfl⟩)
      exact zeroAt_info hy
    have hm : fs.toList.mapM (fun f => (P.info? f.type).map fun i => (f.offset, i.size)) = some (fs.toList.map fun f => (f.offset, P.cellsOf f.type)) :=
      mapM_all _ fun f hf => by obtain ⟨i, hi⟩ := hinfo f hf; simp [hi, cellsOf_eq hi]
    refine key (fun i => (fs.toList.map fun f => (f.offset, P.cellsOf f.type)).toArray[i]?) (placesS_rel hs (fun i f hf => ?_) _ _ hps) ?_
    · have : fs.toList[i]? = some f := by simpa using hf
      simp [this]
    · simp only [Program.built, hit, ht, hzv, hm]
  · rename_i n e ht
    split at hps <;> (try (cases hps; done))
    rename_i z' hz'
    cases hps
    have : ∃ i, P.info? e = some i := by
      obtain ⟨l, hl⟩ := zeroAt_array (d := 11) ht hza
      exact zeroAt_info hl
    obtain ⟨ie, hie⟩ := this
    refine key (fun i => some (i * ie.size, ie.size)) (by rw [← cellsOf_eq hie]; exact placesE_rel hs (isAggB_one hz') _) ?_
    simp only [Program.built, hit, ht, hzv, hie]
  · cases hps

theorem repL_eq (n : Nat) (z : List AVal) : repL n z = (List.replicate n z).flatten := by
  have one : ∀ (x : AVal) (n : Nat), List.replicate n x = (List.replicate n [x]).flatten := fun x n => by
    induction n with
    | zero => rfl
    | succ n ih => rw [List.replicate_succ, List.replicate_succ, List.flatten_cons, ← ih]; rfl
  unfold repL
  split
  · exact one _ n
  · rfl

theorem info_of_part {t : TypeId} {z : Option Nat} (h : partOf P t = some z) : ∃ i, P.info? t = some i := by
  unfold partOf at h
  cases hi : P.info? t with
  | some i => exact ⟨i, rfl⟩
  | none =>
    have h1 : isAggB P t = false := by simp [isAggB, Program.underlying, hi]
    have h2 : P.cellsOf t = 0 := by simp [Program.cellsOf, hi]
    rw [h1, h2] at h
    exact absurd (show (none : Option (Option Nat)) = some z from h) (by simp)

theorem VRels.rep {z : List AVal} {l : List Value} (hv : VRels ρ z l) : ∀ n, VRels ρ (List.replicate n z).flatten (List.replicate n l).flatten
  | 0 => rfl
  | n + 1 => by simp only [List.replicate_succ, List.flatten_cons]; exact hv.append (VRels.rep hv n)

theorem range_mod (l : List Value) (hl : 0 < l.length) : ∀ n, (List.range (n * l.length)).map (fun i => l.toArray[i % l.length]!) = (List.replicate n l).flatten
  | 0 => by simp
  | n + 1 => by
    rw [List.replicate_succ', List.flatten_append, ← range_mod l hl n, Nat.succ_mul, List.range_add, List.map_append]
    congr 1
    simp only [List.map_map, List.flatten_cons, List.flatten_nil, List.append_nil]
    apply List.ext_getElem
    · simp
    · intro i h1 h2
      simp only [List.length_map, List.length_range] at h1
      simp [Nat.mod_eq_of_lt h1, h1]

theorem zero_row {z : Value} {n size : Nat} (hz : z.cells.size = size) (h0 : 0 < size) : ((Array.range (n * size)).map (z.cells[· % z.cells.size]!)) = ((List.replicate n z.cells.toList).flatten).toArray := by
  apply Array.ext'
  have := range_mod z.cells.toList (by simpa [hz] using h0) n
  simp only [Array.length_toList, hz, Array.toArray_toList] at this
  simp only [Array.toList_map, Array.toList_range, hz]
  exact this

theorem op_buildSlice {t : TypeId} {len : Nat} {parts : Array (Nat × Operand)} (ho : o.op = .buildSlice t len parts) (hR : R w0 ρ H w) (hle : h.le H) (hs : SRel ρ s a) (hop : opWp P (AC P) (.buildSlice t len parts) s h K) : OpOk P w0 ρ h H K o a w Q := by
  simp only [opWp] at hop
  split at hop
  · rename_i e he
    have ht : P.underlying t = some (.slice e) := by
      unfold elemOf? at he
      split at he
      · cases he; assumption
      · cases he
    split at hop
    · rename_i h0
      subst h0
      split at hop
      · rename_i pz hp hpz
        have hp' : parts = #[] := by apply Array.ext'; simpa using hp
        obtain ⟨ie, hi⟩ := info_of_part hpz
        · refine ok_value (v := .slice (some ⟨w.heap.size, 0, none⟩) 0 0) (w' := { w with heap := w.heap.push (.cells #[] e) }) ?_ ⟨⟨.sz, ρ, h, H, Locs.le_refl ρ, ⟨_, rfl⟩, hop, hle, Fr.refl h H, hR.push _⟩⟩
          have h0 : ∀ f : Nat → Value, Array.map f (Array.range 0) = #[] := fun f => by apply Array.ext'; simp
          simp [execOp, ho, Instr.buildSlice, run_underlying ht, run_sizeOf hi, hp', Instr.fill, newRow, h0]
      · exact hop.elim
    · rename_i hlen
      unfold A.newO at hop
      split at hop
      · rename_i cs hcs
        split at hcs <;> (try (cases hcs; done))
        rename_i z pz hz hpz
        cases hsm : (Nat.ble (len * P.cellsOf e) 16777216 && Nat.ble 1 (P.cellsOf e)) with
        | false => simp [hsm] at hcs
        | true =>
          simp only [hsm, cond_true] at hcs
          simp only [Bool.and_eq_true, Nat.ble_eq] at hsm
          obtain ⟨it, zv, hit, hzv, hv, hone, hl, hsz, ⟨d, hd⟩, hza⟩ := zeroOf_spec (ρ := ρ) hz
          have hce := cellsOf_eq hit
          have hrow := zero_row (n := len) hsz (by omega)
          rw [repL_eq] at hcs
          obtain ⟨l', k1, k2, k3⟩ := fill_sound (fun i => some (i * it.size, it.size)) _ (parts.toList.map fun p => (p.1, a.eval p.2)) _ cs ((List.replicate len zv.cells.toList).flatten)
            (by rw [← hce]; exact placesE_rel hs (isAggB_one hpz) _) hcs (VRels.rep hv len) (fun u hu => by
              simp only [List.mem_flatten, List.mem_replicate] at hu
              obtain ⟨l, ⟨_, rfl⟩, hu⟩ := hu
              exact hone u hu)
          have hlc := k2.length
          have hfl : l'.length = len * P.cellsOf e := by
            have := fillL_length hcs
            simp only [List.length_flatten, List.map_replicate, List.sum_replicate_nat] at this
            rw [← hlc, this, hl]
          obtain ⟨id, ρ', m1, m2, m3, m4, m5, m6⟩ := after_new hR hle hop l'.toArray e (0, 0) (.inl (Nat.le_refl _)) (by simp [hlc]) (by simpa using cells_of k2 k3 []) w.drawn
          refine ok_value (v := .slice (some ⟨w.heap.size, 0, none⟩) len len) ?_ ⟨⟨.sl id 0 0 len (P.cellsOf e) len, ρ', _, _, m2, ⟨_, m3, Nat.le_refl _, .inl ⟨len, rfl, Nat.le_refl _, by simp; omega, ?_, Nat.le_refl _⟩⟩, m1, m4, m5, m6⟩⟩
          · have hb := run_buildSlice (P := P) w t e len (parts.map fun p => (p.1, a.eval p.2)) l'.toArray it zv ht hit hzv (by rw [← hce]; have := hsm.1; omega) (by
              have : 0 < len * it.size := Nat.mul_pos (by omega) (by omega)
              omega) (by rw [hrow, Array.toList_map]; exact k1)
            simp only [execOp, ho, Sem.run_bind, hb, Result.andThen_ok, Sem.run_pure]
            rfl
          · have := hsm.1
            have h2 : len * 1 ≤ len * P.cellsOf e := Nat.mul_le_mul_left _ hsm.2
            simp only [maxLen]; omega
      · exact hop.elim
  · exact hop.elim
end
end Go.Ab
