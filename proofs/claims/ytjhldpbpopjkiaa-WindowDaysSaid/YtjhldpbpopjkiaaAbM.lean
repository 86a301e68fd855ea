/- What is proved: conversions, new slices, builtins and calls do what is told in the abstract memory. -/
import Derived.Test.YtjhldpbpopjkiaaAbL
import Derived.Laws.IdiomStrings
import Derived.Laws.MakeOwn
namespace Go.Ab
open Go.RowKit (Below)

section
variable {P : Program} {w0 : World} {ρ : Locs} {h H : AHeap} {w : World} {s : Slots} {a : Act} {K : AVal → AHeap → Prop} {o : Oper} {Q : Exit → Act → World → Prop}

theorem sliceBound_zero {v : Value} {n : Nat} {code : BoundsCode} (hv : ∃ k, v = .int k (0 : Nat)) : (Instr.sliceBound v n code).run P w = .ok 0 w := by
  obtain ⟨k, rfl⟩ := hv
  simp [Instr.sliceBound, asIntOf]

theorem op_cut0 {t e : TypeId} {x mx : Operand} {lo hi : Option Operand} {lv hv : AVal} (ho : o.op = .slice t x lo hi (some mx)) (ht : P.underlying t = some (.slice e)) (hie : ∃ i, P.info? e = some i) (hR : R w0 ρ H w) (hle : h.le H) (hs : SRel ρ s a)
    (hlo : (lo = none) ∨ ∃ y, lo = some y ∧ VRel ρ lv (a.eval y)) (hhi : ∃ y, hi = some y ∧ VRel ρ hv (a.eval y))
    (hop : A.pv (V.cut0 (evS s x) lv hv (evS s mx)) fun v => K v h) : OpOk P w0 ρ h H K o a w Q := by
  obtain ⟨r, h1, h2⟩ := pv_some hop
  have hx := evS_rel hs x
  obtain ⟨ie, hie⟩ := hie
  obtain ⟨yh, rfl, rh⟩ := hhi
  have main : ∀ (ad : Option Addr) (n c : Nat) (k0 : V.asNat lv = some 0) (k1 : V.asNat hv = some 0) (k2 : V.asNat (evS s mx) = some 0), a.eval x = .slice ad n c →
      (execOp a.eval o).run P w = .ok (.value (.slice ad 0 0)) w := by
    intro ad n c k0 k1 k2 ev
    have z1 := asNat_rel rh k1
    have z2 := asNat_rel (evS_rel hs mx) k2
    rcases hlo with rfl | ⟨y, rfl, ry⟩
    · simp [execOp, ho, ev, Instr.sliceAt, Instr.slice, run_underlying ht, Instr.sliceBounds, sliceBound_zero z1, sliceBound_zero z2, run_sizeOf hie]
    · simp [execOp, ho, ev, Instr.sliceAt, Instr.slice, run_underlying ht, Instr.sliceBounds, sliceBound_zero z1, sliceBound_zero z2, sliceBound_zero (asNat_rel ry k0), run_sizeOf hie]
  unfold V.cut0 at h1
  split at h1 <;> (try (cases h1; done))
  · rename_i he k0 k1 k2
    cases h1
    rw [he] at hx
    obtain ⟨ad, c, ev⟩ := rel_sl hx
    exact ok_pure hR hle (x := .sz) (main _ _ _ k0 k1 k2 ev) ⟨ad, rfl⟩ h2
  · rename_i he k0 k1 k2
    cases h1
    rw [he] at hx
    obtain ⟨ad, ev⟩ := hx
    exact ok_pure hR hle (x := .sz) (main _ _ _ k0 k1 k2 ev) ⟨ad, rfl⟩ h2
  · rename_i he k0 k1 k2
    cases h1
    rw [he] at hx
    have ev : a.eval x = .slice none 0 0 := hx
    exact ok_pure hR hle (x := .nils) (main _ _ _ k0 k1 k2 ev) rfl h2

theorem isU8_spec {e : TypeId} (h : isU8 P e = true) : P.underlying e = some (.int .u8) ∧ P.cellsOf e = 1 := by
  unfold isU8 at h
  split at h
  · rename_i he; exact ⟨he, by simpa using h⟩
  · cases h

theorem bytesOf_vals : ∀ {cs : List AVal} {bs : List UInt8} {l : List Value}, V.bytesOf? cs = some bs → VRels ρ cs l → ∃ ns : List Int, l = ns.map (Value.int .u8) ∧ bs = ns.map fun n => UInt8.ofNat n.toNat
  | [], bs, l, h, hv => by cases h; cases hv; exact ⟨[], rfl, rfl⟩
  | x :: cs, bs, l, h, ⟨u, us, e, hu, hv⟩ => by
    subst e
    simp only [V.bytesOf?] at h
    split at h <;> (try (cases h; done))
    rename_i b l' hb hl
    cases h
    obtain ⟨ns, rfl, rfl⟩ := bytesOf_vals hl hv
    unfold V.byteOf? at hb
    split at hb <;> (try (cases hb; done))
    rename_i n
    cases hb
    cases hu
    exact ⟨n :: ns, rfl, rfl⟩

theorem foldl_push : ∀ (ns : List Int) (r : ByteArray), (ns.foldl (fun r n => r.push (UInt8.ofNat n.toNat)) r).data.toList = r.data.toList ++ ns.map fun n => UInt8.ofNat n.toNat
  | [], r => by simp
  | n :: ns, r => by
    rw [List.foldl_cons, foldl_push ns]
    simp [ByteArray.push]

theorem op_convert {src dst : TypeId} {x : Operand} (ho : o.op = .convert src dst x) (hR : R w0 ρ H w) (hle : h.le H) (hs : SRel ρ s a) (hop : opWp P (AC P) (.convert src dst x) s h K) : OpOk P w0 ρ h H K o a w Q := by
  have hx := evS_rel hs x
  simp only [opWp] at hop
  split at hop
  · rename_i k1 k2 hs' hd'
    obtain ⟨r, h1, h2⟩ := pv_some hop
    unfold V.toInt at h1
    split at h1 <;> (try (cases h1; done))
    rename_i k n he
    cases h1
    rw [he] at hx
    have ev : a.eval x = .int k n := hx
    exact ok_pure hR hle (x := .int k2 (k2.wrap n)) (v := .int k2 (k2.wrap n)) (by simp [execOp, ho, ev, convert, run_underlying hs', run_underlying hd', Conv.intToInt]) rfl h2
  · rename_i hs' hd'
    obtain ⟨r, h1, h2⟩ := pv_some hop
    unfold V.strStr at h1
    split at h1 <;> (try (cases h1; done))
    rename_i b he
    cases h1
    rw [he] at hx
    obtain ⟨bs, ev, hb⟩ := hx
    exact ok_pure hR hle (x := .str b) (v := .string bs) (by simp [execOp, ho, ev, convert, run_underlying hs', run_underlying hd']) ⟨bs, rfl, hb⟩ h2
  · rename_i e hs' hd'
    cases hu : isU8 P e with
    | false => simp [hu] at hop
    | true =>
      simp only [hu, cond_true] at hop
      obtain ⟨he, _⟩ := isU8_spec hu
      unfold A.bytesStr at hop
      split at hop
      · rename_i n hn
        split at hop
        · rename_i cs hcs
          split at hop
          · rename_i bs hbs
            obtain ⟨l, hl, hv, _, hf, hor⟩ := rdv_sound (P := P) hR hle hcs hx
            obtain ⟨ns, rfl, rfl⟩ := bytesOf_vals hbs hv
            have hf' := hf w (fun _ _ _ hh => hh)
            simp only [Nat.mul_one, List.length_map] at hl
            -- what the model reads: all of the slice
            have hlen : ∀ ad m c, a.eval x = .slice (some ad) m c → m = n := by
              intro ad m c ev
              unfold A.srcLen at hn
              rw [ev] at hx
              split at hn <;> (try (cases hn; done))
              · rename_i he'; rw [he'] at hx; cases hx
              · rename_i he'; rw [he'] at hx; cases hn; obtain ⟨_, hx⟩ := hx; cases hx; rfl
              · rename_i he'; rw [he'] at hx; cases hn; obtain ⟨_, _, hx⟩ := rel_sl hx; cases hx; rfl
              · rename_i he'; rw [he'] at hx; obtain ⟨_, hx, _⟩ := hx; cases hx
            have hnil : ∀ m c, a.eval x = .slice none m c → n = 0 := by
              intro m c ev
              unfold A.srcLen at hn
              rw [ev] at hx
              split at hn <;> (try (cases hn; done))
              · cases hn; rfl
              · cases hn; rfl
              · rename_i he'; rw [he'] at hx; obtain ⟨_, _, hx⟩ := rel_sl hx; cases hx
              · rename_i he'; rw [he'] at hx; obtain ⟨_, hx, _⟩ := hx; cases hx
            have hsl : ∃ ad m c, a.eval x = .slice ad m c := by
              unfold A.srcLen at hn
              split at hn <;> (try (cases hn; done))
              · rename_i he'; rw [he'] at hx; exact ⟨_, _, _, hx⟩
              · rename_i he'; rw [he'] at hx; obtain ⟨_, hx⟩ := hx; exact ⟨_, _, _, hx⟩
              · rename_i he'; rw [he'] at hx; obtain ⟨_, _, hx⟩ := rel_sl hx; exact ⟨_, _, _, hx⟩
              · rename_i he'; rw [he'] at hcs; simp [A.rdv] at hcs
            obtain ⟨ad, m, c, ev⟩ := hsl
            cases ad with
            | none =>
              have := hnil m c ev
              have hns : ns = [] := List.eq_nil_of_length_eq_zero (by omega)
              subst hns
              refine ok_pure hR hle (x := .str []) (v := .string .empty) ?_ ⟨_, rfl, rfl⟩ hop
              simp [execOp, ho, ev, run_convert_bytes_string w src dst e _ _ _ hs' he hd', Conv.bytesToString]
            | some ad =>
              have hm := hlen ad m c ev
              subst hm
              rw [ev] at hf'
              simp only [Builtin.firstCells, Nat.mul_one] at hf'
              refine ok_pure hR hle (x := .str (ns.map fun n => UInt8.ofNat n.toNat)) (v := .string (ns.foldl (fun r n => r.push (UInt8.ofNat n.toNat)) ByteArray.empty)) ?_ ⟨_, rfl, by rw [foldl_push]; rfl⟩ hop
              simp [execOp, ho, ev, run_convert_bytes_string w src dst e _ _ _ hs' he hd', run_bytesToString w ad m c ns hf']
          · exact hop.elim
        · exact hop.elim
      · exact hop.elim
  · rename_i e hs' hd'
    cases hu : isU8 P e with
    | false => simp [hu] at hop
    | true =>
      simp only [hu, cond_true] at hop
      obtain ⟨he, _⟩ := isU8_spec hu
      unfold A.strBytes at hop
      split at hop
      · rename_i l hl
        rw [hl] at hx
        obtain ⟨bs, ev, rfl⟩ := hx
        obtain ⟨hsm, hn⟩ := hop
        have hg := grownCap_ge w bs.size 0 e
        have hgm : grownCap w bs.size 0 e ≤ maxLen := grownCap_le_maxLen w bs.size 0 e (by
          have : bs.data.toList.length = bs.size := rfl
          simp only [maxLen]; omega)
        have hrow : (bytesRow bs (grownCap w bs.size 0 e)) = List.toArray ((bs.data.toList.map fun (b : UInt8) => Value.int .u8 b.toNat) ++ List.replicate (grownCap w bs.size 0 e - bs.size) (Value.int .u8 0)) := by
          apply Array.ext'; simp [bytesRow]
        have hsz : (bytesRow bs (grownCap w bs.size 0 e)).size = grownCap w bs.size 0 e := by
          have : bs.data.size = bs.size := rfl
          simp [bytesRow]; omega
        obtain ⟨id, ρ', m1, m2, m3, m4, m5, m6⟩ := after_new hR hle hn (bytesRow bs (grownCap w bs.size 0 e)) e (grownCap w bs.size 0 e, grownCap w bs.size 0 e + 1) (.inr (by rw [hsz]; exact Nat.le_refl _))
          (by have : bs.data.toList.length = bs.size := rfl
              simp only [List.length_map, hsz]; omega) (fun j x hx => by
            rw [hrow]
            refine cells_of (l := bs.data.toList.map fun b => Value.int .u8 b.toNat) ?_ (by intro u hu; simp only [List.mem_map] at hu; obtain ⟨b, _, rfl⟩ := hu; rfl) _ j x hx
            refine VRels.of_get (by simp) fun i a u ha hu => ?_
            simp only [List.getElem?_map] at ha hu
            cases hb : bs.data.toList[i]? with
            | none => rw [hb] at ha; cases ha
            | some b => rw [hb] at ha hu; cases ha; cases hu; rfl) (w.drawn + 1)
        have hrun := run_bytes_of_string w src dst e bs hs' hd' he
        rw [hsz] at hrun
        refine ok_value (v := .slice (some ⟨w.heap.size, 0, none⟩) bs.size (grownCap w bs.size 0 e)) (w' := w.drew.alloc (.cells (bytesRow bs (grownCap w bs.size 0 e)) e (grownCap w bs.size 0 e, grownCap w bs.size 0 e + 1)))
          (by simp [execOp, ho, ev, hrun]) ⟨⟨.sl id 0 0 bs.data.toList.length 1 bs.data.toList.length, ρ', _, _, m2, ⟨_, m3, Nat.le_refl _, .inl ⟨_, rfl, hg, by simp [hsz], hgm, hg⟩⟩, m1, m4, m5, m6⟩⟩
      · exact hop.elim
  · exact hop.elim

theorem op_makeSlice {t : TypeId} {l c : Operand} (ho : o.op = .makeSlice t l c) (hR : R w0 ρ H w) (hle : h.le H) (hs : SRel ρ s a) (hop : opWp P (AC P) (.makeSlice t l c) s h K) : OpOk P w0 ρ h H K o a w Q := by
  simp only [opWp] at hop
  split at hop
  · rename_i e he
    have ht : P.underlying t = some (.slice e) := by
      unfold elemOf? at he
      split at he
      · cases he; assumption
      · cases he
    obtain ⟨hpos, hop⟩ := hop
    unfold A.mks at hop
    split at hop
    · rename_i z kl n kc m hz hl hc
      obtain ⟨b1, b2, b3, b4, hn⟩ := hop
      have el : a.eval l = .int kl n := by have := evS_rel hs l; rw [hl] at this; exact this
      have ec : a.eval c = .int kc m := by have := evS_rel hs c; rw [hc] at this; exact this
      obtain ⟨it, zv, hit, hzv, hv, hone, hlen, hsz, _, _⟩ := zeroOf_spec (ρ := ρ) hz
      have hce := cellsOf_eq hit
      rw [repL_eq] at hn
      have hrow := zero_row (n := m.toNat) hsz (by omega)
      have hzl : zv.cells.toList.length = z.length := hv.length.symm
      have hb : P.bytesOf e = it.bytes := by simp [Program.bytesOf, hit]
      obtain ⟨id, ρ', m1, m2, m3, m4, m5, m6⟩ := after_new hR hle hn ((List.replicate m.toNat zv.cells.toList).flatten).toArray e (0, 0) (.inl (Nat.le_refl _))
        (by simp only [List.length_flatten, List.map_replicate, List.sum_replicate_nat, List.size_toArray, hzl]
            exact Nat.le_refl _)
        (fun j x hx => by
          have := cells_of (VRels.rep hv m.toNat) (fun u hu => by
            simp only [List.mem_flatten, List.mem_replicate] at hu
            obtain ⟨l, ⟨_, rfl⟩, hu⟩ := hu
            exact hone u hu) [] j x hx
          simpa using this) w.drawn
      have wl : IntKind.i64.wrap n = n := by rw [IntKind.wrap_i64]; omega
      have wc : IntKind.i64.wrap m = m := by rw [IntKind.wrap_i64]; omega
      refine ok_value (v := .slice (some ⟨w.heap.size, 0, none⟩) n.toNat m.toNat) (w' := w.alloc (.cells ((List.replicate m.toNat zv.cells.toList).flatten).toArray e)) ?_
        ⟨⟨.sl id 0 0 n.toNat z.length m.toNat, ρ', _, _, m2, ⟨_, m3, Nat.le_refl _, .inl ⟨_, rfl, by omega, ?_, by simp only [maxLen]; omega, Nat.le_refl _⟩⟩, m1, m4, m5, m6⟩⟩
      · have hm : madeCells zv.cells (m.toNat * it.size) = ((List.replicate m.toNat zv.cells.toList).flatten).toArray := hrow
        have hr := run_make (P := P) w t e it zv ht hit hzv kl kc n m b1 b2 (by rw [← hb, Int.mul_comm]; exact b3) b4
        rw [hm] at hr
        simp [execOp, ho, el, ec, hr]
      · simp only [List.length_flatten, List.map_replicate, List.sum_replicate_nat, List.size_toArray, hzl]
        simp
    · exact hop.elim
  · exact hop.elim
end
end Go.Ab
