/- What is proved: every operation that is told does in the model what is told of it; calls and code likewise. -/
import Derived.Test.YtjhldpbpopjkiaaAbP
namespace Go.Ab
open Go.RowKit (Below)

theorem bif_false {p q : Prop} {b : Bool} (h : bif b then p else q) : (b = true ∧ p) ∨ (b = false ∧ q) := by
  cases b
  · exact .inr ⟨rfl, h⟩
  · exact .inl ⟨rfl, h⟩

section
variable {P : Program} {w0 : World} {ρ : Locs} {h H : AHeap} {w : World} {s : Slots} {a : Act} {K : AVal → AHeap → Prop} {o : Oper} {Q : Exit → Act → World → Prop}

theorem info_of_cells {t : TypeId} (h : Nat.beq (P.cellsOf t) 0 = false) : ∃ i, P.info? t = some i := by
  cases hh : P.info? t with
  | none => simp [Program.cellsOf, hh] at h
  | some i => exact ⟨i, rfl⟩

theorem builtin_sound {c : Call} {b : Builtin} (ho : o.op = .call c) (hc : c.callee = .builtin b) (hR : R w0 ρ H w) (hle : h.le H) (hs : SRel ρ s a)
    (hop : builtinWp P b c.argTypes.toList (c.args.toList.map (evS s)) h K) : OpOk P w0 ρ h H K o a w Q := by
  unfold builtinWp at hop
  split at hop
  · -- len
    rename_i t r x e1 e2
    obtain ⟨x', ha, hx'⟩ : ∃ x', c.args.toList = [x'] ∧ evS s x' = x := by
      cases hl : c.args.toList with
      | nil => rw [hl] at e2; cases e2
      | cons y r => rw [hl] at e2; simp at e2; exact ⟨y, by rw [e2.2], e2.1⟩
    subst hx'
    exact op_len ho hc e1 ha hR hle hs hop
  · -- append
    rename_i t u x y e1 e2
    obtain ⟨x', y', ha, rfl, rfl⟩ : ∃ x' y', c.args.toList = [x', y'] ∧ evS s x' = x ∧ evS s y' = y := by
      cases hl : c.args.toList with
      | nil => rw [hl] at e2; cases e2
      | cons p r =>
        cases r with
        | nil => rw [hl] at e2; simp at e2
        | cons q r => rw [hl] at e2; simp at e2; exact ⟨p, q, by rw [e2.2.2], e2.1, e2.2.1⟩
    split at hop
    · rename_i e e' ht hu
      obtain ⟨hok, hop2⟩ := A.ok_iff.1 hop
      rw [Bool.and_eq_true, Bool.and_eq_true, Nat.blt_eq, Nat.beq_eq] at hok
      obtain ⟨hpos, rfl, hz⟩ := hok
      exact op_append ho hc (by apply Array.ext'; simpa using e1) (by apply Array.ext'; simpa using ha) ht hpos hz hR hle hs hop2
    · exact hop.elim
  · -- copy
    rename_i t u x y e1 e2
    obtain ⟨x', y', ha, rfl, rfl⟩ : ∃ x' y', c.args.toList = [x', y'] ∧ evS s x' = x ∧ evS s y' = y := by
      cases hl : c.args.toList with
      | nil => rw [hl] at e2; cases e2
      | cons p r =>
        cases r with
        | nil => rw [hl] at e2; simp at e2
        | cons q r => rw [hl] at e2; simp at e2; exact ⟨p, q, by rw [e2.2.2], e2.1, e2.2.1⟩
    split at hop
    · rename_i e ht
      obtain ⟨hok, hop2⟩ := A.ok_iff.1 hop
      rw [Bool.and_eq_true, Nat.blt_eq, Nat.beq_eq] at hok
      obtain ⟨_, hpos⟩ := hok
      exact op_copy ho hc e1 ha ht hpos hR hle hs hop2
    · exact hop.elim
  · rename_i x y e2
    obtain ⟨x', y', ha, rfl, rfl⟩ : ∃ x' y', c.args.toList = [x', y'] ∧ evS s x' = x ∧ evS s y' = y := by
      cases hl : c.args.toList with
      | nil => rw [hl] at e2; cases e2
      | cons p r =>
        cases r with
        | nil => rw [hl] at e2; simp at e2
        | cons q r => rw [hl] at e2; simp at e2; exact ⟨p, q, by rw [e2.2.2], e2.1, e2.2.1⟩
    exact op_minmax (.inl ⟨rfl, rfl⟩) ho hc ha hR hle hs hop
  · rename_i x y e2
    obtain ⟨x', y', ha, rfl, rfl⟩ : ∃ x' y', c.args.toList = [x', y'] ∧ evS s x' = x ∧ evS s y' = y := by
      cases hl : c.args.toList with
      | nil => rw [hl] at e2; cases e2
      | cons p r =>
        cases r with
        | nil => rw [hl] at e2; simp at e2
        | cons q r => rw [hl] at e2; simp at e2; exact ⟨p, q, by rw [e2.2.2], e2.1, e2.2.1⟩
    exact op_minmax (.inr ⟨rfl, rfl⟩) ho hc ha hR hle hs hop
  · exact hop.elim

theorem op_sound (hR : R w0 ρ H w) (hle : h.le H) (hs : SRel ρ s a) (hop : opWp P (AC P) o.op s h K) : OpOk P w0 ρ h H K o a w Q := by
  cases ho : o.op with
  | move x => rw [ho] at hop; exact op_move (.inl ho) hR hle hs hop
  | assign x => rw [ho] at hop; exact op_move (.inr ho) hR hle hs hop
  | pick c x y => rw [ho] at hop; exact op_pick ho hR hle hs hop
  | alloc t => rw [ho] at hop; exact op_alloc ho hR hle hop
  | box t x => rw [ho] at hop; exact op_box ho hR hle hs hop
  | build t ps => rw [ho] at hop; exact op_build ho hR hle hs hop
  | buildSlice t n ps => rw [ho] at hop; exact op_buildSlice ho hR hle hs hop
  | load t x =>
    rw [ho] at hop
    simp only [opWp] at hop
    split at hop
    · exact hop.elim
    · rename_i d hd
      rcases bif_false hop with ⟨hb, hop⟩ | ⟨hb, hop⟩
      · exact op_loadN ho hb hR hle hs hop
      · exact op_load1 ho hb ⟨d, hd⟩ hR hle hs hop
  | store t x v =>
    rw [ho] at hop
    simp only [opWp] at hop
    rcases bif_false hop with ⟨hb, hop⟩ | ⟨hb, hop⟩
    · have hd : ∃ i, P.info? t = some i := by
        unfold isAggB at hb
        cases hu : P.underlying t with
        | none => simp [hu] at hb
        | some d => exact info_of_underlying hu
      exact op_storeN ho hd hR hle hs hop
    · rcases bif_false hop with ⟨hc, hop⟩ | ⟨_, hop⟩
      · exact op_store1 ho (Nat.eq_of_beq_eq_true hc) hR hle hs hop
      · exact hop.elim
  | nilCheck x => rw [ho] at hop; exact op_nilCheck ho hR hle hs hop
  | binOp op t x y u => rw [ho] at hop; exact op_bin ho hR hle hs hop
  | unOp op t x => rw [ho] at hop; exact op_un ho hR hle hs hop
  | convert src dst x => rw [ho] at hop; exact op_convert ho hR hle hs hop
  | makeSlice t l c => rw [ho] at hop; exact op_makeSlice ho hR hle hs hop
  | slice t x lo hi mx =>
    rw [ho] at hop
    simp only [opWp] at hop
    split at hop
    · rename_i ht; exact op_cutStr ho ht hR hle hs hop
    · rename_i e ht
      rcases bif_false hop with ⟨_, hop⟩ | ⟨hb, hop⟩
      · exact hop.elim
      · exact op_cutSl ho ht (info_of_cells hb) hR hle hs hop
    · rename_i e mx ht
      rcases bif_false hop with ⟨_, hop⟩ | ⟨hb, hop⟩
      · exact hop.elim
      · split at hop
        · rename_i lo hi _
          exact op_cut0 ho ht (info_of_cells hb) hR hle hs (.inr ⟨lo, rfl, evS_rel hs lo⟩) ⟨hi, rfl, evS_rel hs hi⟩ hop
        · rename_i hi _
          exact op_cut0 ho ht (info_of_cells hb) hR hle hs (.inl rfl) ⟨hi, rfl, evS_rel hs hi⟩ hop
        · exact hop.elim
    · exact hop.elim
  | fieldAddr t x f =>
    rw [ho] at hop
    simp only [opWp] at hop
    split at hop
    · rename_i fs ht
      split at hop
      · rename_i fd hf
        rcases bif_false hop with ⟨_, hop⟩ | ⟨hb, hop⟩
        · exact hop.elim
        · exact op_fieldAddr ho ht hf hb hR hle hs hop
      · exact hop.elim
    · exact hop.elim
  | field t x f =>
    rw [ho] at hop
    simp only [opWp] at hop
    split at hop
    · rename_i fs ht
      split at hop
      · rename_i fd hf
        split at hop
        · exact hop.elim
        · rename_i d hd
          exact op_field ho ht hf hd hR hle hs hop
      · exact hop.elim
    · exact hop.elim
  | indexAddr t x i =>
    rw [ho] at hop
    simp only [opWp] at hop
    split at hop
    · rename_i e ht
      rcases bif_false hop with ⟨_, hop⟩ | ⟨hb, hop⟩
      · exact hop.elim
      · exact op_indexS ho ht hR hle hs (info_of_cells hb) hop
    · rename_i n e ht
      rcases bif_false hop with ⟨_, hop⟩ | ⟨hb, hop⟩
      · exact hop.elim
      · exact op_indexA ho ht hR hle hs (info_of_cells hb) hop
    · exact hop.elim
  | index t x i =>
    rw [ho] at hop
    simp only [opWp] at hop
    split at hop
    · rename_i ht; exact op_indexStr ho ht hR hle hs hop
    · exact hop.elim
  | makeFunc fn first caps =>
    rw [ho] at hop
    cases fn with
    | func f => exact op_makeFunc ho hR hle hs hop
    | method _ | methodOf _ _ | via _ _ _ _ | yield _ => exact hop.elim
  | extract x i => rw [ho] at hop; exact op_extract ho hR hle hs hop
  | range t x =>
    rw [ho] at hop
    simp only [opWp] at hop
    split at hop
    · rename_i ht; exact op_range ho ht hR hle hs hop
    · exact hop.elim
  | next x b =>
    rw [ho] at hop
    cases b with
    | true => exact op_next ho hR hle hs hop
    | false => exact hop.elim
  | call c =>
    rw [ho] at hop
    simp only [opWp] at hop
    split at hop
    · rename_i f hc; exact op_call ho hc hR hle hs hop
    · rename_i x _ hc; exact op_callv ho hc hR hle hs hop
    · rename_i b hc; exact builtin_sound ho hc hR hle hs hop
    · exact hop.elim
  | insert _ _ _ _ | ready _ | waits _ | sliceToArrayPointer _ _ | makeInterface _ _ | makeMap _ _ | makeChan _ _ | lookup _ _ _ _ | mapUpdate _ _ _ _ | mapEntry _ _ _ | entryStore _ _ _ _
  | entry _ | typeAssert _ _ _ _ | go _ | defer _ | panic _ | send _ _ | recv _ _ _ | select _ _ => rw [ho] at hop; exact hop.elim
end
end Go.Ab
