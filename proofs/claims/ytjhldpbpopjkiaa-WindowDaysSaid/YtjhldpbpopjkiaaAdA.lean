/- What is proved: code may be read with its own variables taken out of the memory: each operation. -/
import Derived.Test.YtjhldpbpopjkiaaAbW
namespace Go.Ab

/-- Calls are monotone, and leave what they do not know. -/
structure CGood (C : CSem) : Prop where
  mono : CMono C
  frame : ∀ f args (h' h : AHeap) (K : AVal → AHeap → Prop), h'.le h → C f args h' K → C f args h fun v h1 => ∃ h1', K v h1' ∧ h1'.le h1 ∧ Fr h' h h1' h1

/-- What is known of a memory behind a call that knew h' of it, where h was known. -/
def AHeap.join (h' h h1' : AHeap) : AHeap := ⟨fun id => match h1' id with
  | some b => some b
  | none => match h' id with
    | none => h id
    | some _ => none, by
  obtain ⟨N, k⟩ := h.2
  obtain ⟨M, m⟩ := h1'.2
  refine ⟨max N M, fun i hi => ?_⟩
  have e1 : h1' i = none := m i (by omega)
  have e2 : h i = none := k i (by omega)
  simp only [e1, e2]
  split <;> rfl⟩

theorem AC_good (P : Program) : CGood (AC P) where
  mono := AC_mono P
  frame := by
    intro f args h' h K hle x
    refine ⟨x.1, fun w0 ρ H w va h1 h2 h3 => ?_⟩
    refine (x.2 w0 ρ H w va (AHeap.le_trans hle h1) h2 h3).mono fun e w' ⟨v, e1, e2⟩ => ⟨v, e1, ?_⟩
    obtain ⟨a, ρ', h1', H1, k1, k2, k3, k4, k5, k6⟩ := e2.ex
    have hj : ∀ id b, AHeap.join h' h h1' id = some b → h1' id = some b ∨ (h1' id = none ∧ h' id = none ∧ h id = some b) := fun id b hb => by
      simp only [AHeap.join] at hb
      split at hb
      · rename_i b' e; exact .inl (by rw [e]; exact hb)
      · rename_i e
        split at hb
        · rename_i e'; exact .inr ⟨e, e', hb⟩
        · cases hb
    refine ⟨⟨a, ρ', AHeap.join h' h h1', H1, k1, k2, ⟨h1', k3, ?_, ?_⟩, ?_, ?_, k6⟩⟩
    · intro id b hb
      simp only [AHeap.join, hb]
    · intro id h0 b hb
      obtain ⟨m1, m2⟩ := k5 id h0 b (h1 id b hb)
      exact ⟨by simp only [AHeap.join, m2, h0, hb], m2⟩
    · intro id b hb
      rcases hj id b hb with e | ⟨_, e2, e3⟩
      · exact k4 id b e
      · exact (k5 id e2 b (h1 id b e3)).1
    · intro id h0 b hb
      have h0' : h' id = none := by
        cases e : h' id with
        | none => rfl
        | some b' => rw [hle id b' e] at h0; cases h0
      obtain ⟨m1, m2⟩ := k5 id h0' b hb
      exact ⟨m1, by simp only [AHeap.join, m2, h0', h0]⟩

theorem AC_drop {P : Program} {f : Nat} {args : List AVal} {h : AHeap} {Q : AVal → AHeap → Prop} (x : AC P f args h fun v h => ∃ h', Q v h' ∧ h'.le h) : AC P f args h Q := by
  refine ⟨x.1, fun w0 ρ H w va h1 h2 h3 => ?_⟩
  refine (x.2 w0 ρ H w va h1 h2 h3).mono fun e w' ⟨v, e1, e2⟩ => ⟨v, e1, ?_⟩
  obtain ⟨a, ρ', h1', H1, k1, k2, ⟨h'', k3, kl⟩, k4, k5, k6⟩ := e2.ex
  refine ⟨⟨a, ρ', h'', H1, k1, k2, k3, AHeap.le_trans kl k4, fun id h0 b hb => ?_, k6⟩⟩
  obtain ⟨m1, m2⟩ := k5 id h0 b hb
  refine ⟨m1, ?_⟩
  cases e : h'' id with
  | none => rfl
  | some b' => rw [kl id b' e] at m2; cases m2

theorem run_frame {C : CSem} (hC : CGood C) {h' h : AHeap} {K : AVal → AHeap → Prop} {x : Sh} (hle : h'.le h) (hkn : x.known h') (hx : x.run C h' K) : x.run C h fun v h1 => ∃ h1', K v h1' ∧ h1'.le h1 ∧ Fr h' h h1' h1 := by
  cases x with
  | val v => exact ⟨h', hx, hle, Fr.refl h' h⟩
  | heap id b v =>
    obtain ⟨b0, hb0⟩ := hkn
    exact ⟨upd h' id b, hx, upd_le b hle, Fr.upd hb0⟩
  | new b mk =>
    intro id hid
    have h0 : h' id = none := by
      cases e : h' id with
      | none => rfl
      | some b' => rw [hle id b' e] at hid; cases hid
    exact ⟨upd h' id b, hx id h0, upd_le b hle, Fr.fresh hid⟩
  | call f args => exact hC.frame _ _ _ _ _ hle hx
  | fail => exact hx

structure RelB (I : Bx) (s' : Slots) (h' : AHeap) (s : Slots) (h : AHeap) (β : Nat → Nat) : Prop where
  le : h'.le h
  cl : ∀ k, I.clean k = true → s' k = s k
  bx : ∀ d cs, memB I.bs d = true → s' (I.B + d) = .agg cs → s d = .ptr (β d) 0 0 ∧ h (β d) = some (blkOf cs) ∧ h' (β d) = none
  ap : ∀ d e cs cs', memB I.bs d = true → memB I.bs e = true → d ≠ e → s' (I.B + d) = .agg cs → s' (I.B + e) = .agg cs' → β d ≠ β e

def NotHeld (ops : List Oper) (s : Slots) (g : Gd) : Prop := ∃ j b t, g = some (j, b) ∧ gslot ops j = some t ∧ s t ≠ .bool b
def Held (ops : List Oper) (s : Slots) (g : Gd) : Prop := ∀ j b, g = some (j, b) → ∃ t, gslot ops j = some t ∧ s t = .bool b

structure EnvAt (I : Bx) (ops : List Oper) (s' s : Slots) (β : Nat → Nat) (e : Nat) (g : Gd) (d off : Nat) : Prop where
  inBs : memB I.bs d = true
  inDs : memB I.ds e = true
  noB : memB I.bs e = false
  lt : e < I.B
  al : ∃ cs, s' (I.B + d) = .agg cs
  at_ : s e = .ptr (β d) 0 off ∨ (s e = .tup [] ∧ NotHeld ops s g)
def EnvOk (I : Bx) (ops : List Oper) (E : BEnv) (s' s : Slots) (β : Nat → Nat) : Prop := ∀ e g d off, (e, g, d, off) ∈ E → EnvAt I ops s' s β e g d off

theorem clean_spec {I : Bx} {k : Nat} (h : I.clean k = true) : k < I.B ∧ memB I.bs k = false ∧ memB I.ds k = false := by
  simp only [Bx.clean, Bool.and_eq_true, Bool.not_eq_true', Nat.blt_eq] at h
  exact h
theorem nbeq_false {a b : Nat} (h : a ≠ b) : Nat.beq a b = false := by rw [← Bool.not_eq_true, Nat.beq_eq]; exact h
theorem nbeq_eq {a b : Nat} (h : Nat.beq a b = true) : a = b := Nat.eq_of_beq_eq_true h

theorem killB_spec {ops : List Oper} {d : Nat} : ∀ {E : BEnv} {e : Nat} {g : Gd} {b off : Nat}, (e, g, b, off) ∈ killB ops d E → (e, g, b, off) ∈ E ∧ e ≠ d ∧ b ≠ d ∧ ∀ j x, g = some (j, x) → gslot ops j ≠ some d
  | [], _, _, _, _, h => by simp [killB] at h
  | (e', g', b', off') :: r, e, g, b, off, h => by
    unfold killB at h
    have rec_ : (e, g, b, off) ∈ killB ops d r → (e, g, b, off) ∈ (e', g', b', off') :: r ∧ e ≠ d ∧ b ≠ d ∧ ∀ j x, g = some (j, x) → gslot ops j ≠ some d := fun h => by
      obtain ⟨k1, k2⟩ := killB_spec h
      exact ⟨List.mem_cons_of_mem _ k1, k2⟩
    cases hg : guardIs ops d g' with
    | true => rw [hg] at h; exact rec_ h
    | false =>
      rw [hg] at h
      cases he : Nat.beq e' d with
      | true => rw [he] at h; exact rec_ h
      | false =>
        rw [he] at h
        cases hb : Nat.beq b' d with
        | true => rw [hb] at h; exact rec_ h
        | false =>
          rw [hb] at h
          rcases List.mem_cons.1 h with h | h
          · cases h
            refine ⟨List.mem_cons_self .., fun hh => ?_, fun hh => ?_, fun j x hj hs => ?_⟩
            · rw [hh, Nat.beq_refl] at he; cases he
            · rw [hh, Nat.beq_refl] at hb; cases hb
            · subst hj
              simp only [guardIs, hs, slotIs, Nat.beq_refl] at hg
              cases hg
          · exact rec_ h

theorem guardFits_spec {ops : List Oper} {s : Slots} {a b : Gd} (h : guardFits a b = true) (hb : Held ops s b) (ha : NotHeld ops s a) : False := by
  obtain ⟨j, x, t, e1, e2, e3⟩ := ha
  subst e1
  cases b with
  | none => cases x <;> simp [guardFits] at h
  | some p =>
    obtain ⟨i, y⟩ := p
    obtain ⟨t', k1, k2⟩ := hb i y rfl
    cases x <;> cases y <;> simp only [guardFits] at h
    · have := nbeq_eq h; subst this; rw [e2] at k1; cases k1; exact e3 k2
    · cases h
    · cases h
    · have := nbeq_eq h; subst this; rw [e2] at k1; cases k1; exact e3 k2

section
variable {P : Program} {C : CSem} {I : Bx} {ops : List Oper} {E : BEnv} {s' s : Slots} {h' h : AHeap} {β : Nat → Nat}

theorem find_spec {g : Gd} {t d off : Nat} : ∀ {E : BEnv}, Bx.find g t E = some (d, off) → ∃ g', (t, g', d, off) ∈ E ∧ guardFits g' g = true
  | [], h => by simp [Bx.find] at h
  | (e, g', d', off') :: r, h => by
    unfold Bx.find at h
    cases he : Nat.beq e t with
    | true =>
      rw [he] at h
      cases hg : guardFits g' g with
      | true =>
        rw [hg] at h
        cases h
        have := nbeq_eq he
        subst this
        exact ⟨g', List.mem_cons_self .., hg⟩
      | false => rw [hg] at h; cases h
    | false =>
      rw [he] at h
      obtain ⟨g', k1, k2⟩ := find_spec h
      exact ⟨g', List.mem_cons_of_mem _ k1, k2⟩

theorem place_bs {g : Gd} {x : Operand} {d off : Nat} (hE : EnvOk I ops E s' s β) (hp : I.place E g x = some (d, off)) : memB I.bs d = true := by
  cases x <;> (try (simp [Bx.place] at hp; done))
  rename_i t
  simp only [Bx.place] at hp
  cases hb : memB I.bs t with
  | true => rw [hb] at hp; cases hp; exact hb
  | false =>
    rw [hb] at hp
    obtain ⟨g', k1, _⟩ := find_spec hp
    exact (hE _ _ _ _ k1).inBs

theorem place_spec {g : Gd} {x : Operand} {d off : Nat} {cs : List AVal} (hR : RelB I s' h' s h β) (hE : EnvOk I ops E s' s β) (hp : I.place E g x = some (d, off)) (ha : s' (I.B + d) = .agg cs) (hg : Held ops s g) : evS s x = .ptr (β d) 0 off := by
  cases x <;> (try (simp [Bx.place] at hp; done))
  rename_i t
  simp only [Bx.place] at hp
  cases hb : memB I.bs t with
  | true =>
    rw [hb] at hp
    cases hp
    exact (hR.bx _ _ hb ha).1
  | false =>
    rw [hb] at hp
    obtain ⟨g', k1, k2⟩ := find_spec hp
    rcases (hE _ _ _ _ k1).at_ with e | ⟨_, e⟩
    · exact e
    · exact (guardFits_spec k2 hg e).elim

/-- The same, of a load that is not asked whether it was. -/
theorem place_any {x : Operand} {d off : Nat} {cs : List AVal} (hR : RelB I s' h' s h β) (hE : EnvOk I ops E s' s β) (hp : I.place E none x = some (d, off)) (ha : s' (I.B + d) = .agg cs) : evS s x = .ptr (β d) 0 off :=
  place_spec hR hE hp ha fun _ _ e => by cases e

theorem rel_put {dst : Option Nat} {v : AVal} {h1' h1 : AHeap} (hR : RelB I s' h' s h β) (hd : I.okD dst = true) (hle : h1'.le h1) (hf : Fr h' h h1' h1) : RelB I (putS s' dst v) h1' (putS s dst v) h1 β := by
  have hs : ∀ k, (∀ d, dst = some d → k ≠ d) → putS s' dst v k = s' k ∧ putS s dst v k = s k := fun k hk => by
    cases dst with
    | none => exact ⟨rfl, rfl⟩
    | some d => exact ⟨putS_other _ _ (hk d rfl), putS_other _ _ (hk d rfl)⟩
  have hB : ∀ d, I.B + d ≠ dst.getD (I.B + d + 1) := fun d => by
    cases dst with
    | none => simp
    | some e => have := (clean_spec (I := I) (k := e) hd).1; simp; omega
  have hB' : ∀ d, putS s' dst v (I.B + d) = s' (I.B + d) := fun d => (hs _ fun e he => by subst he; exact hB d).1
  refine ⟨hle, fun k hk => ?_, fun d cs hb hc => ?_, fun d e cs cs' hb he hne hc hc' => ?_⟩
  · cases dst with
    | none => exact hR.cl k hk
    | some d =>
      by_cases e : k = d
      · subst e; rw [putS_same, putS_same]
      · rw [putS_other _ _ e, putS_other _ _ e]; exact hR.cl k hk
  · rw [hB'] at hc
    obtain ⟨k1, k2, k3⟩ := hR.bx d cs hb hc
    obtain ⟨m1, m2⟩ := hf _ k3 _ k2
    refine ⟨?_, m1, m2⟩
    rw [(hs d fun e he => ?_).2]
    · exact k1
    · subst he
      intro e'; subst e'
      have := (clean_spec (I := I) (k := d) hd).2.1
      rw [this] at hb; cases hb
  · rw [hB'] at hc hc'
    exact hR.ap d e cs cs' hb he hne hc hc'

theorem env_kill {dst : Option Nat} {v : AVal} (hE : EnvOk I ops E s' s β) (hd : I.okD dst = true) : EnvOk I ops (killO ops dst E) (putS s' dst v) (putS s dst v) β := by
  cases dst with
  | none => exact hE
  | some d =>
    intro e g b off hm
    obtain ⟨k1, k2, k3, k4⟩ := killB_spec hm
    have a := hE _ _ _ _ k1
    have hdB := (clean_spec (I := I) (k := d) hd).1
    refine ⟨a.inBs, a.inDs, a.noB, a.lt, ?_, ?_⟩
    · rw [putS_other _ _ (by omega)]; exact a.al
    · rw [putS_other _ _ k2]
      rcases a.at_ with e | ⟨e, j, x, t, e1, e2, e3⟩
      · exact .inl e
      · refine .inr ⟨e, j, x, t, e1, e2, ?_⟩
        rw [putS_other]
        · exact e3
        · intro hh; subst hh; exact k4 j x e1 e2

theorem ops_clean (hR : RelB I s' h' s h β) {x : Operand} (hx : I.okO x = true) : evS s' x = evS s x := by
  cases x <;> (try rfl)
  exact hR.cl _ hx

theorem gd_cases {o : Oper} {K : AVal → AHeap → Prop} {M : (AVal → AHeap → Prop) → Prop} (hR : RelB I s' h' s h β) (hG : I.okG ops o.guard = true) (hx : A.gdO ops o.guard s' h' M K) :
    ((∀ H, stepSh P ops o s H = shOf P o.op (evS s) H) ∧ M K ∧ Held ops s o.guard) ∨ ((∀ H, stepSh P ops o s H = .val (.tup [])) ∧ K (.tup []) h' ∧ NotHeld ops s o.guard) := by
  unfold stepSh
  cases hg : o.guard with
  | none =>
    rw [hg] at hx
    exact .inl ⟨fun _ => rfl, hx, fun _ _ e => by cases e⟩
  | some p =>
    obtain ⟨j, b⟩ := p
    rw [hg] at hx hG
    simp only [A.gdO, Bx.okG] at hx hG
    cases ht : gslot ops j with
    | none => rw [ht] at hx; exact hx.elim
    | some t =>
      rw [ht] at hx hG
      simp only at hx hG ⊢
      rw [hR.cl t hG] at hx
      cases hv : s t <;> rw [hv] at hx <;> (try exact hx.elim)
      · rename_i b'
        simp only [A.gd] at hx
        by_cases e : b' = b
        · refine .inl ⟨fun _ => by simp [ht, hv, e], hx.1 e, fun j' b'' e' => ?_⟩
          cases e'
          exact ⟨t, ht, by rw [hv, e]⟩
        · exact .inr ⟨fun _ => by simp [ht, hv, e], hx.2 e, j, b, t, rfl, ht, by rw [hv]; simpa using e⟩
      · rename_i l
        cases l with
        | nil => exact .inr ⟨fun _ => by simp [ht, hv], hx, j, b, t, rfl, ht, by rw [hv]; simp⟩
        | cons _ _ => exact hx.elim

theorem step_clean {o : Oper} (hR : RelB I s' h' s h β) (ho : o.op.operands.toList.all I.okO = true) (hG : I.okG ops o.guard = true) (H : AHeap) : stepSh P ops o s' H = stepSh P ops o s H := by
  have h1 : ∀ x ∈ o.op.operands, evS s' x = evS s x := fun x hx => ops_clean hR (List.all_eq_true.1 ho x (by simpa using hx))
  unfold stepSh
  split
  · exact shOf_congr h1
  · rename_i j b hg
    rw [hg] at hG
    simp only [Bx.okG] at hG
    cases ht : gslot ops j with
    | none => rfl
    | some t =>
      rw [ht] at hG
      simp only [hR.cl t hG]
      split
      · split
        · exact shOf_congr h1
        · rfl
      · rfl
      · rfl

/-- What a step has to show. -/
def Goal (P : Program) (C : CSem) (I : Bx) (ops : List Oper) (o : Oper) (ks : List (Operand × TypeId)) (E : BEnv) (s : Slots) (h : AHeap) (K : BEnv → Slots → AHeap → Prop) : Prop :=
  (stepSh P ops o s h).run C h (A.keep h (keepsAt P s ks) fun v h1 => ∃ s1' h1' β1, RelB I s1' h1' (putS s o.dst v) h1 β1 ∧ EnvOk I ops (envB P I ops o E) s1' (putS s o.dst v) β1 ∧ K (envB P I ops o E) s1' h1')

theorem keeps_split (hR : RelB I s' h' s h β) (hE : EnvOk I ops E s' s β) : ∀ (ks : List (Operand × TypeId)) (k : List (Operand × TypeId) → Prop), keepsB I E s' ks k →
    ∃ ks', k ks' ∧ (∀ q ∈ ks', I.okO q.1 = true) ∧ ∀ q ∈ ks, q ∈ ks' ∨ (∃ id, evS s q.1 = .tup [] ∨ ∃ off b, evS s q.1 = .ptr id 0 off ∧ h id = some b ∧ h' id = none)
  | [], k, hx => ⟨[], hx, fun _ h => (by cases h), fun _ h => (by cases h)⟩
  | (x, ty) :: r, k, hx => by
    have other : I.okO x = true → keepsB I E s' r (fun l => k ((x, ty) :: l)) → ∃ ks', k ks' ∧ (∀ q ∈ ks', I.okO q.1 = true) ∧ ∀ q ∈ (x, ty) :: r, q ∈ ks' ∨ (∃ id, evS s q.1 = .tup [] ∨ ∃ off b, evS s q.1 = .ptr id 0 off ∧ h id = some b ∧ h' id = none) := fun ho hx => by
      obtain ⟨l, k1, k2, k3⟩ := keeps_split hR hE r _ hx
      refine ⟨(x, ty) :: l, k1, fun q hq => ?_, fun q hq => ?_⟩
      · rcases List.mem_cons.1 hq with rfl | hq
        · exact ho
        · exact k2 q hq
      · rcases List.mem_cons.1 hq with rfl | hq
        · exact .inl (List.mem_cons_self ..)
        · rcases k3 q hq with e | e
          · exact .inl (List.mem_cons_of_mem _ e)
          · exact .inr e
    have skip : (∃ id, evS s x = .tup [] ∨ ∃ off b, evS s x = .ptr id 0 off ∧ h id = some b ∧ h' id = none) → keepsB I E s' r k → ∃ ks', k ks' ∧ (∀ q ∈ ks', I.okO q.1 = true) ∧ ∀ q ∈ (x, ty) :: r, q ∈ ks' ∨ (∃ id, evS s q.1 = .tup [] ∨ ∃ off b, evS s q.1 = .ptr id 0 off ∧ h id = some b ∧ h' id = none) := fun hp hx => by
      obtain ⟨l, k1, k2, k3⟩ := keeps_split hR hE r _ hx
      refine ⟨l, k1, k2, fun q hq => ?_⟩
      rcases List.mem_cons.1 hq with rfl | hq
      · exact .inr hp
      · exact k3 q hq
    cases x <;> (try exact other rfl hx)
    rename_i t
    simp only [keepsB] at hx
    cases hb : memB I.bs t with
    | true =>
      rw [hb] at hx
      simp only [cond_true, A.al] at hx
      split at hx
      · rename_i cs hc
        obtain ⟨k1, k2, k3⟩ := hR.bx t cs hb hc
        exact skip ⟨β t, .inr ⟨0, _, k1, k2, k3⟩⟩ hx
      · exact hx.elim
    | false =>
      rw [hb] at hx
      simp only [cond_false] at hx
      cases hc : I.clean t with
      | true => rw [hc] at hx; exact other hc hx
      | false =>
        rw [hc] at hx
        simp only [cond_false] at hx
        cases hm : memB (E.map (·.1)) t with
        | false => rw [hm] at hx; exact hx.elim
        | true =>
          rw [hm] at hx
          have : ∃ g d off, (t, g, d, off) ∈ E := by
            have mem : ∀ (E : BEnv), memB (E.map (·.1)) t = true → ∃ g d off, (t, g, d, off) ∈ E := by
              intro E
              induction E with
              | nil => intro h; simp [memB] at h
              | cons a r ih =>
                intro h
                simp only [List.map_cons, memB] at h
                cases ha : Nat.beq a.1 t with
                | true =>
                  have := nbeq_eq ha
                  obtain ⟨a1, a2, a3, a4⟩ := a
                  simp only at this
                  subst this
                  exact ⟨a2, a3, a4, List.mem_cons_self ..⟩
                | false =>
                  rw [ha] at h
                  obtain ⟨g, d, off, k⟩ := ih h
                  exact ⟨g, d, off, List.mem_cons_of_mem _ k⟩
            exact mem E hm
          obtain ⟨g, d, off, hmem⟩ := this
          have a := hE _ _ _ _ hmem
          obtain ⟨cs, hcs⟩ := a.al
          obtain ⟨_, k2, k3⟩ := hR.bx d cs a.inBs hcs
          rcases a.at_ with e | ⟨e, _⟩
          · exact skip ⟨β d, .inr ⟨off, _, e, k2, k3⟩⟩ hx
          · exact skip ⟨0, .inl e⟩ hx

theorem sameAt_of {H H1 : AHeap} {p : AVal} {n : Option Nat} {id : Nat} (hp : p = .tup [] ∨ ∃ off, p = .ptr id 0 off) (he : H1 id = H id) : sameAt H1 H (p, n) := by
  rcases hp with rfl | ⟨off, rfl⟩ <;> cases n <;> simp [sameAt, A.ldv, A.ldnv, he]

theorem gen_sound (hC : CGood C) {o : Oper} {ks : List (Operand × TypeId)} {K : BEnv → Slots → AHeap → Prop} (hR : RelB I s' h' s h β) (hE : EnvOk I ops E s' s β) (hok : chkG I ops o = true) (hen : envB P I ops o E = killO ops o.dst E) (hx : genB P C I ops o ks E s' h' K) : Goal P C I ops o ks E s h K := by
  unfold genB at hx
  simp only [chkG, Bool.and_eq_true] at hok
  obtain ⟨ho, hd, hG⟩ := hok
  obtain ⟨ks', hx, hcl, hks⟩ := keeps_split hR hE ks _ hx
  have H1 : (stepSh P ops o s' h').run C h' (A.keepS h' (keepsAt P s' ks') fun v h1 => K (killO ops o.dst E) (putS s' o.dst v) h1) ∨ ((∀ H, stepSh P ops o s H = .val (.tup [])) ∧ K (killO ops o.dst E) (putS s' o.dst (.tup [])) h') := by
    cases ks' with
    | nil =>
      refine .inl (sh_mono hC.mono (fun v h1 k => ⟨fun p hp => (by cases hp), k⟩) (stepWp_sh.1 hx))
    | cons q r =>
      rcases gd_cases (P := P) (o := o) hR hG hx with ⟨k1, k2, k3⟩ | ⟨k1, k2, k3⟩
      · refine .inl ?_
        have := opWp_sh.1 k2
        rw [show stepSh P ops o s' h' = shOf P o.op (evS s') h' from ?_]
        · exact this
        · rw [step_clean hR ho hG, k1]
          exact (shOf_congr fun x hx => ops_clean hR (List.all_eq_true.1 ho x (by simpa using hx))).symm
      · exact .inr ⟨k1, k2⟩
  unfold Goal
  rw [hen]
  rcases H1 with H1 | ⟨k1, k2⟩
  · rw [step_clean hR ho hG] at H1
    have hnf : stepSh P ops o s h' ≠ .fail := fun e => by rw [e] at H1; exact H1
    rw [stepSh_le hR.le hnf]
    refine sh_mono hC.mono (fun v h1 ⟨h1', ⟨m0, m1⟩, m2, m3⟩ => ⟨fun p hp => ?_, _, h1', β, rel_put hR hd m2 m3, env_kill hE hd, m1⟩) (run_frame hC hR.le stepSh_known H1)
    simp only [keepsAt, List.mem_map] at hp
    obtain ⟨q, hq, rfl⟩ := hp
    rcases hks q hq with hq | ⟨id, hq⟩
    · have := m0 (evS s' q.1, bif isAggB P q.2 then some (P.cellsOf q.2) else none) (List.mem_map.2 ⟨q, hq, rfl⟩)
      rw [ops_clean hR (hcl q hq)] at this
      cases hn : (bif isAggB P q.2 then some (P.cellsOf q.2) else none) with
      | none =>
        rw [hn] at this
        obtain ⟨x, x1, x2⟩ := this
        simp only
        rw [ldv_le m2 x2, ldv_le hR.le x1]
      | some n =>
        rw [hn] at this
        obtain ⟨x, x1, x2⟩ := this
        simp only
        rw [ldnv_le m2 x2, ldnv_le hR.le x1]
    · rcases hq with e | ⟨off, b, e, e1, e2⟩
      · rw [e]
        cases (bif isAggB P q.2 then some (P.cellsOf q.2) else none) <;> simp [A.ldv, A.ldnv]
      · exact sameAt_of (id := id) (.inr ⟨off, e⟩) (by rw [(m3 id e2 b e1).1, e1])
  · rw [k1]
    exact ⟨fun p _ => sameAt.refl h p, _, h', β, rel_put hR hd hR.le (Fr.refl h' h), env_kill hE hd, k2⟩
end
end Go.Ab
