/- What is proved: in a region whose order is drawn, whichever operation is drawn may be read first. -/
import Derived.Test.YtjhldpbpopjkiaaAbS
namespace Go.Ab

def stepSh (P : Program) (ops : List Oper) (o : Oper) (s : Slots) (h : AHeap) : Sh :=
  match o.guard with
  | none => shOf P o.op (evS s) h
  | some (j, b) => match gslot ops j with
    | some t => match s t with
      | .bool b' => if b' = b then shOf P o.op (evS s) h else .val (.tup [])
      | .tup [] => .val (.tup [])
      | _ => .fail
    | none => .fail

/-- Does a place hold the same in two memories? -/
def sameAt (h' h : AHeap) (p : AVal × Option Nat) : Prop :=
  match p.2 with
  | none => A.ldv h' p.1 = A.ldv h p.1
  | some n => A.ldnv h' p.1 n = A.ldnv h p.1 n

theorem sameAt.refl (h : AHeap) (p : AVal × Option Nat) : sameAt h h p := by unfold sameAt; split <;> rfl
theorem sameAt.upd {h' h : AHeap} {p : AVal × Option Nat} (x : sameAt h' h p) (id : Nat) (b : Blk) : sameAt (Ab.upd h' id b) (Ab.upd h id b) p := by
  obtain ⟨v, n⟩ := p
  have hp : ∀ i, (Ab.upd h' id b i = Ab.upd h id b i) ∨ (i ≠ id ∧ Ab.upd h' id b i = h' i ∧ Ab.upd h id b i = h i) := fun i => by
    by_cases hi : i = id
    · subst hi; exact .inl (by rw [upd_same, upd_same])
    · exact .inr ⟨hi, upd_other _ _ hi, upd_other _ _ hi⟩
  unfold sameAt at x ⊢
  cases n with
  | none =>
    simp only at x ⊢
    cases v <;> (try rfl)
    rename_i i g o
    rcases hp i with e | ⟨_, e1, e2⟩
    · simp only [A.ldv, e]
    · simp only [A.ldv, e1, e2] at x ⊢; exact x
  | some n =>
    simp only at x ⊢
    cases v <;> (try rfl)
    rename_i i g o
    rcases hp i with e | ⟨_, e1, e2⟩
    · simp only [A.ldnv, e]
    · simp only [A.ldnv, e1, e2] at x ⊢; exact x

section
variable {P : Program} {C : CSem} {h H : AHeap} {s s' : Slots} {ops : List Oper} {o : Oper} {K : AVal → AHeap → Prop}

theorem gd_sh {c : AVal} {b : Bool} {x : Sh} {M : (AVal → AHeap → Prop) → Prop} (hM : M K ↔ x.run C h K) : A.gd h c b M K ↔ (match c with
    | .bool b' => if b' = b then x else .val (.tup [])
    | .tup [] => .val (.tup [])
    | _ => Sh.fail).run C h K := by
  cases c <;> (try exact Iff.rfl)
  case tup l => cases l <;> exact Iff.rfl
  rename_i b'
  simp only [A.gd]
  by_cases e : b' = b
  · rw [if_pos e]; exact ⟨fun ⟨k, _⟩ => hM.1 (k e), fun k => ⟨fun _ => hM.2 k, fun k' => absurd e k'⟩⟩
  · rw [if_neg e]; exact ⟨fun ⟨_, k⟩ => k e, fun k => ⟨fun k' => absurd k' e, fun _ => k⟩⟩

theorem stepWp_sh : stepWp P C ops o s h K ↔ (stepSh P ops o s h).run C h K := by
  unfold stepWp stepSh
  cases o.guard with
  | none => exact opWp_sh
  | some jb =>
    obtain ⟨j, b⟩ := jb
    simp only
    cases gslot ops j with
    | none => exact Iff.rfl
    | some t => exact gd_sh opWp_sh

theorem keep_iff {ls : List (AVal × Option Nat)} {v : AVal} {h' : AHeap} : A.keep h ls K v h' ↔ (∀ p ∈ ls, sameAt h' h p) ∧ K v h' := Iff.rfl

theorem stepWpD_sh (hC : ∀ f args h (Q Q' : AVal → AHeap → Prop), (∀ v h, Q v h → Q' v h) → C f args h Q → C f args h Q') {ks : List (Operand × TypeId)} :
    stepWpD P C ops o ks s h K ↔ (stepSh P ops o s h).run C h (A.keep h (keepsAt P s ks) K) := by
  cases ks with
  | nil =>
    have e : ∀ v h', A.keep h (keepsAt P s []) K v h' ↔ K v h' := fun v h' => ⟨fun k => k.2, fun k => ⟨fun p hp => (by cases hp), k⟩⟩
    rw [show stepWpD P C ops o [] s h K = stepWp P C ops o s h K from rfl, stepWp_sh]
    exact ⟨sh_mono hC fun v h' k => (e v h').2 k, sh_mono hC fun v h' k => (e v h').1 k⟩
  | cons q r =>
    unfold stepWpD stepSh
    simp only
    cases o.guard with
    | none => exact opWp_sh
    | some jb =>
      obtain ⟨j, b⟩ := jb
      simp only
      cases gslot ops j with
      | none => exact Iff.rfl
      | some t =>
        simp only
        cases s t <;> (try exact Iff.rfl)
        case tup l =>
          cases l with
          | nil => exact ⟨fun k => ⟨fun p _ => sameAt.refl h p, k⟩, fun k => k.2⟩
          | cons _ _ => exact Iff.rfl
        rename_i b'
        simp only [A.gd]
        by_cases e : b' = b
        · rw [if_pos e]
          exact ⟨fun ⟨k, _⟩ => opWp_sh.1 (k e), fun k => ⟨fun _ => opWp_sh.2 k, fun k' => absurd e k'⟩⟩
        · rw [if_neg e]
          exact ⟨fun ⟨_, k⟩ => ⟨fun p _ => sameAt.refl h p, k e⟩, fun k => ⟨fun k' => absurd k' e, fun _ => k.2⟩⟩

theorem putS_same (s : Slots) (d : Nat) (v : AVal) : putS s (some d) v d = v := by simp [putS]
theorem putS_other (s : Slots) {d k : Nat} (v : AVal) (hk : k ≠ d) : putS s (some d) v k = s k := by
  have : Nat.beq k d = false := by rw [← Bool.not_eq_true, Nat.beq_eq]; exact hk
  simp [putS, this]
theorem putS_comm (s : Slots) {x y : Option Nat} (u v : AVal) (hxy : ∀ d, x = some d → y ≠ some d) : putS (putS s x u) y v = putS (putS s y v) x u := by
  cases x with
  | none => rfl
  | some d =>
    cases y with
    | none => rfl
    | some e =>
      have hne : d ≠ e := fun he => hxy d rfl (by rw [he])
      funext k
      by_cases h1 : k = d
      · subst h1; rw [putS_other _ _ hne, putS_same, putS_same]
      · by_cases h2 : k = e
        · subst h2; rw [putS_same, putS_other _ _ h1, putS_same]
        · rw [putS_other _ _ h2, putS_other _ _ h1, putS_other _ _ h1, putS_other _ _ h2]

theorem evS_put {d : Option Nat} {v : AVal} {x : Operand} (hx : ∀ k, d = some k → x ≠ .tmp k) : evS (putS s d v) x = evS s x := by
  cases x <;> (try rfl)
  rename_i t
  cases d with
  | none => rfl
  | some d => exact putS_other _ _ fun e => hx d rfl (by rw [e])

theorem stepSh_put {ops : Array Oper} {d : Option Nat} {v : AVal} (hd : ∀ k, d = some k → k ∉ o.looksAt ops) : stepSh P ops.toList o (putS s d v) h = stepSh P ops.toList o s h := by
  have h1 : ∀ x ∈ o.op.operands, evS (putS s d v) x = evS s x := fun x hx => evS_put fun k hk e => hd k hk (by
    subst e
    exact List.mem_append_left _ (List.mem_filterMap.2 ⟨.tmp k, by simpa using hx, rfl⟩))
  unfold stepSh
  split
  · exact shOf_congr h1
  · rename_i j b hg
    cases ht : gslot ops.toList j with
    | none => rfl
    | some t =>
      have : putS s d v t = s t := by
        cases d with
        | none => rfl
        | some d =>
          refine putS_other _ _ fun e => hd d rfl ?_
          subst e
          unfold Oper.looksAt
          rw [hg]
          refine List.mem_append_right _ ?_
          have : (ops[j]?).bind (·.dst) = some t := by unfold gslot at ht; simpa using ht
          simp [this]
      simp only [this]
      split
      · split
        · exact shOf_congr h1
        · rfl
      · rfl
      · rfl

theorem stepSh_le (hle : h.le H) (hx : stepSh P ops o s h ≠ .fail) : stepSh P ops o s H = stepSh P ops o s h := by
  unfold stepSh at hx ⊢
  split
  · rename_i hg; simp only [hg] at hx; exact shOf_le hle hx
  · rename_i j b hg
    simp only [hg] at hx
    split
    · rename_i t ht
      simp only [ht] at hx
      split
      · rename_i b' hb
        simp only [hb] at hx
        split
        · rename_i e; rw [if_pos e] at hx; exact shOf_le hle hx
        · rfl
      · rfl
      · rfl
    · rfl

theorem stepSh_known : (stepSh P ops o s h).known h := by
  unfold stepSh
  split
  · exact shOf_known
  · split
    · split
      · exact ite_known shOf_known trivial
      · trivial
      · trivial
    · trivial

theorem stepSh_pure (hk : kdOf P o.op = .pure) : (∀ h H : AHeap, stepSh P ops o s h = stepSh P ops o s H) ∧ ((∃ v, stepSh P ops o s h = .val v) ∨ stepSh P ops o s h = .fail) := by
  have hp := fun (h : AHeap) => sh_of_pure (P := P) (h := h) (ρ := evS s) hk
  constructor
  · intro h H
    unfold stepSh
    rw [(hp h).1 h H]
  · unfold stepSh
    split
    · exact (hp h).2
    · split
      · split
        · split
          · exact (hp h).2
          · exact .inl ⟨_, rfl⟩
        · exact .inl ⟨_, rfl⟩
        · exact .inr rfl
      · exact .inr rfl

theorem stepSh_alloc (hk : kdOf P o.op = .alloc) : (∀ h H : AHeap, stepSh P ops o s h = stepSh P ops o s H) ∧ ((∃ v, stepSh P ops o s h = .val v) ∨ (∃ b mk, stepSh P ops o s h = .new b mk) ∨ stepSh P ops o s h = .fail) := by
  have hp := fun (h : AHeap) => sh_of_alloc (P := P) (h := h) (ρ := evS s) hk
  constructor
  · intro h H
    unfold stepSh
    rw [(hp h).1 h H]
  · unfold stepSh
    split
    · exact (hp h).2
    · split
      · split
        · split
          · exact (hp h).2
          · exact .inl ⟨_, rfl⟩
        · exact .inl ⟨_, rfl⟩
        · exact .inr (.inr rfl)
      · exact .inr (.inr rfl)

theorem kd_load (hk : kdOf P o.op = .load) : ∃ t x, o.op = .load t x := by
  cases ho : o.op <;> rw [ho] at hk <;> (try (simp only [kdOf] at hk; cases hk; done))
  · exact ⟨_, _, rfl⟩
  · simp only [kdOf] at hk; split at hk <;> cases hk
  · rename_i c
    obtain ⟨callee, args, ats⟩ := c
    cases callee with
    | value _ => simp [kdOf] at hk
    | invoke _ _ => simp [kdOf] at hk
    | builtin b => cases b <;> simp [kdOf] at hk

/-- A load yields the same where its place holds the same. -/
theorem stepSh_load {t : TypeId} {x : Operand} (ho : o.op = .load t x) :
    (sameAt H h (evS s x, bif isAggB P t then some (P.cellsOf t) else none) → stepSh P ops o s H = stepSh P ops o s h) ∧ ((∃ v, stepSh P ops o s h = .val v) ∨ stepSh P ops o s h = .fail) := by
  have main : (sameAt H h (evS s x, bif isAggB P t then some (P.cellsOf t) else none) → shOf P o.op (evS s) H = shOf P o.op (evS s) h) ∧ ((∃ v, shOf P o.op (evS s) h = .val v) ∨ shOf P o.op (evS s) h = .fail) := by
    have pvc : ∀ o : Option AVal, (∃ v, Sh.pv o = .val v) ∨ Sh.pv o = .fail := fun o => by
      cases o with
      | none => exact .inr rfl
      | some v => exact .inl ⟨v, rfl⟩
    rw [ho]
    simp only [shOf]
    cases P.underlying t with
    | none => exact ⟨fun _ => rfl, .inr rfl⟩
    | some d =>
      cases hb : isAggB P t
      · exact ⟨fun hs => by simp only [sameAt, cond_false] at hs ⊢; rw [hs], pvc _⟩
      · exact ⟨fun hs => by simp only [sameAt, cond_true] at hs ⊢; rw [hs], pvc _⟩
  constructor
  · intro hs
    unfold stepSh
    rw [main.1 hs]
  · unfold stepSh
    split
    · exact main.2
    · split
      · split
        · split
          · exact main.2
          · exact .inl ⟨_, rfl⟩
        · exact .inl ⟨_, rfl⟩
        · exact .inr rfl
      · exact .inr rfl

theorem keepsAt_put {ks : List (Operand × TypeId)} {d : Option Nat} {v : AVal} (hd : ∀ q ∈ ks, ∀ k, d = some k → q.1 ≠ .tmp k) : keepsAt P (putS s d v) ks = keepsAt P s ks :=
  List.map_congr_left fun q hq => by rw [evS_put fun k hk => hd q hq k hk]
end

abbrev DItem := Item × List (Operand × TypeId)

/-- x stands ahead of y. -/
structure Pair (ops : Array Oper) (x y : DItem) : Prop where
  notBehind : x.1.m.testBit y.1.i = false
  place : ∀ t a, x.1.o.op = .load t a → ∀ d, y.1.o.dst = some d → a ≠ .tmp d
  free : y.1.m.testBit x.1.i = true ∨ (x.1.k.fits y.1.k = true ∧ x.1.o.apart ops y.1.o = true)
  keeps : ∀ t a, x.1.o.op = .load t a → y.1.k = .effect → y.1.m.testBit x.1.i = false → (a, t) ∈ y.2
  slots : ∀ q ∈ x.2, ∀ d, y.1.o.dst = some d → q.1 ≠ .tmp d

structure Good (P : Program) (x : DItem) : Prop where
  place : ∀ t a, x.1.o.op = .load t a → ∀ d, x.1.o.dst = some d → a ≠ .tmp d
  self : x.1.m.testBit x.1.i = false
  quiet : x.1.k ≠ .effect → x.2 = []
  kind : x.1.k = kdOf P x.1.o.op

theorem putS_apart {ops : Array Oper} {x y : Oper} (hap : x.apart ops y = true) : (∀ d, x.dst = some d → d ∉ y.looksAt ops) ∧ (∀ d, x.dst = some d → y.dst ≠ some d) ∧ (∀ d, y.dst = some d → d ∉ x.looksAt ops) :=
  Oper.apart_spec hap

section
variable {P : Program} {ops : Array Oper}

theorem AC_mono (P : Program) : ∀ f args h (Q Q' : AVal → AHeap → Prop), (∀ v h, Q v h → Q' v h) → AC P f args h Q → AC P f args h Q' := fun _ _ _ _ _ hq x => AC.mono hq x

theorem opsWpD_cons {x : DItem} {r : List DItem} {Q : Slots → AHeap → Prop} {s : Slots} {h : AHeap} :
    opsWpD P (AC P) ops.toList (x :: r) Q s h ↔ (stepSh P ops.toList x.1.o s h).run (AC P) h (A.keep h (keepsAt P s x.2) fun v h => opsWpD P (AC P) ops.toList r Q (putS s x.1.o.dst v) h) :=
  stepWpD_sh (AC_mono P)

theorem bubble (t : DItem) (ht : Good P t) (ys : List DItem) (Q : Slots → AHeap → Prop) : ∀ (xs : List DItem) (s : Slots) (h : AHeap) (ko : List (Operand × TypeId)), (∀ q ∈ ko, q ∈ t.2) → (t.1.k ≠ .effect → ko = []) →
    (∀ x ∈ xs, ∀ q ∈ ko, ∀ d, x.1.o.dst = some d → q.1 ≠ .tmp d) → (∀ x ∈ xs, Good P x) → (∀ x ∈ xs, Pair ops x t) → (∀ x ∈ xs, t.1.m.testBit x.1.i = false) → xs.Pairwise (Pair ops) →
    (t.1.k ≠ .effect → t.1.k ≠ .load → stepSh P ops.toList t.1.o s h ≠ .fail) →
    opsWpD P (AC P) ops.toList (xs ++ t :: ys) Q s h →
    (stepSh P ops.toList t.1.o s h).run (AC P) h fun v h' => (∀ p ∈ keepsAt P s ko, sameAt h' h p) ∧ opsWpD P (AC P) ops.toList (xs ++ ys) Q (putS s t.1.o.dst v) h'
  | [], s, h, ko, hko, _, _, _, _, _, _, _, H => by
    rw [List.nil_append, opsWpD_cons] at H
    refine sh_mono (AC_mono P) (fun v h' hk => ⟨fun p hp => ?_, hk.2⟩) H
    refine hk.1 p ?_
    simp only [keepsAt, List.mem_map] at hp ⊢
    obtain ⟨q, hq, e⟩ := hp
    exact ⟨q, hko q hq, e⟩
  | x :: xs, s, h, ko, hko, hko0, hsl, hg, hpt, hunord, hpw, hnf, H => by
    have gx := hg x (by simp)
    have px := hpt x (by simp)
    obtain ⟨hfit, hap⟩ := px.free.resolve_left (by rw [hunord x (by simp)]; simp)
    obtain ⟨ap1, ap2, ap3⟩ := putS_apart hap
    rw [List.pairwise_cons] at hpw
    have tsh : ∀ v h1, stepSh P ops.toList t.1.o (putS s x.1.o.dst v) h1 = stepSh P ops.toList t.1.o s h1 := fun v h1 => stepSh_put fun d hd => ap1 d hd
    have xsh : ∀ u h1, stepSh P ops.toList x.1.o (putS s t.1.o.dst u) h1 = stepSh P ops.toList x.1.o s h1 := fun u h1 => stepSh_put fun d hd => ap3 d hd
    have comm : ∀ u v, putS (putS s x.1.o.dst v) t.1.o.dst u = putS (putS s t.1.o.dst u) x.1.o.dst v := fun u v => putS_comm s v u fun d hd => ap2 d hd
    have kx : ∀ u, keepsAt P (putS s t.1.o.dst u) x.2 = keepsAt P s x.2 := fun u => keepsAt_put fun q hq d hd => px.slots q hq d hd
    have ih := fun s h ko a b c d => bubble t ht ys Q xs s h ko a b c (fun y hy => hg y (by simp [hy])) (fun y hy => hpt y (by simp [hy])) (fun y hy => hunord y (by simp [hy])) hpw.2 d
    have kput : ∀ v, keepsAt P (putS s x.1.o.dst v) ko = keepsAt P s ko := fun v => keepsAt_put fun q hq d hd => hsl x (by simp) q hq d hd
    rw [List.cons_append, opsWpD_cons] at H
    -- the drawn one behind a value of x that stays
    have viaVal : ∀ v, stepSh P ops.toList x.1.o s h = .val v → x.2 = [] → (∀ ko', (∀ q ∈ ko', q ∈ t.2) → (t.1.k ≠ .effect → ko' = []) → (∀ y ∈ x :: xs, ∀ q ∈ ko', ∀ d, y.1.o.dst = some d → q.1 ≠ .tmp d) →
        (∀ q ∈ ko, q ∈ ko') → (∀ u h', (stepSh P ops.toList t.1.o s h).run (AC P) h (fun u' h'' => u' = u → h'' = h' → True) → True) →
        (∀ h', (∀ p ∈ keepsAt P s ko', sameAt h' h p) → (t.1.k ≠ .effect → h.le h') → stepSh P ops.toList x.1.o s h' = .val v) →
        (stepSh P ops.toList t.1.o s h).run (AC P) h fun u h' => (∀ p ∈ keepsAt P s ko, sameAt h' h p) ∧ opsWpD P (AC P) ops.toList (x :: xs ++ ys) Q (putS s t.1.o.dst u) h') := by
      intro v hv hx2 ko' k1 k2 k3 k4 _ k5
      rw [hv] at H
      have H' := H.2
      have r := ih (putS s x.1.o.dst v) h ko' k1 k2 (fun y hy => k3 y (by simp [hy])) (fun a b => by rw [tsh]; exact hnf a b) H'
      rw [tsh] at r
      have kput' : keepsAt P (putS s x.1.o.dst v) ko' = keepsAt P s ko' := keepsAt_put fun q hq d hd => k3 x (by simp) q hq d hd
      rw [kput'] at r
      have hle : t.1.k ≠ .effect → (stepSh P ops.toList t.1.o s h).run (AC P) h (fun u h' => h.le h' ∧ ((∀ p ∈ keepsAt P s ko', sameAt h' h p) ∧ opsWpD P (AC P) ops.toList (xs ++ ys) Q (putS (putS s x.1.o.dst v) t.1.o.dst u) h')) := by
        intro hne
        have vn : (∃ v, stepSh P ops.toList t.1.o s h = .val v) ∨ (∃ b mk, stepSh P ops.toList t.1.o s h = .new b mk) ∨ stepSh P ops.toList t.1.o s h = .fail := by
          have hk := ht.kind
          cases e : t.1.k with
          | effect => exact absurd e hne
          | pure => rw [e] at hk; rcases (stepSh_pure (h := h) (s := s) (ops := ops.toList) hk.symm).2 with h' | h'
                    · exact .inl h'
                    · exact .inr (.inr h')
          | load => rw [e] at hk; obtain ⟨_, _, hl⟩ := kd_load hk.symm; rcases (stepSh_load (P := P) (H := h) (h := h) (s := s) (ops := ops.toList) hl).2 with h' | h'
                    · exact .inl h'
                    · exact .inr (.inr h')
          | alloc => rw [e] at hk; exact (stepSh_alloc (h := h) (s := s) (ops := ops.toList) hk.symm).2
        rcases vn with ⟨w, hw⟩ | ⟨b, mk, hw⟩ | hw <;> rw [hw] at r ⊢
        · exact ⟨AHeap.le_refl h, r⟩
        · exact fun id hid => ⟨le_upd b hid, r id hid⟩
        · exact r
      have fin : ∀ u h', (∀ p ∈ keepsAt P s ko', sameAt h' h p) → (t.1.k ≠ .effect → h.le h') → opsWpD P (AC P) ops.toList (xs ++ ys) Q (putS (putS s x.1.o.dst v) t.1.o.dst u) h' →
          (∀ p ∈ keepsAt P s ko, sameAt h' h p) ∧ opsWpD P (AC P) ops.toList (x :: xs ++ ys) Q (putS s t.1.o.dst u) h' := by
        intro u h' q1 q2 q3
        refine ⟨fun p hp => q1 p ?_, ?_⟩
        · simp only [keepsAt, List.mem_map] at hp ⊢
          obtain ⟨q, hq, e⟩ := hp
          exact ⟨q, k4 q hq, e⟩
        · rw [List.cons_append, opsWpD_cons, xsh, k5 h' q1 q2, hx2]
          refine ⟨fun p hp => by simp [keepsAt] at hp, ?_⟩
          show opsWpD P (AC P) ops.toList (xs ++ ys) Q (putS (putS s t.1.o.dst _) x.1.o.dst _) _
          rw [← comm]; exact q3
      by_cases hne : t.1.k = .effect
      · exact sh_mono (AC_mono P) (fun u h' hr => fin u h' hr.1 (fun hh => absurd hne hh) hr.2) r
      · exact sh_mono (AC_mono P) (fun u h' hr => fin u h' hr.2.1 (fun _ => hr.1) hr.2.2) (hle hne)
    have simple : ∀ v, stepSh P ops.toList x.1.o s h = .val v → x.2 = [] → (∀ h', stepSh P ops.toList x.1.o s h' = .val v) →
        (stepSh P ops.toList t.1.o s h).run (AC P) h fun u h' => (∀ p ∈ keepsAt P s ko, sameAt h' h p) ∧ opsWpD P (AC P) ops.toList (x :: xs ++ ys) Q (putS s t.1.o.dst u) h' := fun v hv hx2 hind =>
      viaVal v hv hx2 ko hko hko0 (fun y hy => hsl y hy) (fun _ hq => hq) (fun _ _ _ => trivial) fun h' _ _ => hind h'
    cases ek : x.1.k with
    | pure =>
      have hk := gx.kind
      rw [ek] at hk
      obtain ⟨i1, i2⟩ := stepSh_pure (h := h) (s := s) (ops := ops.toList) hk.symm
      rcases i2 with ⟨v, hv⟩ | hv
      · exact simple v hv (gx.quiet (by rw [ek]; simp)) fun h' => by rw [i1 h' h]; exact hv
      · rw [hv] at H; exact H.elim
    | load =>
      have hk := gx.kind
      rw [ek] at hk
      obtain ⟨ty, ad, hl⟩ := kd_load hk.symm
      rcases (stepSh_load (P := P) (H := h) (h := h) (s := s) (ops := ops.toList) hl).2 with ⟨v, hv⟩ | hv
      · by_cases hne : t.1.k = .effect
        · have hmem := px.keeps ty ad hl hne (hunord x (by simp))
          refine viaVal v hv (gx.quiet (by rw [ek]; simp)) ((ad, ty) :: ko) (fun q hq => ?_) (fun hh => absurd hne hh) (fun y hy q hq d hd => ?_) (fun q hq => by simp [hq]) (fun _ _ _ => trivial) fun h' hs _ => ?_
          · rcases List.mem_cons.1 hq with rfl | hq
            · exact hmem
            · exact hko q hq
          · rcases List.mem_cons.1 hq with rfl | hq
            · rcases List.mem_cons.1 hy with rfl | hy
              · exact gx.place ty ad hl d hd
              · exact (hpw.1 y hy).place ty ad hl d hd
            · exact hsl y hy q hq d hd
          · rw [(stepSh_load (P := P) (H := h') (h := h) (s := s) (ops := ops.toList) hl).1 (hs _ (by simp [keepsAt]))]; exact hv
        · refine viaVal v hv (gx.quiet (by rw [ek]; simp)) ko hko hko0 (fun y hy => hsl y hy) (fun _ hq => hq) (fun _ _ _ => trivial) fun h' _ hle => ?_
          rw [stepSh_le (hle hne) (by rw [hv]; simp)]; exact hv
      · rw [hv] at H; exact H.elim
    | alloc =>
      have hk := gx.kind
      rw [ek] at hk
      obtain ⟨i1, i2⟩ := stepSh_alloc (h := h) (s := s) (ops := ops.toList) hk.symm
      rcases i2 with ⟨v, hv⟩ | ⟨b, mk, hv⟩ | hv
      · exact simple v hv (gx.quiet (by rw [ek]; simp)) fun h' => by rw [i1 h' h]; exact hv
      · have hx2 := gx.quiet (by rw [ek]; simp)
        have hte : t.1.k ≠ .effect := fun e => by rw [ek, e] at hfit; simp [Kd.fits] at hfit
        have htl : t.1.k ≠ .load := fun e => by rw [ek, e] at hfit; simp [Kd.fits] at hfit
        have hk0 := hko0 hte
        subst hk0
        rw [hv] at H
        have tind : ∀ h h' : AHeap, stepSh P ops.toList t.1.o s h = stepSh P ops.toList t.1.o s h' := by
          have hk := ht.kind
          cases e : t.1.k with
          | effect => exact absurd e hte
          | load => exact absurd e htl
          | pure => rw [e] at hk; exact (stepSh_pure (h := h) (s := s) (ops := ops.toList) hk.symm).1
          | alloc => rw [e] at hk; exact (stepSh_alloc (h := h) (s := s) (ops := ops.toList) hk.symm).1
        have tval : (∃ v, stepSh P ops.toList t.1.o s h = .val v) ∨ (∃ b mk, stepSh P ops.toList t.1.o s h = .new b mk) ∨ stepSh P ops.toList t.1.o s h = .fail := by
          have hk := ht.kind
          cases e : t.1.k with
          | effect => exact absurd e hte
          | load => exact absurd e htl
          | pure => rw [e] at hk; rcases (stepSh_pure (h := h) (s := s) (ops := ops.toList) hk.symm).2 with h' | h'
                    · exact .inl h'
                    · exact .inr (.inr h')
          | alloc => rw [e] at hk; exact (stepSh_alloc (h := h) (s := s) (ops := ops.toList) hk.symm).2
        have each : ∀ id, h id = none → (stepSh P ops.toList t.1.o s h).run (AC P) (upd h id b) fun u h' => opsWpD P (AC P) ops.toList (xs ++ ys) Q (putS (putS s x.1.o.dst (mk id)) t.1.o.dst u) h' := fun id hid => by
          have r := ih (putS s x.1.o.dst (mk id)) (upd h id b) [] (by simp) (fun _ => rfl) (by simp) (fun a c => by rw [tsh, tind _ h]; exact hnf a c) (H id hid).2
          rw [tsh, tind _ h] at r
          exact sh_mono (AC_mono P) (fun u h' hr => hr.2) r
        have xind : ∀ h', stepSh P ops.toList x.1.o s h' = .new b mk := fun h' => by rw [i1 h' h]; exact hv
        rcases tval with ⟨u, hu⟩ | ⟨b2, mk2, hu⟩ | hu
        · rw [hu] at each ⊢
          refine ⟨fun p hp => by simp [keepsAt] at hp, ?_⟩
          rw [List.cons_append, opsWpD_cons, xsh, xind, hx2]
          intro id hid
          refine ⟨fun p hp => by simp [keepsAt] at hp, ?_⟩
          show opsWpD P (AC P) ops.toList (xs ++ ys) Q (putS (putS s t.1.o.dst _) x.1.o.dst _) _
          rw [← comm]; exact each id hid
        · rw [hu] at each ⊢
          intro id2 hid2
          refine ⟨fun p hp => by simp [keepsAt] at hp, ?_⟩
          rw [List.cons_append, opsWpD_cons, xsh, xind, hx2]
          intro id hid
          have hne : id ≠ id2 := fun e => by subst e; rw [upd_same] at hid; cases hid
          rw [upd_other _ _ hne] at hid
          refine ⟨fun p hp => by simp [keepsAt] at hp, ?_⟩
          show opsWpD P (AC P) ops.toList (xs ++ ys) Q (putS (putS s t.1.o.dst _) x.1.o.dst _) _
          rw [← comm, upd_comm _ _ _ (Ne.symm hne)]
          exact each id hid id2 (by rw [upd_other _ _ (Ne.symm hne)]; exact hid2)
        · exact absurd hu (hnf hte htl)
      · rw [hv] at H; exact H.elim
    | effect =>
      have hte : t.1.k ≠ .effect := fun e => by rw [ek, e] at hfit; simp [Kd.fits] at hfit
      have htl : t.1.k ≠ .load := fun e => by rw [ek, e] at hfit; simp [Kd.fits] at hfit
      have hk0 := hko0 hte
      subst hk0
      have tind : ∀ h h' : AHeap, stepSh P ops.toList t.1.o s h = stepSh P ops.toList t.1.o s h' := by
        have hk := ht.kind
        cases e : t.1.k with
        | effect => exact absurd e hte
        | load => exact absurd e htl
        | pure => rw [e] at hk; exact (stepSh_pure (h := h) (s := s) (ops := ops.toList) hk.symm).1
        | alloc => rw [e] at hk; exact (stepSh_alloc (h := h) (s := s) (ops := ops.toList) hk.symm).1
      have tval : (∃ v, stepSh P ops.toList t.1.o s h = .val v) ∨ (∃ b mk, stepSh P ops.toList t.1.o s h = .new b mk) ∨ stepSh P ops.toList t.1.o s h = .fail := by
        have hk := ht.kind
        cases e : t.1.k with
        | effect => exact absurd e hte
        | load => exact absurd e htl
        | pure => rw [e] at hk; rcases (stepSh_pure (h := h) (s := s) (ops := ops.toList) hk.symm).2 with h' | h'
                  · exact .inl h'
                  · exact .inr (.inr h')
        | alloc => rw [e] at hk; exact (stepSh_alloc (h := h) (s := s) (ops := ops.toList) hk.symm).2
      have each : ∀ v h1, opsWpD P (AC P) ops.toList (xs ++ t :: ys) Q (putS s x.1.o.dst v) h1 → (stepSh P ops.toList t.1.o s h).run (AC P) h1 fun u h' => opsWpD P (AC P) ops.toList (xs ++ ys) Q (putS (putS s x.1.o.dst v) t.1.o.dst u) h' := fun v h1 hh => by
        have r := ih (putS s x.1.o.dst v) h1 [] (by simp) (fun _ => rfl) (by simp) (fun a c => by rw [tsh, tind _ h]; exact hnf a c) hh
        rw [tsh, tind _ h] at r
        exact sh_mono (AC_mono P) (fun u h' hr => hr.2) r
      rcases tval with ⟨u, hu⟩ | ⟨b2, mk2, hu⟩ | hu
      · rw [hu] at each ⊢
        refine ⟨fun p hp => by simp [keepsAt] at hp, ?_⟩
        rw [List.cons_append, opsWpD_cons, xsh, kx]
        refine sh_mono (AC_mono P) (fun v h1 hr => ⟨hr.1, ?_⟩) H
        show opsWpD P (AC P) ops.toList (xs ++ ys) Q (putS (putS s t.1.o.dst _) x.1.o.dst _) _
        rw [← comm]; exact each v h1 hr.2
      · rw [hu] at each ⊢
        intro id2 hid2
        refine ⟨fun p hp => by simp [keepsAt] at hp, ?_⟩
        rw [List.cons_append, opsWpD_cons, xsh, kx]
        have hnfx : stepSh P ops.toList x.1.o s h ≠ .fail := fun e => by rw [e] at H; exact H
        rw [stepSh_le (le_upd b2 hid2) hnfx]
        refine sh_mono (AC_mono P) (fun v h'' hr => ?_) (sh_frame (b := b2) hid2 stepSh_known H)
        obtain ⟨h1, ⟨q1, q2⟩, q3, rfl⟩ := hr
        refine ⟨fun p hp => sameAt.upd (q1 p hp) id2 b2, ?_⟩
        show opsWpD P (AC P) ops.toList (xs ++ ys) Q (putS (putS s t.1.o.dst _) x.1.o.dst _) _
        rw [← comm]; exact each v h1 q2 id2 q3
      · exact absurd hu (hnf hte htl)
end
end Go.Ab
