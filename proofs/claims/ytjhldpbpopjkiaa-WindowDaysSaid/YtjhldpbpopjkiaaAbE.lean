/- What is proved: what each quiet operation of the model does is what is told of it in the abstract memory. -/
import Derived.Test.YtjhldpbpopjkiaaAbD
import Derived.Laws.IdiomCopy
import Derived.ArgAppend
namespace Go.Ab
open Go.RowKit (Below)

def SRel (ρ : Locs) (s : Slots) (a : Act) : Prop := ∀ k, VRel ρ (s k) (a.tmps.getD k Go.undef)

/-- What is kept of the memory that a call does not know: it stays, and stays unknown. -/
def Fr (h H h' H' : AHeap) : Prop := ∀ id, h id = none → ∀ b, H id = some b → H' id = some b ∧ h' id = none

theorem Fr.refl (h H : AHeap) : Fr h H h H := fun _ h0 _ h1 => ⟨h1, h0⟩
theorem Fr.trans {h H h1 H1 h2 H2 : AHeap} (x : Fr h H h1 H1) (y : Fr h1 H1 h2 H2) : Fr h H h2 H2 := fun id h0 b hb =>
  let ⟨p, q⟩ := x id h0 b hb
  y id q b p

structure After (w0 : World) (ρ : Locs) (h H : AHeap) (K : AVal → AHeap → Prop) (v : Value) (w' : World) : Prop where
  intro ::
  ex : ∃ a ρ' h' H', ρ.le ρ' ∧ VRel ρ' a v ∧ K a h' ∧ h'.le H' ∧ Fr h H h' H' ∧ R w0 ρ' H' w'

/-- What a function of the model does, told in the abstract memory. -/
def AC (P : Program) : CSem := fun f args h Q =>
  (∀ (va : Array Value) (w : World), (callFunc f va).run P w = .ok (.enter f va) w) ∧
  ∀ w0 ρ H w (va : List Value), h.le H → R w0 ρ H w → VRels ρ args va →
    Calls P f va.toArray w fun e w' => ∃ v, e = .returned v ∧ After w0 ρ h H Q v w'

theorem After.mono {w0 : World} {ρ : Locs} {h H : AHeap} {K K' : AVal → AHeap → Prop} {v : Value} {w' : World} (hk : ∀ a h, K a h → K' a h) (x : After w0 ρ h H K v w') : After w0 ρ h H K' v w' := by
  obtain ⟨a, ρ', h', H', h1, h2, h3, h4⟩ := x.ex
  exact ⟨⟨a, ρ', h', H', h1, h2, hk _ _ h3, h4⟩⟩

theorem AC.mono {P : Program} {f : Nat} {args : List AVal} {h : AHeap} {Q Q' : AVal → AHeap → Prop} (hq : ∀ a h, Q a h → Q' a h) (x : AC P f args h Q) : AC P f args h Q' :=
  ⟨x.1, fun w0 ρ H w va h1 h2 h3 => (x.2 w0 ρ H w va h1 h2 h3).mono fun _ _ ⟨v, e1, e2⟩ => ⟨v, e1, e2.mono hq⟩⟩

/-- Of the memory that a call does not know nothing is asked: more of it may be known. -/
theorem AC.frame {P : Program} {f : Nat} {args : List AVal} {h : AHeap} {Q : AVal → AHeap → Prop} {id : Nat} {b : Blk} (x : AC P f args h Q) (hid : h id = none) :
    AC P f args (upd h id b) fun a h'' => ∃ h', Q a h' ∧ h' id = none ∧ h'' = upd h' id b := by
  refine ⟨x.1, fun w0 ρ H w va h1 h2 h3 => ?_⟩
  have hH : H id = some b := h1 id b (upd_same ..)
  have hle : h.le H := AHeap.le_trans (le_upd b hid) h1
  refine (x.2 w0 ρ H w va hle h2 h3).mono fun e w' ⟨v, e1, e2⟩ => ⟨v, e1, ?_⟩
  obtain ⟨a, ρ', h', H', k1, k2, k3, k4, k5, k6⟩ := e2.ex
  obtain ⟨m1, m2⟩ := k5 id hid b hH
  refine ⟨⟨a, ρ', upd h' id b, H', k1, k2, ⟨h', k3, m2, rfl⟩, ?_, ?_, k6⟩⟩
  · intro i x hx
    by_cases hi : i = id
    · subst hi; rw [upd_same] at hx; cases hx; exact m1
    · rw [upd_other _ _ hi] at hx; exact k4 i x hx
  · intro i hi x hx
    by_cases hi' : i = id
    · subst hi'; rw [upd_same] at hi; cases hi
    · rw [upd_other _ _ hi'] at hi
      rw [upd_other _ _ hi']
      exact k5 i hi x hx

/-! Constants and operands. -/
theorem ofC_rel (ρ : Locs) : ∀ v : Value, VRel ρ (ofC v) v
  | .bool _ => rfl
  | .int _ _ => rfl
  | .string s => ⟨s, rfl, rfl⟩
  | .pointer none => rfl
  | .pointer (some _) => trivial
  | .slice none 0 0 => rfl
  | .slice none 0 (_ + 1) => trivial
  | .slice none (_ + 1) _ => trivial
  | .slice (some _) _ _ => trivial
  | .nilFunc => rfl
  | .float _ _ => trivial
  | .complex _ _ _ => trivial
  | .map _ => trivial
  | .chan _ => trivial
  | .func _ _ _ => trivial
  | .iface _ _ => trivial
  | .nilIface => trivial
  | .agg _ => trivial
  | .tuple _ => trivial

theorem oneCell_of_isCell {ρ : Locs} : ∀ {a : AVal} {v : Value}, a.isCell = true → VRel ρ a v → v.oneCell' = true
  | .undef, _, h, _ => by simp [AVal.isCell] at h
  | .agg _, _, h, _ => by simp [AVal.isCell] at h
  | .tup _, _, h, _ => by simp [AVal.isCell] at h
  | .bool _, _, _, e => by cases e; rfl
  | .int _ _, _, _, e => by cases e; rfl
  | .str _, _, _, ⟨_, e, _⟩ => by subst e; rfl
  | .nilp, _, _, e => by cases e; rfl
  | .ptr _ _ _, _, _, ⟨_, _, _, e⟩ => by subst e; rfl
  | .nils, _, _, e => by cases e; rfl
  | .sz, _, _, ⟨_, e⟩ => by subst e; rfl
  | .sl _ _ _ _ _ _, _, _, ⟨_, _, _, .inl ⟨_, e, _⟩⟩ => by subst e; rfl
  | .sl _ _ _ _ _ _, _, _, ⟨_, _, _, .inr ⟨_, _, _, e⟩⟩ => by subst e; rfl
  | .nilf, _, _, e => by cases e; rfl
  | .fn _ _ _, _, _, ⟨_, _, e, _⟩ => by subst e; rfl

theorem cells_of_oneCell : ∀ {v : Value}, v.oneCell' = true → v.cells = #[v]
  | .agg _, h => by simp [Value.oneCell'] at h
  | .bool _, _ | .int _ _, _ | .float _ _, _ | .complex _ _ _, _ | .string _, _ | .pointer _, _ | .slice _ _ _, _ | .map _, _ | .chan _, _ | .func _ _ _, _ | .nilFunc, _
  | .iface _ _, _ | .nilIface, _ | .tuple _, _ => rfl

theorem ofCs_rel (ρ : Locs) : ∀ l : List Value, VRels ρ (l.map ofC) l
  | [] => rfl
  | v :: l => ⟨v, l, rfl, ofC_rel ρ v, ofCs_rel ρ l⟩

theorem ofV_rel (ρ : Locs) : ∀ v : Value, VRel ρ (ofV v) v
  | .agg cs => by
    simp only [ofV]
    by_cases h : (cs.all fun c => (ofC c).isCell) = true
    · rw [if_pos h]
      refine ⟨cs.toList, by simp, ofCs_rel ρ _, fun u hu => ?_⟩
      rw [Array.all_eq_true_iff_forall_mem] at h
      exact oneCell_of_isCell (h u (by simpa using hu)) (ofC_rel ρ u)
    · rw [if_neg h]; trivial
  | .bool _ | .int _ _ | .float _ _ | .complex _ _ _ | .string _ | .pointer _ | .slice _ _ _ | .map _ | .chan _ | .func _ _ _ | .nilFunc
  | .iface _ _ | .nilIface | .tuple _ => by simp only [ofV]; exact ofC_rel ρ _

theorem evS_rel {ρ : Locs} {s : Slots} {a : Act} (h : SRel ρ s a) : ∀ x : Operand, VRel ρ (evS s x) (a.eval x)
  | .tmp t => h t
  | .const v => ofV_rel ρ v
  | .global _ => trivial
  | .func _ => ⟨[], [], rfl, rfl, rfl⟩

theorem evSs_rel {ρ : Locs} {s : Slots} {a : Act} (h : SRel ρ s a) : ∀ xs : List Operand, VRels ρ (xs.map (evS s)) (xs.map a.eval)
  | [] => rfl
  | x :: xs => ⟨_, _, rfl, evS_rel h x, evSs_rel h xs⟩

theorem SRel.mono {ρ ρ' : Locs} {s : Slots} {a : Act} (h : SRel ρ s a) (hle : ρ.le ρ') : SRel ρ' s a := fun k => (h k).mono hle

theorem SRel.put {ρ : Locs} {s : Slots} {a : Act} (h : SRel ρ s a) {d : Option Nat} {x : AVal} {v : Value} (hv : VRel ρ x v) (hd : ∀ k, d = some k → k < a.tmps.size) :
    SRel ρ (putS s d x) (a.put d v) := by
  cases d with
  | none => exact h
  | some d =>
    intro k
    by_cases hk : k = d
    · subst hk
      have hlt := hd k rfl
      simp only [putS, Act.put]
      rw [show Nat.beq k k = true from by simp]
      have hg : (a.tmps.setIfInBounds k v).getD k Go.undef = v := by simp [hlt]
      rw [hg]; exact hv
    · have hb : Nat.beq k d = false := by rw [← Bool.not_eq_true, Nat.beq_eq]; exact hk
      simp only [putS, Act.put, hb, cond_false]
      have hg : (a.tmps.setIfInBounds d v).getD k Go.undef = a.tmps.getD k Go.undef := by
        simp [Array.getElem?_setIfInBounds_ne (Ne.symm hk)]
      rw [hg]; exact h k

/-! What stands behind one operation. -/
section
variable {P : Program} {w0 : World} {ρ : Locs} {h H : AHeap} {w : World} {a : Act} {K : AVal → AHeap → Prop} {o : Oper} {Q : Exit → Act → World → Prop}

def OpOk (P : Program) (w0 : World) (ρ : Locs) (h H : AHeap) (K : AVal → AHeap → Prop) (o : Oper) (a : Act) (w : World) (Q : Exit → Act → World → Prop) : Prop :=
  o.wp P a w (fun a' w' => ∃ v, After w0 ρ h H K v w' ∧ a' = a.put o.dst v) Q

theorem ok_value {v : Value} {w' : World} (hr : (execOp a.eval o).run P w = .ok (.value v) w') (hA : After w0 ρ h H K v w') : OpOk P w0 ρ h H K o a w Q := by
  unfold OpOk Oper.wp
  rw [hr]
  exact ⟨v, hA, rfl⟩

theorem ok_skip {w' : World} (hr : (execOp a.eval o).run P w = .ok .skip w') (hA : After w0 ρ h H K Go.undef w') : OpOk P w0 ρ h H K o a w Q := by
  unfold OpOk Oper.wp
  rw [hr]
  exact ⟨Go.undef, hA, rfl⟩

theorem after_same (hR : R w0 ρ H w) (hle : h.le H) {x : AVal} {v : Value} (hv : VRel ρ x v) (hK : K x h) : After w0 ρ h H K v w :=
  ⟨⟨x, ρ, h, H, Locs.le_refl ρ, hv, hK, hle, Fr.refl h H, hR⟩⟩

/-- A quiet operation: a value, no memory. -/
theorem ok_pure (hR : R w0 ρ H w) (hle : h.le H) {x : AVal} {v : Value} (hr : (execOp a.eval o).run P w = .ok (.value v) w) (hv : VRel ρ x v) (hK : K x h) : OpOk P w0 ρ h H K o a w Q :=
  ok_value hr (after_same hR hle hv hK)
end

/-! Types. -/
theorem run_isAgg {P : Program} {t : TypeId} {d : TypeDesc} (h : P.underlying t = some d) (w : World) : (isAgg t).run P w = .ok (isAggB P t) w := by
  unfold isAgg isAggB
  rw [h]
  cases d <;> simp [run_underlying h]

theorem pv_some {o : Option AVal} {K : AVal → Prop} (h : A.pv o K) : ∃ v, o = some v ∧ K v := by
  cases o with
  | none => exact h.elim
  | some v => exact ⟨v, rfl, h⟩

theorem run_sizeOf {P : Program} {t : TypeId} {i : TypeInfo} (h : P.info? t = some i) (w : World) : (sizeOf t).run P w = .ok i.size w := by
  simp [sizeOf, typeInfo, h]
theorem cellsOf_eq {P : Program} {t : TypeId} {i : TypeInfo} (h : P.info? t = some i) : P.cellsOf t = i.size := by simp [Program.cellsOf, h]
theorem info_of_underlying {P : Program} {t : TypeId} {d : TypeDesc} (h : P.underlying t = some d) : ∃ i, P.info? t = some i := by
  unfold Program.underlying at h
  cases hi : P.info? t with
  | none => simp [hi] at h
  | some i => exact ⟨i, rfl⟩

end Go.Ab
