/- What is proved: a part of the way to the statement: Pkit, AcP, AcQ, AcS, SrtA, SrtB, SrtC, SrtD, SrtE, SrtF, SrtG, SrtH, SrtI, SrtJ, SrtK, SrtP, SrtT, SrtP2, SrtP3, SrtP4, SrtP5, SrtP6, SrtP7, SrtP8, Rwindow, C01, Rlot, Rref04, Rtell, Rref14, Rref13, Ctell, Ctell2, Ctell3, SrtP9, SrtP10, SrtO, SrtQ, AcV, C01b, Clot, Clot2, Clot3, Clot4, Rlaw04, Claw04, Claw04b, Rrank, Rref09, Crank, Crank2, SrtV, Cstr. No conditions. -/
import Derived.Test.YtmabmeiangoepaaGreatQ7
import Derived.Test.YtmabmeiangoepaaGreatQ3
import Derived.Test.YtmabmeiangoepaaGreatQ6
import Derived.KernelRfl
set_option linter.unusedVariables false
set_option linter.unusedSimpArgs false
namespace Go.Ab
section
variable {V : Type}
def maxD (f : V → Option Nat) : List V → Nat → Option Nat
 | [], m => some m
 | p :: r, m => match f p with
  | some d => maxD f r (max m (1 + d))
  | none => none
theorem zim {f : V → Option Nat} {p : V} {r : List V} {m : Nat} : maxD f (p :: r) m = (f p).bind fun d => maxD f r (max m (1 + d)) := by
 rw [maxD]; cases f p <;> rfl
theorem zms (f : V → Option Nat) : ∀ (l k : List V) (m : Nat), maxD f (l ++ k) m = (maxD f l m).bind fun a => maxD f k a
 | [], _, _ => rfl
 | p :: r, k, m => by
  rw [List.cons_append, zim, zim]
  cases f p with
  | none => rfl
  | some d => exact zms f r k _
theorem zql {f g : V → Option Nat} : ∀ {l : List V} {m r : Nat}, (∀ p ∈ l, ∀ d, f p = some d → g p = some d) → maxD f l m = some r → maxD g l m = some r
 | [], _, _, _, h => h
 | p :: l, m, r, hfg, h => by
  rw [zim] at h ⊢
  cases hp : f p with
  | none => rw [hp] at h; cases h
  | some d =>
   rw [hp] at h
   rw [hfg p (by simp) d hp]
   exact zql (fun q hq => hfg q (List.mem_cons_of_mem _ hq)) h
theorem zoe {f : V → Option Nat} : ∀ {l : List V} {m r : Nat}, maxD f l m = some r → m ≤ r ∧ ∀ p ∈ l, ∃ d, f p = some d ∧ 1 + d ≤ r
 | [], m, r, h => by cases h; exact ⟨Nat.le_refl _, fun _ h => by cases h⟩
 | p :: l, m, r, h => by
  rw [zim] at h
  cases hp : f p with
  | none => rw [hp] at h; cases h
  | some d =>
   rw [hp] at h
   obtain ⟨h1, h2⟩ := zoe (l := l) h
   refine ⟨by omega, fun q hq => ?_⟩
   rcases List.mem_cons.1 hq with rfl | hq
   ·exact ⟨d, hp, by omega⟩
   ·exact h2 q hq
theorem maxD_top {f : V → Option Nat} : ∀ {l : List V} {m r : Nat}, maxD f l m = some r → r = m ∨ ∃ p ∈ l, ∃ d, f p = some d ∧ r = 1 + d
 | [], m, r, h => by cases h; exact .inl rfl
 | p :: l, m, r, h => by
  rw [zim] at h
  cases hp : f p with
  | none => rw [hp] at h; cases h
  | some d =>
   rw [hp] at h
   rcases maxD_top (l := l) h with h | ⟨q, hq, e, h1, h2⟩
   ·by_cases hm : m < 1 + d
    ·exact .inr ⟨p, by simp, d, hp, by omega⟩
    ·exact .inl (by omega)
   ·exact .inr ⟨q, List.mem_cons_of_mem _ hq, e, h1, h2⟩
theorem maxD_none {f : V → Option Nat} {l : List V} {m : Nat} {p : V} (hp : p ∈ l) (hf : f p = none) : maxD f l m = none := by
 cases h : maxD f l m with
 | none => rfl
 | some r => obtain ⟨d, h1, _⟩ := (zoe h).2 p hp; rw [hf] at h1; cases h1
variable (E : V → List V)
def depF : Nat → V → Option Nat
 | 0, _ => none
 | n + 1, c => maxD (depF n) (E c) 1
variable {E}
theorem zq5 : ∀ {n : Nat} {c : V} {d : Nat}, depF E n c = some d → depF E (n + 1) c = some d
 | 0, _, _, h => by cases h
 | n + 1, c, d, h => zql (fun p _ e he => zq5 he) h
theorem depF_le {n m : Nat} (hm : n ≤ m) {c : V} {d : Nat} (h : depF E n c = some d) : depF E m c = some d := by
 obtain ⟨k, rfl⟩ := Nat.exists_eq_add_of_le hm
 clear hm
 induction k with
 | zero => exact h
 | succ k ih => exact zq5 ih
theorem depF_fun {n m : Nat} {c : V} {d e : Nat} (h1 : depF E n c = some d) (h2 : depF E m c = some e) : d = e := by
 have a := depF_le (Nat.le_max_left n m) h1
 rw [depF_le (Nat.le_max_right n m) h2] at a
 exact (Option.some.inj a).symm
theorem depF_pos {n : Nat} {c : V} {d : Nat} (h : depF E n c = some d) : 1 ≤ d := by
 cases n with
 | zero => cases h
 | succ n => exact (zoe h).1
theorem depF_self : ∀ {n : Nat} {c : V} {d : Nat}, depF E n c = some d → depF E d c = some d
 | 0, _, _, h => by cases h
 | n + 1, c, d, h => by
  have h1 := depF_pos h
  obtain ⟨e, rfl⟩ : ∃ e, d = e + 1 := ⟨d - 1, by omega⟩
  refine zql (fun p hp x hx => ?_) h
  obtain ⟨y, hy, hle⟩ := (zoe h).2 p hp
  rw [hy] at hx
  cases hx
  exact depF_le (by omega) (depF_self hy)
theorem zr9 {K : List V} (hcl : ∀ c ∈ K, ∀ p ∈ E c, p ∈ K) : ∀ {n : Nat} {c : V} {d : Nat}, depF E n c = some d → c ∈ K → ∀ e, 1 ≤ e → e ≤ d → ∃ c' ∈ K, ∃ m, depF E m c' = some e
 | 0, _, _, h, _, _, _, _ => by cases h
 | n + 1, c, d, h, hc, e, h1, h2 => by
  by_cases he : e = d
  ·subst he; exact ⟨c, hc, _, h⟩
  ·rcases maxD_top h with rfl | ⟨p, hp, x, hx, rfl⟩
   ·omega
   ·exact zr9 hcl hx (hcl c hc p hp) e h1 (by omega)
theorem zsa {K : List V} (hcl : ∀ c ∈ K, ∀ p ∈ E c, p ∈ K) {n : Nat} {c : V} {d : Nat} (h : depF E n c = some d) (hc : c ∈ K) : d ≤ K.length := by
 have : ∀ j, j ≤ d → ∃ l : List V, l.length = j ∧ l.Nodup ∧ ∀ x ∈ l, x ∈ K ∧ ∃ m e, depF E m x = some e ∧ e ≤ j := by
  intro j
  induction j with
  | zero => exact fun _ => ⟨[], rfl, List.Pairwise.nil, fun _ h => by cases h⟩
  | succ j ih =>
   intro hj
   obtain ⟨l, h1, h2, h3⟩ := ih (by omega)
   obtain ⟨c', k1, m, k2⟩ := zr9 hcl h hc (j + 1) (by omega) hj
   refine ⟨c' :: l, by simp [h1], List.nodup_cons.2 ⟨fun hm => ?_, h2⟩, fun x hx => ?_⟩
   ·obtain ⟨_, m', e, k3, k4⟩ := h3 c' hm
    have := depF_fun k2 k3
    omega
   ·rcases List.mem_cons.1 hx with rfl | hx
    ·exact ⟨k1, m, _, k2, Nat.le_refl _⟩
    ·obtain ⟨a, m', e, b, c⟩ := h3 x hx
     exact ⟨a, m', e, b, by omega⟩
 obtain ⟨l, h1, h2, h3⟩ := this d (Nat.le_refl _)
 have := List.Nodup.length_le_of_subset h2 (fun x hx => (h3 x hx).1)
 omega
structure Deep (E : V → List V) (K : List V) (D : V → Option Nat) : Prop where
 eq : ∀ c ∈ K, D c = maxD D (E c) 1
 cl : ∀ c ∈ K, ∀ p ∈ E c, p ∈ K
 le : ∀ c ∈ K, ∀ d, D c = some d → d ≤ K.length
theorem deep_depF {K : List V} (hcl : ∀ c ∈ K, ∀ p ∈ E c, p ∈ K) : Deep E K (depF E K.length) where
 cl := hcl
 le c hc d h := zsa hcl h hc
 eq c hc := by
  cases h : maxD (depF E K.length) (E c) 1 with
  | some r =>
   have h' : depF E (K.length + 1) c = some r := h
   exact depF_le (zsa hcl h' hc) (depF_self h')
  | none =>
   cases h2 : depF E K.length c with
   | none => rfl
   | some d =>
    have := zq5 h2
    rw [show depF E (K.length + 1) c = maxD (depF E K.length) (E c) 1 from rfl, h] at this
    cases this
variable {K : List V} {D : V → Option Nat}
theorem Deep.pos (h : Deep E K D) {c : V} (hc : c ∈ K) {d : Nat} (hd : D c = some d) : 1 ≤ d := by
 rw [h.eq c hc] at hd; exact (zoe hd).1
theorem Deep.step (h : Deep E K D) {c p : V} (hc : c ∈ K) (hp : p ∈ E c) {d : Nat} (hd : D c = some d) : ∃ e, D p = some e ∧ e < d := by
 rw [h.eq c hc] at hd
 obtain ⟨e, h1, h2⟩ := (zoe hd).2 p hp
 exact ⟨e, h1, by omega⟩
inductive Way1 (E : V → List V) : V → V → Prop
 | one {c p : V} : p ∈ E c → Way1 E c p
 | more {c p q : V} : Way1 E c p → q ∈ E p → Way1 E c q
theorem Deep.way (h : Deep E K D) {c p : V} (w : Way1 E c p) : c ∈ K → p ∈ K ∧ ∀ d, D c = some d → ∃ e, D p = some e ∧ e < d := by
 induction w with
 | one hp => exact fun hc => ⟨h.cl _ hc _ hp, fun d hd => h.step hc hp hd⟩
 | more w hq ih =>
  intro hc
  obtain ⟨h1, h2⟩ := ih hc
  refine ⟨h.cl _ h1 _ hq, fun d hd => ?_⟩
  obtain ⟨e, he, hlt⟩ := h2 d hd
  obtain ⟨e', he', hlt'⟩ := h.step h1 hq he
  exact ⟨e', he', by omega⟩
theorem Deep.round (h : Deep E K D) {c : V} (w : Way1 E c c) (hc : c ∈ K) : D c = none := by
 cases hd : D c with
 | none => rfl
 | some d => obtain ⟨e, h1, h2⟩ := (h.way w hc).2 d hd; rw [hd] at h1; cases h1; omega
theorem Deep.no (h : Deep E K D) {c p : V} (hc : c ∈ K) (hp : p ∈ E c) (hd : D p = none) : D c = none := by
 rw [h.eq c hc]; exact maxD_none hp hd
end
def zg0 (L : List Itm) (c : List UInt8) : Option Itm := L.find? fun x => decide (x.Code = c)
def zeq (x : Itm) : List (List UInt8) := x.zb7.map Part.Item
def zji (L : List Itm) (c : List UInt8) : List (List UInt8) := match zg0 L c with | some x => zeq x | none => []
def zdq (L : List Itm) : List (List UInt8) := L.map Itm.Code
def zfi (L : List Itm) (c : List UInt8) : Option Nat := depF (zji L) L.length c
def zhh (x : Itm) : Bool := bif decide (x.zb7 = []) then decide (0 < x.Life) && decide (x.Life ≤ 2000) else
 (x.zb7.all fun p => decide (1 ≤ p.Qty) && decide (p.Qty ≤ 1073741824)) && (decide (zeq x).Nodup && (decide (x.Life = 0) && decide (x.zb7.length ≤ 8)))
def ordAt (L : List Itm) (i : Nat) (x : Itm) : Bool := decide (i = 0) || match L[i - 1]? with | some p => zgm p.Code x.Code | none => true
def zph (L : List Itm) (i : Nat) : Bool := match L[i]? with
 | some x => ze3 x.Code && (ordAt L i x && zhh x)
 | none => true
def zir (L : List Itm) : Bool := (List.range L.length).all (zph L)
def ze5 (L : List Itm) : Bool := L.all fun x => x.zb7.all fun p => (zdq L).contains p.Item
def zd6 (L : List Itm) : Int :=
 bif decide (60 < L.length) then 3 else bif !zir L then 4 else bif !ze5 L then 150 else
 bif L.any (fun x => decide (zfi L x.Code = none)) then 152 else bif L.any (fun x => decide (8 < (zfi L x.Code).getD 0)) then 3 else 0
theorem zo1 {L : List Itm} {i : Nat} (hi : i < L.length) (h : zph L i = false) : zir L = false := by
 unfold zir
 rw [List.all_eq_false]
 exact ⟨i, by simpa using hi, by simp [h]⟩
theorem zqs {L : List Itm} (h : ∀ i, i < L.length → zph L i = true) : zir L = true := by
 unfold zir
 rw [List.all_eq_true]
 exact fun i hi => h i (by simpa using hi)
theorem kitAll_at {L : List Itm} (h : zir L = true) {i : Nat} (hi : i < L.length) : zph L i = true := by
 unfold zir at h
 rw [List.all_eq_true] at h
 exact h i (by simpa using hi)
theorem zk2 {L : List Itm} {i : Nat} {x : Itm} (h : L[i]? = some x) : zph L i = (ze3 x.Code && (ordAt L i x && zhh x)) := by
 unfold zph; rw [h]
theorem zoc {L : List Itm} {i : Nat} {x p : Itm} (hi : i ≠ 0) (hp : L[i - 1]? = some p) : ordAt L i x = zgm p.Code x.Code := by
 unfold ordAt; rw [hp]; simp [hi]
theorem zrz {L : List Itm} (h : zir L = true) : ∀ {j : Nat} {y : Itm}, L[j]? = some y → ∀ {i : Nat} {x : Itm}, i < j → L[i]? = some x → zgm x.Code y.Code = true
 | 0, _, _, i, _, hi, _ => by omega
 | j + 1, y, hy, i, x, hi, hx => by
  have hj : j + 1 < L.length := List.getElem?_eq_some_iff.1 hy |>.1
  have := kitAll_at h hj
  rw [zk2 hy] at this
  obtain ⟨z, hz⟩ := ze8 (L := L) (k := j) (by omega)
  rw [zoc (p := z) (by omega) hz, Bool.and_eq_true, Bool.and_eq_true] at this
  have h1 : zgm z.Code y.Code = true := this.2.1
  by_cases e : i = j
  ·subst e; rw [hz] at hx; cases hx; exact h1
  ·exact zjy (zrz h hz (by omega) hx) h1
theorem zkq {L : List Itm} (h : zir L = true) : (zdq L).Nodup := by
 unfold zdq List.Nodup
 rw [List.pairwise_map, List.pairwise_iff_getElem]
 intro i j hi hj hij e
 have := zrz h (List.getElem?_eq_getElem hj) hij (List.getElem?_eq_getElem hi)
 exact lessB_ne this e
theorem zit {L : List Itm} {c : List UInt8} : zg0 L c = none ↔ c ∉ zdq L := by
 unfold zg0 zdq
 rw [List.find?_eq_none, List.mem_map]
 constructor
 ·rintro h ⟨x, hx, rfl⟩; exact h x hx (by simp)
 ·intro h x hx e; exact h ⟨x, hx, by simpa using e⟩
theorem zj1 {L : List Itm} {c : List UInt8} {x : Itm} (h : zg0 L c = some x) : x ∈ L ∧ x.Code = c :=
 ⟨List.mem_of_find?_eq_some h, by simpa using List.find?_some h⟩
theorem zr1 : ∀ {L : List Itm} (hn : (zdq L).Nodup) {x : Itm} (hx : x ∈ L), zg0 L x.Code = some x
 | y :: L, hn, x, hx => by
  have hn : (y.Code :: zdq L).Nodup := hn
  rw [List.nodup_cons] at hn
  unfold zg0
  rw [List.find?_cons]
  rcases List.mem_cons.1 hx with rfl | hx
  ·simp
  ·have : y.Code ≠ x.Code := fun e => hn.1 (by rw [e]; exact List.mem_map_of_mem hx)
   simp only [this, decide_false]
   exact zr1 hn.2 hx
theorem zom {L : List Itm} (h : ze5 L = true) : Deep (zji L) (zdq L) (zfi L) := by
 have hl : (zdq L).length = L.length := by simp [zdq]
 have := deep_depF (E := zji L) (K := zdq L) (fun c hc p hp => by
  unfold zji at hp
  cases hi : zg0 L c with
  | none => rw [hi] at hp; cases hp
  | some x =>
   rw [hi] at hp
   obtain ⟨q, hq, rfl⟩ := List.mem_map.1 hp
   unfold ze5 at h
   rw [List.all_eq_true] at h
   have := h x (zj1 hi).1
   rw [List.all_eq_true] at this
   simpa using this q hq)
 rw [hl] at this
 exact this
theorem partsL_mem {L : List Itm} (hn : (zdq L).Nodup) {x : Itm} (hx : x ∈ L) : zji L x.Code = zeq x := by
 unfold zji; rw [zr1 hn hx]
end Go.Ab
namespace Go.Ab
theorem flat_take {α : Type} {n : Nat} : ∀ {css : List (List α)}, (∀ cs ∈ css, cs.length = n) → ∀ k : Nat, (css.take k).flatten = css.flatten.take (k * n)
 | [], _, k => by simp
 | c :: css, hl, 0 => by simp
 | c :: css, hl, k + 1 => by
  have hc : c.length = n := hl c (by simp)
  rw [List.take_succ_cons, List.flatten_cons, List.flatten_cons, flat_take (fun p hp => hl p (by simp [hp])) k, Nat.add_mul, Nat.one_mul, show k * n + n = c.length + k * n by omega, List.take_length_add_append]
theorem flat_drop {α : Type} {n : Nat} : ∀ {css : List (List α)}, (∀ cs ∈ css, cs.length = n) → ∀ k : Nat, (css.drop k).flatten = css.flatten.drop (k * n)
 | [], _, k => by simp
 | c :: css, hl, 0 => by simp
 | c :: css, hl, k + 1 => by
  have hc : c.length = n := hl c (by simp)
  rw [List.drop_succ_cons, List.flatten_cons, flat_drop (fun p hp => hl p (by simp [hp])) k, Nat.add_mul, Nat.one_mul, show k * n + n = c.length + k * n by omega, List.drop_length_add_append]
theorem lay_read {cells Z F : List AVal} {off lo T : Nat} (h5 : (cells.drop off).take T = F) (hF : F.length = T) (hh : off + T ≤ cells.length) (hz : lo + Z.length ≤ T) :
  ((cells.take (off + lo) ++ Z ++ cells.drop (off + lo + Z.length)).drop off).take T = F.take lo ++ Z ++ F.drop (lo + Z.length) := by
 subst h5
 apply List.ext_getElem?
 intro k
 by_cases hk : k < T
 ·rw [List.getElem?_take_of_lt hk, List.getElem?_drop, List.append_assoc, List.append_assoc]
  have l1 : (cells.take (off + lo)).length = off + lo := by simp; omega
  have l2 : (((cells.drop off).take T).take lo).length = lo := by simp; omega
  rw [zk5 _ _ _ l1, zk5 _ _ _ l2, show off + k - (off + lo) = k - lo by omega]
  by_cases k1 : k < lo
  ·rw [if_pos (by omega), if_pos k1, List.getElem?_take_of_lt (by omega), List.getElem?_take_of_lt (by omega), List.getElem?_take_of_lt (by omega), List.getElem?_drop]
  ·rw [if_neg (by omega), if_neg k1]
   split
   ·rfl
   ·rw [List.getElem?_drop, List.getElem?_drop, List.getElem?_take_of_lt (by omega), List.getElem?_drop]
    congr 1
    omega
 ·rw [List.getElem?_take_eq_none (by omega), List.getElem?_eq_none]
  simp
  omega
section
variable {h h0 : zb} {es : Nat} {x : AVal} {L R : List (List AVal)} {l : List Ob}
theorem SlX.clrTail {lo : Nat} {z : List AVal} {K : AVal → zb → Prop} (ho : SlX h es x L R) (hown : ∀ id b, foot x = some id → h id = some b → b.own = true) (hz : z.length = es) (hlo : lo ≤ L.length)
  (hk : ∀ h', SlX h' es x (L.take lo ++ List.replicate (L.length - lo) z) R → (∀ id b, foot x = some id → h' id = some b → b.own = true) → But x h h' → K (.tup []) h') :
  ∃ y, V.zfj es x (some (.int .i64 (lo : Int))) none = some y ∧ A.clr h (some z) y K := by
 rcases ho.at_ with ⟨e, e', e''⟩ | ⟨id, g, off, cp, b, hi, h1, h1', h2, h3, h4, hh, h5⟩
 ·subst e e'
  have : lo = 0 := by simpa using hlo
  subst this
  refine ⟨x, ?_, ?_⟩
  ·rcases e'' with rfl | rfl <;> rfl
  ·have := hk h (by simpa using ho) hown (fun _ _ h _ => h)
   rcases e'' with rfl | rfl <;> exact this
 ·subst h1
  refine ⟨.sl id g (off + lo * es) (L.length - lo) es (max L.length cp - lo), ?_, ?_⟩
  ·simp only [V.zfj, endsC_eq (.inr ⟨_, rfl⟩) (.inl ⟨rfl, rfl⟩)]
   rw [if_pos ⟨hlo, by omega⟩]
   simp
  ·simp only [A.clr]
   split
   ·rename_i h0
    refine hk h ?_ hown (fun _ _ h _ => h)
    rw [h0, List.take_of_length_le (by omega)]
    simpa using ho
   ·rename_i hne
    have hown' := hown id b rfl h2
    generalize hZ : (List.replicate (L.length - lo) z).flatten = Z
    have hzl : Z.length = (L.length - lo) * es := by rw [← hZ]; simp [hz]
    have hTl : (L ++ R).length = L.length + R.length := by simp
    have hmul : lo * es + (L.length - lo) * es = L.length * es := by rw [← Nat.add_mul]; congr 1; omega
    have hmul2 : L.length * es + R.length * es = (L.length + R.length) * es := by rw [← Nat.add_mul]
    have hbl : Nat.ble (0 + (off + lo * es) + (L.length - lo) * es) hi = true := by rw [Nat.ble_eq]; omega
    have hput : V.putN (off + lo * es) ((L.length - lo) * es) (.agg Z) b.cells = some (b.cells.take (off + lo * es) ++ Z ++ b.cells.drop (off + lo * es + (L.length - lo) * es)) := by
     simp only [V.putN]; rw [if_pos ⟨hzl, by omega⟩]
    simp only [A.stv, h2, h3, hown', hbl, Bool.true_and, cond_true, hput, A.ph]
    have rd := lay_read (cells := b.cells) (Z := Z) (off := off) (lo := lo * es) h5 (by rw [zi6 ho.len, hTl]) (by omega) (by rw [hzl]; omega)
    have hnew : (L.take lo ++ List.replicate (L.length - lo) z ++ R).flatten = (L ++ R).flatten.take (lo * es) ++ Z ++ (L ++ R).flatten.drop (lo * es + Z.length) := by
     rw [List.flatten_append, List.flatten_append, hZ, hzl, hmul, ← flat_take ho.len, ← flat_drop ho.len, List.take_append_of_le_length hlo, List.drop_left]
    rw [← hnew, hzl] at rd
    have hll : (L.take lo ++ List.replicate (L.length - lo) z).length = L.length := by simp; omega
    have hlen' : ∀ p ∈ L.take lo ++ List.replicate (L.length - lo) z ++ R, p.length = es := fun p hp => by
     rcases List.mem_append.1 hp with hp | hp
     ·rcases List.mem_append.1 hp with hp | hp
      ·exact ho.len p (List.mem_append_left _ (List.mem_of_mem_take hp))
      ·rw [(List.mem_replicate.1 hp).2]; exact hz
     ·exact ho.len p (List.mem_append_right _ hp)
    refine hk _ ⟨hlen', .inr ⟨id, g, off, cp, _, hi, by rw [hll], by rw [hll]; exact h1', zbu .., zf9 .., by rw [hll]; exact h4, ?_, by simp only; rw [hll]; exact rd⟩⟩ (fun j b1 hj hb1 => ?_) (fun j b1 e1 e2 => ?_)
    ·simp; omega
    ·cases hj
     rw [zbu] at hb1; cases hb1; rfl
    ·rw [zq]
     ·exact e1
     ·intro e; subst e; exact e2 rfl
theorem Owns.clrTail {lo : Nat} {z : List AVal} {K : AVal → zb → Prop} (ho : Owns h0 h l) (k : Nat) (hk : l[k]? = some (.sl es x L R)) (hz : z.length = es) (hlo : lo ≤ L.length)
  (hK : ∀ h', Owns h0 h' (l.set k (.sl es x (L.take lo ++ List.replicate (L.length - lo) z) R)) → But x h h' → K (.tup []) h') :
  ∃ y, V.zfj es x (some (.int .i64 (lo : Int))) none = some y ∧ A.clr h (some z) y K :=
 (ho.slAt k hk).clrTail (ho.zng k hk) hz hlo fun h' h1 h2 h3 => hK h' (ho.turn k hk h1 h2 h3 (.inl rfl)) h3
end
end Go.Ab
namespace Go.Ab
abbrev Ents (K T : Type) := List (K × T × Nat)
def zmu {K T : Type} (ps : Ents K T) : List K := ps.map (·.1)
theorem zk4 {K T : Type} (p : K × T × Nat) (r : Ents K T) : zmu (p :: r) = p.1 :: zmu r := rfl
section
variable {K T : Type} [DecidableEq K]
def getP : Ents K T → K → Option T
 | [], _ => none
 | p :: r, k => if p.1 = k then some p.2.1 else getP r k
def putP : Ents K T → K → T → Nat → Ents K T
 | [], k, t, c => [(k, t, c)]
 | p :: r, k, t, c => if p.1 = k then (k, t, p.2.2) :: r else p :: putP r k t c
def clkP (ps : Ents K T) (k : K) (c : Nat) : Nat := if (getP ps k).isSome then c else c + 1
def idxP : Ents K T → K → Option (Nat × T × Nat)
 | [], _ => none
 | p :: r, k => if p.1 = k then some (0, p.2.1, p.2.2) else (idxP r k).map fun (i, q) => (i + 1, q)
theorem zfd (k k' : K) (t : T) (c : Nat) : ∀ ps : Ents K T, getP (putP ps k t c) k' = if k' = k then some t else getP ps k'
 | [] => by
  simp only [putP, getP]
  by_cases h : k' = k
  ·rw [if_pos h.symm, if_pos h]
  ·rw [if_neg (Ne.symm h), if_neg h]
 | p :: r => by
  have ih := zfd k k' t c r
  simp only [putP]
  by_cases hp : p.1 = k
  ·rw [if_pos hp]
   simp only [getP]
   by_cases h : k' = k
   ·rw [if_pos h.symm, if_pos h]
   ·rw [if_neg (Ne.symm h), if_neg h, if_neg (by rw [hp]; exact Ne.symm h)]
  ·rw [if_neg hp]
   simp only [getP, ih]
   by_cases h : k' = k
   ·subst h; rw [if_neg hp, if_pos rfl, if_pos rfl]
   ·rw [if_neg h, if_neg h]
theorem zpr (k : K) : ∀ ps : Ents K T, getP ps k = (idxP ps k).map (·.2.1)
 | [] => rfl
 | p :: r => by
  simp only [getP, idxP]
  split
  ·rfl
  ·rw [zpr k r]; cases idxP r k <;> rfl
theorem idxP_put {k : K} {t : T} {c i : Nat} {q : T × Nat} : ∀ {ps : Ents K T}, idxP ps k = some (i, q) → putP ps k t c = ps.set i (k, t, q.2) ∧ i < ps.length
 | [], h => by simp [idxP] at h
 | p :: r, h => by
  simp only [idxP] at h
  by_cases hp : p.1 = k
  ·rw [if_pos hp] at h
   simp only [Option.some.injEq, Prod.mk.injEq] at h
   obtain ⟨rfl, rfl⟩ := h
   simp [putP, hp]
  ·rw [if_neg hp] at h
   cases hr : idxP r k with
   | none => simp [hr] at h
   | some x =>
    obtain ⟨j, q'⟩ := x
    simp [hr] at h
    obtain ⟨rfl, rfl⟩ := h
    have := idxP_put (t := t) (c := c) hr
    simp [putP, hp, this.1, this.2]
theorem zj2 {k : K} {t : T} {c : Nat} : ∀ {ps : Ents K T}, idxP ps k = none → putP ps k t c = ps ++ [(k, t, c)]
 | [], _ => rfl
 | p :: r, h => by
  simp only [idxP] at h
  by_cases hp : p.1 = k
  ·rw [if_pos hp] at h; cases h
  ·rw [if_neg hp] at h
   cases hr : idxP r k with
   | none => simp [putP, hp, zj2 hr]
   | some x => simp [hr] at h
theorem zqt (k : K) (t : T) (c : Nat) : ∀ ps : Ents K T, zmu (putP ps k t c) = if k ∈ zmu ps then zmu ps else zmu ps ++ [k]
 | [] => by simp [putP, zmu]
 | p :: r => by
  have ih := zqt k t c r
  by_cases hp : p.1 = k
  ·rw [putP, if_pos hp, zk4, zk4, if_pos (by simp [hp]), hp]
  ·rw [putP, if_neg hp, zk4, ih, zk4]
   by_cases hm : k ∈ zmu r
   ·rw [if_pos hm, if_pos (by simp [hm])]
   ·rw [if_neg hm, if_neg (by simp [hm, Ne.symm hp])]; rfl
theorem nodup_put {ps : Ents K T} (h : (zmu ps).Nodup) (k : K) (t : T) (c : Nat) : (zmu (putP ps k t c)).Nodup := by
 rw [zqt]
 split
 ·exact h
 ·rename_i hk
  rw [List.nodup_append]
  exact ⟨h, List.pairwise_singleton _ _, fun a ha b hb e => hk (by rw [List.mem_singleton.1 hb] at e; rw [← e]; exact ha)⟩
theorem getP_mem {k : K} {t : T} : ∀ {ps : Ents K T}, getP ps k = some t → ∃ n, (k, t, n) ∈ ps
 | [], h => by simp [getP] at h
 | p :: r, h => by
  simp only [getP] at h
  by_cases hp : p.1 = k
  ·rw [if_pos hp] at h
   cases h
   exact ⟨p.2.2, by rw [← hp]; simp⟩
  ·rw [if_neg hp] at h
   obtain ⟨n, hn⟩ := getP_mem h
   exact ⟨n, by simp [hn]⟩
theorem mem_getP {ps : Ents K T} (hn : (zmu ps).Nodup) {p : K × T × Nat} (hp : p ∈ ps) : getP ps p.1 = some p.2.1 := by
 induction ps with
 | nil => cases hp
 | cons q r ih =>
  simp only [zmu, List.map_cons, List.nodup_cons] at hn
  simp only [getP]
  rcases List.mem_cons.1 hp with rfl | hp
  ·rw [if_pos rfl]
  ·rw [if_neg, ih hn.2 hp]
   intro e
   exact hn.1 (by rw [e]; exact List.mem_map_of_mem hp)
end
structure KeyE (kd : KD) {K : Type} [DecidableEq K] (κ : K → AVal) : Prop where
 same : ∀ a b, V.sameK kd (κ a) (κ b) = some (decide (a = b))
theorem keyS : KeyE .s (fun s : List UInt8 => .str s) := ⟨fun a b => by
 simp only [V.sameK]; congr 1; rw [Bool.eq_iff_iff, beq_iff_eq, decide_eq_true_eq]⟩
def encM {K T : Type} (κ : K → AVal) (v : T → AVal) (ps : Ents K T) : List (AVal × AVal × Nat) := ps.map fun p => (κ p.1, v p.2.1, p.2.2)
section
variable {kd : KD} {K T : Type} [DecidableEq K] {κ : K → AVal} {v : T → AVal}
theorem zqz (hκ : KeyE kd κ) (k : K) : ∀ (ps : Ents K T) (i : Nat), V.findK kd (κ k) (encM κ v ps) i = some ((idxP ps k).map fun (j, q) => (i + j, v q.1, q.2))
 | [], i => rfl
 | p :: r, i => by
  simp only [encM, List.map_cons, V.findK, hκ.same, idxP]
  by_cases hp : k = p.1
  ·rw [if_pos hp.symm]; simp [hp]
  ·rw [if_neg (Ne.symm hp)]
   have ih := zqz hκ k r (i + 1)
   simp only [encM] at ih
   simp only [hp, decide_false, ih]
   cases idxP r k with
   | none => rfl
   | some x => obtain ⟨j, q⟩ := x; simp only [Option.map_some]; congr 3; omega
theorem fset_enc (hκ : KeyE kd κ) (k : K) (t : T) (ps : Ents K T) (c : Nat) : A.fset (some kd) (κ k) (v t) (encM κ v ps) c = some (encM κ v (putP ps k t c), clkP ps k c, .undef) := by
 simp only [A.fset, zqz hκ, clkP, zpr]
 cases h : idxP ps k with
 | none => simp [zj2 h, encM]
 | some x =>
  obtain ⟨j, q⟩ := x
  have := idxP_put (t := t) (c := c) h
  simp only [Option.map_some, Option.isSome_some, if_true, Nat.zero_add, this.1, encM, List.map_set]
end
def zh2 (es : List (AVal × AVal × Nat)) (c : Nat) : Blk := zgj (.map es c)
theorem Owns.newBlk {h0 h : zb} {l : List Ob} (ho : Owns h0 h l) {id : Nat} (hid : h id = none) {b : Blk} (hb : b.own = true) : Owns h0 (upd h id b) (l ++ [.blk id b]) :=
 ho.join ⟨zgh _ hid, fun o hm => by rw [List.mem_singleton.1 hm]; exact zbu .., fun o hm j hj => by rw [List.mem_singleton.1 hm] at hj; cases hj; exact ⟨hid, fun b hb' => by rw [zbu] at hb'; cases hb'; exact hb⟩, List.pairwise_singleton _ _⟩
theorem Owns.zjl {h0 h : zb} {l : List Ob} {K T : Type} (ho : Owns h0 h l) (κ : K → AVal) (v : T → AVal) {Q : AVal → zb → Prop} (hq : ∀ id h', h id = none → Owns h0 h' (l ++ [.blk id (zh2 (encM κ v []) 0)]) → h.le h' → Q (.mp id) h') : B.zjl h Q :=
 fun id hid => hq id _ hid (ho.newBlk hid rfl) (zgh _ hid)
section
variable {h0 h : zb} {l : List Ob} {kd : KD} {K T : Type} [DecidableEq K] {κ : K → AVal} {v : T → AVal}
theorem Owns.setBlk (ho : Owns h0 h l) (k : Nat) {id : Nat} {b b' : Blk} (hk : l[k]? = some (.blk id b)) (hb : b'.own = true) : Owns h0 (upd h id b') (l.set k (.blk id b')) :=
 ho.turn k hk (zbu ..) (fun j c hj hc => by cases hj; rw [zbu] at hc; cases hc; exact hb) (fun j c e1 e2 => by rw [zq]; exact e1; intro e; subst e; exact e2 rfl) (.inl rfl)
theorem znh {id : Nat} {es : List (AVal × AVal × Nat)} {c : Nat} (hb : h id = some (zh2 es c)) : A.zln h (.mp id) = some (es, c) := by simp [A.zln, hb, zh2, zgj]
theorem objT_blk {id : Nat} {es es' : List (AVal × AVal × Nat)} {c c' : Nat} {u : AVal} {f : List (AVal × AVal × Nat) → Nat → Option (List (AVal × AVal × Nat) × Nat × AVal)} {Q : AVal → zb → Prop} (hb : h id = some (zh2 es c)) (hf : f es c = some (es', c', u))
  (hq : Q u (upd h id (zh2 es' c'))) : A.objT h (.mp id) f Q := by
 unfold zh2 zgj at *
 simp only [A.objT, hb, hf]
 exact hq
theorem lkp_blk {id : Nat} {c : Nat} {ps : Ents K T} (hκ : KeyE kd κ) (hb : h id = some (zh2 (encM κ v ps) c)) (z : T) (k : K) (ok : Bool) :
  A.lkp h (some kd) (some (v z)) ok (.mp id) (κ k) = some (bif ok then .tup [v ((getP ps k).getD z), .bool (getP ps k).isSome] else v ((getP ps k).getD z)) := by
 simp only [A.lkp, A.entries, znh hb, zqz hκ, zpr]
 cases idxP ps k with
 | none => rfl
 | some x => rfl
theorem Owns.lkp (ho : Owns h0 h l) (i : Nat) {id c : Nat} {ps : Ents K T} (hi : l[i]? = some (.blk id (zh2 (encM κ v ps) c))) (hκ : KeyE kd κ) (z : T) (k : K) : A.lkp h (some kd) (some (v z)) false (.mp id) (κ k) = some (v ((getP ps k).getD z)) :=
 lkp_blk hκ (ho.at i hi) z k false
theorem Owns.mset (ho : Owns h0 h l) (i : Nat) {id c : Nat} {ps : Ents K T} (hi : l[i]? = some (.blk id (zh2 (encM κ v ps) c))) (hκ : KeyE kd κ) (k : K) (t : T) {Q : zb → Prop}
  (hq : ∀ h', Owns h0 h' (l.set i (.blk id (zh2 (encM κ v (putP ps k t c)) (clkP ps k c)))) → But (.mp id) h h' → (∀ j, j ≠ id → h' j = h j) → Q h') : B.mset h kd (.mp id) (κ k) (v t) Q :=
 objT_blk (ho.at i hi) (fset_enc hκ k t ps c) (hq _ (ho.setBlk i hi rfl) (fun j b e1 e2 => by rw [zq]; exact e1; intro e; subst e; exact e2 rfl) fun j hj => zq _ _ hj)
end
end Go.Ab
namespace Go.Ab
def zh7 {K T : Type} (ps : Ents K T) (c : Nat) : Prop := (∀ p ∈ ps, p.2.2 < c) ∧ (ps.map (·.2.2)).Nodup
section
variable {K T : Type} {ps D : Ents K T} {c : Nat}
theorem zh7.nil (c : Nat) : zh7 ([] : Ents K T) c := ⟨fun _ h => (by cases h), List.Pairwise.nil⟩
theorem zh7.put [DecidableEq K] (hb : zh7 ps c) (k : K) (t : T) : zh7 (putP ps k t c) (clkP ps k c) := by
 unfold clkP
 rw [zpr]
 cases h : idxP ps k with
 | none =>
  rw [zj2 h]
  simp only [Option.map_none, Option.isSome_none, Bool.false_eq_true, if_false]
  refine ⟨fun p hp => ?_, ?_⟩
  ·rcases List.mem_append.1 hp with hp | hp
   ·have := hb.1 p hp; omega
   ·rw [List.mem_singleton.1 hp]; exact Nat.lt_succ_self _
  ·rw [List.map_append, List.nodup_append]
   refine ⟨hb.2, List.pairwise_singleton _ _, fun a ha b hb2 => ?_⟩
   obtain ⟨p, hp, rfl⟩ := List.mem_map.1 ha
   rw [List.map_singleton, List.mem_singleton] at hb2
   have := hb.1 p hp
   subst hb2
   exact Nat.ne_of_lt this
 | some x =>
  obtain ⟨j, q⟩ := x
  have he := idxP_put (t := t) (c := c) h
  simp only [Option.map_some, Option.isSome_some, if_true, he.1]
  have hq : (ps.map (·.2.2))[j]? = some q.2 := by
   have : ∀ (ps : Ents K T) (j : Nat) (q : T × Nat), idxP ps k = some (j, q) → (ps.map (·.2.2))[j]? = some q.2 := by
    intro ps
    induction ps with
    | nil => intro j q h; cases h
    | cons p r ih =>
     intro j q h
     simp only [idxP] at h
     split at h
     ·cases h; rfl
     ·cases e : idxP r k with
      | none => rw [e] at h; cases h
      | some y =>
       obtain ⟨j', q'⟩ := y
       rw [e] at h
       simp only [Option.map_some, Option.some.injEq, Prod.mk.injEq] at h
       obtain ⟨rfl, rfl⟩ := h
       simpa using ih _ _ e
   exact this _ _ _ h
  have hm : (ps.set j (k, t, q.2)).map (·.2.2) = ps.map (·.2.2) := by
   rw [List.map_set]
   apply List.ext_getElem?
   intro i
   rw [List.getElem?_set]
   split
   ·rename_i e; subst e
    split
    ·exact hq.symm
    ·rename_i e2; simp at e2; omega
   ·rfl
  refine ⟨fun p hp => ?_, by rw [hm]; exact hb.2⟩
  have : p.2.2 ∈ (ps.set j (k, t, q.2)).map (·.2.2) := List.mem_map.2 ⟨p, hp, rfl⟩
  rw [hm] at this
  obtain ⟨p', hp', e⟩ := List.mem_map.1 this
  rw [← e]; exact hb.1 p' hp'
theorem zh7.inj (hb : zh7 ps c) {p q : K × T × Nat} (hp : p ∈ ps) (hq : q ∈ ps) (e : p.2.2 = q.2.2) : p = q := by
 obtain ⟨i, hi, rfl⟩ := List.mem_iff_getElem.1 hp
 obtain ⟨j, hj, rfl⟩ := List.mem_iff_getElem.1 hq
 have : i = j := by
  refine (List.getElem_inj (h₀ := by simpa using hi) (h₁ := by simpa using hj) hb.2).1 ?_
  simpa using e
 subst this; rfl
theorem zh7.all (hb : zh7 ps c) (h1 : ∀ p ∈ D, p ∈ ps) (h2 : (D.map (·.2.2)).Nodup) (h3 : ∀ p ∈ ps, p.2.2 ∈ D.map (·.2.2)) : D.Perm ps := by
 have nd : ∀ {l : Ents K T}, (l.map (·.2.2)).Nodup → l.Nodup := fun h => List.Pairwise.of_map (S := (· ≠ ·)) (fun p : K × T × Nat => p.2.2) (fun a b h e => h (by rw [e])) h
 refine (List.perm_ext_iff_of_nodup (nd h2) (nd hb.2)).2 fun p => ⟨h1 p, fun hp => ?_⟩
 obtain ⟨q, hq, e⟩ := List.mem_map.1 (h3 p hp)
 rwa [hb.inj (h1 q hq) hp e] at hq
end
def zf3 (m since : Nat) (seen : List Nat) (last : Nat) : Blk := zgj (.mapIter (some m) since seen last)
section
variable {h0 h : zb} {l : List Ob} {K T : Type} {κ : K → AVal} {v : T → AVal} {ps : Ents K T} {m c : Nat} {Q : AVal → zb → Prop}
theorem Owns.nextMapB (ho : Owns h0 h l) (j : Nat) {it since last : Nat} {seen : List Nat} (hbm : h m = some (zh2 (encM κ v ps) c)) (hj : l[j]? = some (.blk it (zf3 m since seen last))) (hb : zh7 ps c) (hs : c ≤ since) (hsl : since ≤ last)
  (hdone : (∀ p ∈ ps, p.2.2 ∈ seen) → Q (.tup [.bool false]) h)
  (hstep : ∀ p ∈ ps, p.2.2 ∉ seen → ∀ h', Owns h0 h' (l.set j (.blk it (zf3 m since (seen ++ [p.2.2]) c))) → (∀ k, k ≠ it → h' k = h k) → A.zhy h' (.ptr it 0 0) = some (.tup [κ p.1, v p.2.1]) → Q (.tup [.bool true, κ p.1, v p.2.1]) h') :
  B.ze6 h (.ptr it 0 0) Q := by
 have hbi : h it = some (zf3 m since seen last) := ho.at j hj
 have hne : m ≠ it := fun e => by
  subst e
  rw [hbm] at hbi
  have := Option.some.inj hbi
  unfold zh2 zf3 zgj at this
  cases this
 show A.ze6 h (.ptr it 0 0) Q
 have hall : ((encM κ v ps).all fun e => Nat.blt e.2.2 since) = true := by
  rw [List.all_eq_true]
  intro e he
  obtain ⟨p, hp, rfl⟩ := List.mem_map.1 he
  have := hb.1 p hp
  rw [Nat.blt_eq]; show p.2.2 < since; omega
 have hle : Nat.ble since last = true := by rw [Nat.ble_eq]; exact hsl
 have hst : A.steps h (.ptr it 0 0) = some (it, match (encM κ v ps).filter (fun e => !seen.contains e.2.2) with
   | [] => [(zf3 m since seen last, .tup [.bool false])]
   | l => l.map fun e => ({ zf3 m since seen last with obj := some (.mapIter (some m) since (seen ++ [e.2.2]) c) }, .tup [.bool true, e.1, e.2.1])) := by
  simp only [A.steps, hbi]
  unfold zf3 zgj
  simp only [znh hbm, hall, hle, Bool.and_self, cond_true]
  rfl
 simp only [A.ze6, hst]
 intro p hp
 have hf : ∀ e, e ∈ (encM κ v ps).filter (fun e => !seen.contains e.2.2) ↔ ∃ q ∈ ps, q.2.2 ∉ seen ∧ e = (κ q.1, v q.2.1, q.2.2) := fun e => by
  rw [List.mem_filter]
  constructor
  ·rintro ⟨he, hc⟩
   obtain ⟨q, hq, rfl⟩ := List.mem_map.1 he
   refine ⟨q, hq, ?_, rfl⟩
   simpa using hc
  ·rintro ⟨q, hq, hn, rfl⟩
   exact ⟨List.mem_map.2 ⟨q, hq, rfl⟩, by simpa using hn⟩
 cases hfl : (encM κ v ps).filter (fun e => !seen.contains e.2.2) with
 | nil =>
  rw [hfl] at hp
  rw [List.mem_singleton.1 hp]
  have : upd h it (zf3 m since seen last) = h := upd_self hbi
  rw [this]
  refine hdone fun q hq => ?_
  by_cases hn : q.2.2 ∈ seen
  ·exact hn
  ·have := (hf _).2 ⟨q, hq, hn, rfl⟩
   rw [hfl] at this; cases this
 | cons e0 es0 =>
  rw [hfl] at hp
  obtain ⟨e, he, rfl⟩ := List.mem_map.1 hp
  rw [← hfl] at he
  obtain ⟨q, hq, hn, rfl⟩ := (hf _).1 he
  have hblk : ({ zf3 m since seen last with obj := some (.mapIter (some m) since (seen ++ [q.2.2]) c) } : Blk) = zf3 m since (seen ++ [q.2.2]) c := rfl
  show Q _ (upd h it { zf3 m since seen last with obj := some (.mapIter (some m) since (seen ++ [q.2.2]) c) })
  rw [hblk]
  refine hstep q hq hn _ (ho.setBlk j hj rfl) (fun k hk => zq _ _ hk) ?_
  have hbm' : upd h it (zf3 m since (seen ++ [q.2.2]) c) m = some (zh2 (encM κ v ps) c) := by rw [zq _ _ hne]; exact hbm
  have hfind : (encM κ v ps).find? (fun e => Nat.beq e.2.2 q.2.2) = some (κ q.1, v q.2.1, q.2.2) := by
   have key : ∀ (ps : Ents K T), (ps.map (·.2.2)).Nodup → q ∈ ps → (encM κ v ps).find? (fun e => Nat.beq e.2.2 q.2.2) = some (κ q.1, v q.2.1, q.2.2) := by
    intro ps
    induction ps with
    | nil => intro _ h; cases h
    | cons a r ih =>
     intro hnd hm
     simp only [List.map_cons, List.nodup_cons] at hnd
     simp only [encM, List.map_cons, List.find?_cons]
     rcases List.mem_cons.1 hm with rfl | hm
     ·simp [Nat.beq_refl]
     ·have hne : a.2.2 ≠ q.2.2 := fun e => hnd.1 (by rw [e]; exact List.mem_map.2 ⟨q, hm, rfl⟩)
      have : Nat.beq a.2.2 q.2.2 = false := by
       cases e : Nat.beq a.2.2 q.2.2 with
       | false => rfl
       | true => exact absurd (Nat.eq_of_beq_eq_true e) hne
      rw [this]
      exact ih hnd.2 hm
   exact key ps hb.2 hq
  simp only [A.zhy, upd_get]
  unfold zf3 zgj
  have hbm'' := hbm'
  unfold zf3 zgj at hbm''
  simp only [znh hbm'', List.getLast?_append, List.getLast?_singleton, Option.some_or, Nat.beq_refl, cond_true, hfind]
theorem Owns.rangeLoop {J : Ents K T → List Ob → Prop} {Lp : AVal → List AVal → zb → (List AVal → zb → Prop) → Prop} {REST : AVal → AVal → zb → (List AVal → zb → Prop) → Prop} (ho : Owns h0 h l) (hbm : h0 m = some (zh2 (encM κ v ps) c)) (hb : zh7 ps c) (hJ : J [] l)
  (heq : ∀ it hh Y, B.ze6 hh it (fun v h2 => REST it v h2 Y) → Lp it [] hh Y)
  (hdone : ∀ it hh D l b Y, J D l → D.Perm ps → Owns h0 hh (l ++ [.blk it b]) → REST (.ptr it 0 0) (.tup [.bool false]) hh Y)
  (hstep : ∀ it hh D l b Y, ∀ p ∈ ps, J D l → (∀ q ∈ D, q ∈ ps) → p ∉ D → Owns h0 hh (l ++ [.blk it b]) → A.zhy hh (.ptr it 0 0) = some (.tup [κ p.1, v p.2.1]) →
   (∀ h' l', J (D ++ [p]) l' → Owns h0 h' (l' ++ [.blk it b]) → Y [] h') → REST (.ptr it 0 0) (.tup [.bool true, κ p.1, v p.2.1]) hh Y) :
  B.rangeMap h (.mp m) fun v h => zd (Lp v) [] h := by
 show A.rangeMap h (.mp m) _
 simp only [A.rangeMap, znh (ho.le _ _ hbm)]
 intro it hit
 have ho : Owns h0 (upd h it (zgj (.mapIter (some m) c [] c))) (l ++ [.blk it (zf3 m c (([] : Ents K T).map (·.2.2)) c)]) := ho.newBlk (b := zf3 m c [] c) hit rfl
 refine zd.intro (fun t vs hh => vs = [] ∧ ∃ (D : Ents K T) (l' : List Ob), D.length + t = ps.length ∧ J D l' ∧ (∀ q ∈ D, q ∈ ps) ∧ (D.map (·.2.2)).Nodup ∧ Owns h0 hh (l' ++ [.blk it (zf3 m c (D.map (·.2.2)) c)])) ps.length ?_ ⟨rfl, [], l, by simp, hJ, by simp, List.Pairwise.nil, ho⟩
 rintro Y t vs hh ⟨rfl, D, l', ht, hJ', hD, hnd, o⟩ hY
 refine heq _ _ _ ?_
 refine o.nextMapB l'.length (seen := D.map (·.2.2)) (since := c) (last := c) (o.le _ _ hbm) (by simp) hb (Nat.le_refl _) (Nat.le_refl _) (fun hall => ?_) fun p hp hns h' o' hk he => ?_
 ·exact hdone it hh D l' _ Y hJ' (hb.all hD hnd hall) o
 ·have o'' : Owns h0 h' (l' ++ [.blk it (zf3 m c ((D ++ [p]).map (·.2.2)) c)]) := by
   have := o'
   rw [List.set_append_right _ _ (Nat.le_refl _), Nat.sub_self] at this
   simpa using this
  have hpD : p ∉ D := fun hm => hns (List.mem_map.2 ⟨p, hm, rfl⟩)
  have nd2 : ((D ++ [p]).map (·.2.2)).Nodup := by
   rw [List.map_append, List.nodup_append]
   exact ⟨hnd, by simp, fun x hx y hy e => hns (by rw [List.map_cons, List.map_nil, List.mem_singleton] at hy; rw [← hy, ← e]; exact hx)⟩
  have sub : ∀ q ∈ D ++ [p], q ∈ ps := fun q hq => by
   rcases List.mem_append.1 hq with h | h
   ·exact hD q h
   ·rw [List.mem_singleton.1 h]; exact hp
  have hl : (D ++ [p]).length ≤ ps.length := List.Nodup.length_le_of_subset (List.Pairwise.of_map (S := (· ≠ ·)) (fun p : K × T × Nat => p.2.2) (fun a b h e => h (by rw [e])) nd2) sub
  rw [List.length_append] at hl
  have hl : D.length + 1 ≤ ps.length := hl
  exact hstep it h' D l' _ Y p hp hJ' hD hpD o'' he fun h2 l2 hJ2 o2 => hY (t - 1) _ _ (by omega) ⟨rfl, D ++ [p], l2, by rw [List.length_append, List.length_singleton]; omega, hJ2, sub, nd2, o2⟩
end
end Go.Ab
namespace Go.Ab
structure Weak {T : Type} (less : T → T → Bool) : Prop where
 asym : ∀ {a b}, less a b = true → less b a = false
 zox : ∀ {a b c}, less a b = false → less b c = false → less a c = false
section
variable {T : Type} {less : T → T → Bool}
theorem Weak.irr (W : Weak less) (a : T) : less a a = false := by
 cases h : less a a with
 | false => rfl
 | true => have := W.asym h; rw [h] at this; cases this
theorem Weak.trans (W : Weak less) {a b c : T} (h1 : less a b = true) (h2 : less b c = true) : less a c = true := by
 cases h : less a c with
 | true => rfl
 | false => have := W.zox h (W.asym h2); rw [h1] at this; cases this
def lt' (less : T → T → Bool) (x y : T × Nat) : Prop := less x.1 y.1 = true ∨ (less y.1 x.1 = false ∧ x.2 < y.2)
theorem lt'_trans (W : Weak less) {x y z : T × Nat} (h1 : lt' less x y) (h2 : lt' less y z) : lt' less x z := by
 unfold lt' at *
 rcases h1 with h1 | ⟨h1, n1⟩ <;> rcases h2 with h2 | ⟨h2, n2⟩
 ·exact .inl (W.trans h1 h2)
 ·left
  cases h : less x.1 z.1 with
  | true => rfl
  | false => have := W.zox h h2; rw [h1] at this; cases this
 ·left
  cases h : less x.1 z.1 with
  | true => rfl
  | false => have := W.zox h1 h; rw [h2] at this; cases this
 ·exact .inr ⟨W.zox h2 h1, by omega⟩
theorem lt'_gt {x y : T × Nat} (hn : y.2 < x.2) : lt' less x y ↔ less x.1 y.1 = true := ⟨fun h => h.elim id fun ⟨_, h⟩ => by omega, .inl⟩
theorem lt'_le (W : Weak less) {x y : T × Nat} (hn : x.2 < y.2) : lt' less x y ↔ less y.1 x.1 = false :=
 ⟨fun h => h.elim (fun h => W.asym h) fun ⟨h, _⟩ => h, fun h => .inr ⟨h, hn⟩⟩
end
end Go.Ab
namespace Go.Ab
variable {C : CSem} {N : Nat → Nat}
theorem add1 {a : Nat} (h : a < 4611686018427387904) : V.bin .add (.int .i64 (a : Int)) (.int .i64 1) = some (.int .i64 ((a + 1 : Nat) : Int)) := by
 rw [V.zdk, wrap_i64 (by omega) (by omega)]; simp
theorem sub1 {a : Nat} (h : 1 ≤ a) (ha : a < 4611686018427387904) : V.bin .sub (.int .i64 (a : Int)) (.int .i64 1) = some (.int .i64 ((a - 1 : Nat) : Int)) := by
 rw [V.zff, wrap_i64 (by omega) (by omega)]; congr 2; omega
theorem lssN {a b : Nat} : V.bin .lss (.int .i64 (a : Int)) (.int .i64 (b : Int)) = some (.bool (decide (a < b))) := by rw [V.zfm]; congr 3; exact propext (by omega)
theorem leqN {a b : Nat} : V.bin .leq (.int .i64 (a : Int)) (.int .i64 (b : Int)) = some (.bool (decide (a ≤ b))) := by rw [V.bin_leq]; congr 3; exact propext (by omega)
theorem gtrN {a b : Nat} : V.bin .gtr (.int .i64 (a : Int)) (.int .i64 (b : Int)) = some (.bool (decide (b < a))) := by rw [V.zop]; congr 3; exact propext (by omega)
structure zd7 (E : z4) {X : Type} (cs : X → List AVal) (v : X → AVal) : Prop where
 pos : 0 < E.es
 small : E.bytes ≤ 1000
 zlen : E.z.length = E.es
 len : ∀ t, (cs t).length = E.es
 new : ∀ t, zfr [(0, E.kp, v t)] (repL 1 E.z) = some (cs t)
 ld : ∀ {h : zb} {x : AVal} {L R : List (List AVal)} {i : Nat} {t : X} {K : AVal → Prop}, SlX h E.es x L R → L[i]? = some (cs t) → K (v t) → E.ld h (elp E.es x i 0) K
 kpt : ∀ {h : zb} {x : AVal} {L R : List (List AVal)} {i : Nat} {t : X}, SlX h E.es x L R → L[i]? = some (cs t) → Kp h (elp E.es x i 0) E.kp
 st : ∀ {h0 h : zb} {x : AVal} {L R : List (List AVal)} {i : Nat} {c : List AVal} {t : X} {K : zb → Prop}, Owns h0 h [.sl E.es x L R] → L[i]? = some c →
  (∀ h', Owns h0 h' [.sl E.es x (L.set i (cs t)) R] → K h') → E.st h (elp E.es x i 0) (v t) K
theorem zd7.comp {E : z4} {X Y : Type} {cs : X → List AVal} {v : X → AVal} (S : zd7 E cs v) (f : Y → X) : zd7 E (fun y => cs (f y)) (fun y => v (f y)) :=
 ⟨S.pos, S.small, S.zlen, fun t => S.len _, fun t => S.new _, fun h1 h2 h3 => S.ld h1 h2 h3, fun h1 h2 => S.kpt h1 h2, fun h1 h2 h3 => S.st h1 h2 h3⟩
theorem seqS {X : Type} {bytes f : Nat} {z : AVal} {v : X → AVal} (hb : bytes ≤ 1000) (hc : ∀ t, (v t).zdz = true) : zd7 (opsS bytes z f) (fun t => [v t]) v where
 pos := Nat.one_pos
 small := hb
 zlen := rfl
 len _ := rfl
 new t := by simp [opsS, hc, repL]
 ld hs hcc hk := by
  simp only [opsS, B.zg7] at hs ⊢
  rw [hs.cell hcc]; exact hk
 kpt hs hcc := ⟨_, hs.cell hcc⟩
 st {h0 h x L R i c t K} ho hcc hk := by
  have hs : SlX h 1 x L R := ho.slAt 0 rfl
  have hcl : c.length = 1 := hs.len c (List.mem_append_left _ (List.mem_of_getElem? hcc))
  obtain ⟨u, rfl⟩ := List.length_eq_one_iff.1 hcl
  exact ho.st 0 rfl hcc (by show 0 < 1; omega) (hc _) fun h' h1 _ => hk h' h1
def Rw (E : z4) {X : Type} (cs : X → List AVal) (h0 h : zb) (x : AVal) (G : List X) (R : List (List AVal)) : Prop := Owns h0 h [.sl E.es x (G.map cs) R]
section
variable {E : z4} {X : Type} {cs : X → List AVal} {v : X → AVal} {h0 h : zb} {x : AVal} {G : List X} {R : List (List AVal)}
theorem Rw.idx (ho : Rw E cs h0 h x G R) {i : Nat} (hi : i < G.length) : V.idxS E.es x (.int .i64 (i : Int)) = some (elp E.es x i 0) := (Owns.slAt ho 0 rfl).idxN (by simpa using hi)
theorem Rw.lenE (ho : Rw E cs h0 h x G R) : V.zx x = some (.int .i64 G.length) := by have := (Owns.slAt ho 0 rfl).zx; simpa using this
theorem Rw.le (ho : Rw E cs h0 h x G R) : h0.le h := Owns.le ho
theorem Rw.ld (ho : Rw E cs h0 h x G R) (S : zd7 E cs v) {i : Nat} {t : X} (hg : G[i]? = some t) {K : AVal → Prop} (hk : K (v t)) : E.ld h (elp E.es x i 0) K :=
 S.ld (Owns.slAt ho 0 rfl) (by rw [List.getElem?_map, hg]; rfl) hk
theorem Rw.st (ho : Rw E cs h0 h x G R) (S : zd7 E cs v) {i : Nat} {t : X} (hi : i < G.length) {K : zb → Prop} (hk : ∀ h', Rw E cs h0 h' x (G.set i t) R → K h') : E.st h (elp E.es x i 0) (v t) K :=
 S.st ho (c := cs G[i]) (by rw [List.getElem?_map, List.getElem?_eq_getElem hi]; rfl) fun h' h1 => hk h' (by unfold Rw; rwa [List.map_set])
theorem set_mid {P Q : List X} {a b : X} {i : Nat} (hi : i = P.length) : (P ++ a :: Q).set i b = P ++ b :: Q := by subst hi; simp
theorem get_mid {P Q : List X} {a : X} {i : Nat} (hi : i = P.length) : (P ++ a :: Q)[i]? = some a := by subst hi; simp
theorem set_mid2 {P Q T : List X} {a b c : X} {j : Nat} (hj : j = P.length + 1 + Q.length) : (P ++ a :: (Q ++ b :: T)).set j c = P ++ a :: (Q ++ c :: T) := by
 have := set_mid (P := P ++ a :: Q) (Q := T) (a := b) (b := c) (i := j) (by simp; omega)
 simpa using this
theorem get_mid2 {P Q T : List X} {a b : X} {j : Nat} (hj : j = P.length + 1 + Q.length) : (P ++ a :: (Q ++ b :: T))[j]? = some b := by
 have := get_mid (P := P ++ a :: Q) (Q := T) (a := b) (i := j) (by simp; omega)
 simpa using this
theorem Rw.swapDn {P Q T : List X} {a b : X} {i j : Nat} (ho : Rw E cs h0 h x (P ++ a :: (Q ++ b :: T)) R) (S : zd7 E cs v) (hi : i = P.length) (hj : j = P.length + 1 + Q.length) {K : zb → Prop}
  (hk : ∀ h', Rw E cs h0 h' x (P ++ b :: (Q ++ a :: T)) R → K h') : E.st h (elp E.es x j 0) (v a) fun h => E.st h (elp E.es x i 0) (v b) K := by
 refine ho.st S (by simp; omega) fun h1 o1 => ?_
 rw [set_mid2 hj] at o1
 refine o1.st S (by simp; omega) fun h2 o2 => hk h2 ?_
 rwa [set_mid hi] at o2
end
section
variable {E : z4} {T : Type} {cs : T → List AVal} {v : T → AVal} {c : T → T → Int} {h0 h : zb} {x f : AVal} {R : List (List AVal)} {Q : AVal → zb → Prop}
def zeu (c : T → T → Int) (a b : T) : Bool := decide (c a b < 0)
theorem nil_or_snoc {X : Type} (L : List X) : L = [] ∨ ∃ L0 y, L = L0 ++ [y] := by
 rcases List.eq_nil_or_concat L with h | ⟨A, b, h⟩
 ·exact .inl h
 ·exact .inr ⟨A, b, by rw [h, List.concat_eq_append]⟩
end
end Go.Ab
namespace Go.Ab
variable {C : CSem}
structure zc9 {X : Type} (a b : Nat) (G G' : List X) : Prop where
 perm : G'.Perm G
 out : ∀ i, i < a ∨ b ≤ i → G'[i]? = G[i]?
theorem zc9.refl {X : Type} (a b : Nat) (G : List X) : zc9 a b G G := ⟨.refl _, fun _ _ => rfl⟩
theorem zc9.trans {X : Type} {a b : Nat} {G G' G'' : List X} (x : zc9 a b G G') (y : zc9 a b G' G'') : zc9 a b G G'' := ⟨y.perm.trans x.perm, fun i hi => (y.out i hi).trans (x.out i hi)⟩
theorem zc9.mono {X : Type} {a b a' b' : Nat} {G G' : List X} (x : zc9 a b G G') (ha : a' ≤ a) (hb : b ≤ b') : zc9 a' b' G G' := ⟨x.perm, fun i hi => x.out i (by omega)⟩
theorem zc9.len {X : Type} {a b : Nat} {G G' : List X} (x : zc9 a b G G') : G'.length = G.length := x.perm.length_eq
theorem zc9.same {X : Type} {a b : Nat} {G G' : List X} (w : zc9 a b G G') {k : Nat} (hk : k < a ∨ b ≤ k) (h1 : k < G'.length) (h2 : k < G.length) : G'[k] = G[k] := by
 have := w.out k hk
 rw [List.getElem?_eq_getElem h1, List.getElem?_eq_getElem h2] at this
 exact Option.some.inj this
def swp {X : Type} (G : List X) (i j : Nat) (hi : i < G.length) (hj : j < G.length) : List X := (G.set i G[j]).set j G[i]
theorem swp_perm {X : Type} {G : List X} {i j : Nat} (hi : i < G.length) (hj : j < G.length) : (swp G i j hi hj).Perm G := by
 unfold swp
 exact List.set_set_perm hi hj
theorem swp_get {X : Type} {G : List X} {i j : Nat} (hi : i < G.length) (hj : j < G.length) (k : Nat) : (swp G i j hi hj)[k]? = if k = j then some G[i] else if k = i then some G[j] else G[k]? := by
 unfold swp
 rw [List.getElem?_set]
 by_cases e : j = k
 ·subst e; simp [hj]
 ·rw [if_neg e, if_neg (Ne.symm e), List.getElem?_set]
  by_cases e2 : i = k
  ·subst e2; simp [hi]
  ·rw [if_neg e2, if_neg (Ne.symm e2)]
theorem zey {X : Type} {G : List X} {i j a b : Nat} (hi : i < G.length) (hj : j < G.length) (h1 : a ≤ i) (h2 : i < b) (h3 : a ≤ j) (h4 : j < b) : zc9 a b G (swp G i j hi hj) := ⟨swp_perm hi hj, fun k hk => by
 rw [swp_get, if_neg (by omega), if_neg (by omega)]⟩
section
variable {E : z4} {X : Type} {cs : X → List AVal} {v : X → AVal} {h0 h : zb} {x f : AVal} {G : List X} {R : List (List AVal)} {c : X → X → Int}
theorem Rw.swap (ho : Rw E cs h0 h x G R) (S : zd7 E cs v) {i j : Nat} (hi : i < G.length) (hj : j < G.length) {K : zb → Prop} (hk : ∀ h', Rw E cs h0 h' x (swp G i j hi hj) R → K h') :
  E.st h (elp E.es x i 0) (v G[j]) fun h => E.st h (elp E.es x j 0) (v G[i]) K := by
 refine ho.st S (t := G[j]) hi fun h1 o1 => ?_
 exact o1.st S (t := G[i]) (by simpa using hj) fun h2 o2 => hk h2 o2
theorem quo4 {a : Nat} (h : a < 4611686018427387904) : V.bin .quo (.int .i64 (a : Int)) (.int .i64 4) = some (.int .i64 ((a / 4 : Nat) : Int)) := by
 rw [V.zoo _ _ _ (by omega), show (a : Int).tdiv 4 = ((a / 4 : Nat) : Int) from rfl, wrap_i64 (by omega) (by omega)]
theorem mulN {a b : Nat} (h : a * b < 4611686018427387904) : V.bin .mul (.int .i64 (a : Int)) (.int .i64 (b : Int)) = some (.int .i64 ((a * b : Nat) : Int)) := by
 rw [V.bin_mul, show (a : Int) * (b : Int) = ((a * b : Nat) : Int) by simp, wrap_i64 (by omega) (by omega)]
theorem zj7 {a b : Nat} (h : a + b < 4611686018427387904) : V.bin .add (.int .i64 (a : Int)) (.int .i64 (b : Int)) = some (.int .i64 ((a + b : Nat) : Int)) := by
 rw [V.zdk, show (a : Int) + (b : Int) = ((a + b : Nat) : Int) by simp, wrap_i64 (by omega) (by omega)]
theorem zif {a b : Nat} (h : b ≤ a) (h2 : a < 4611686018427387904) : V.bin .sub (.int .i64 (a : Int)) (.int .i64 (b : Int)) = some (.int .i64 ((a - b : Nat) : Int)) := by
 rw [V.zff, show (a : Int) - (b : Int) = ((a - b : Nat) : Int) by omega, wrap_i64 (by omega) (by omega)]
theorem geqN {a b : Nat} : V.bin .geq (.int .i64 (a : Int)) (.int .i64 (b : Int)) = some (.bool (decide (b ≤ a))) := by rw [V.zkw]; congr 3; exact propext (by omega)
end
end Go.Ab
namespace Go.Ab
@[simp] def zcr.k1 (C : CSem) (E : z4) (C0 : CSem) (fL : Nat) (Q : AVal → zb → Prop) (Y1 : List AVal → zb → Prop) (Y2 : List AVal → zb → Prop) (v0 v1 v2 v3 v8 v9 : AVal) (h : zb) : Prop :=
 B.pv (V.bin .gtr v9 v1) fun v20 =>
  B.gd h v20 true (fun K => K v0 h) fun v23 h =>
  B.gd h v20 true (fun K => K v9 h) fun v24 h =>
  B.gd h v20 true (fun K => B.pv (V.idxS E.es v23 v24) fun v => K v h) fun v25 h =>
  B.gd h v20 true (fun K => E.ld h v25 fun v => K v h) fun v26 h =>
  B.gd h v20 true (fun K => K v0 h) fun v27 h =>
  B.gd h v20 true (fun K => K v9 h) fun v28 h =>
  B.gd h v20 true (fun K => B.pv (V.bin .sub v28 (.int .i64 1)) fun v => K v h) fun v29 h =>
  B.gd h v20 true (fun K => B.pv (V.idxS E.es v27 v29) fun v => K v h) fun v30 h =>
  B.gd h v20 true (fun K => E.ld h v30 fun v => K v h) fun v31 h =>
  B.gd h v20 true (fun K => B.call C0 fL [v26, v31] h K) fun v33 h =>
  B.pick v20 v33 (.bool false) fun v34 =>
  B.cond v34
  (B.pv (V.bin .sub v9 (.int .i64 1)) fun v41 =>
  B.pv (V.bin .sub v9 (.int .i64 1)) fun v44 =>
  B.pv (V.idxS E.es v0 v44) fun v45 =>
  E.ld h v45 fun v46 =>
  B.pv (V.idxS E.es v0 v9) fun v49 =>
  E.ld h v49 fun v50 =>
  B.pv (V.idxS E.es v0 v9) fun v51 =>
  E.st h v51 v46 fun h =>
  B.pv (V.idxS E.es v0 v41) fun v52 =>
  E.st h v52 v50 fun h =>
  B.pv (V.bin .sub v9 (.int .i64 1)) fun v36 =>
  Y2 [v36] h)
  (B.pv (V.bin .add v8 (.int .i64 1)) fun v16 =>
  Y1 [v16] h)
@[simp] def zcr.l2 (C : CSem) (E : z4) (C0 : CSem) (fL : Nat) (Q : AVal → zb → Prop) (Y1 : List AVal → zb → Prop) (v0 v1 v2 v3 v8 : AVal) : List AVal → zb → (List AVal → zb → Prop) → Prop
 | [v9], h, Y2 => zcr.k1 C E C0 fL Q Y1 Y2 v0 v1 v2 v3 v8 v9 h
 | _, _, _ => False
@[simp] def zcr.l3 (C : CSem) (E : z4) (C0 : CSem) (fL : Nat) (Q : AVal → zb → Prop) (v0 v1 v2 v3 : AVal) : List AVal → zb → (List AVal → zb → Prop) → Prop
 | [v8], h, Y1 => B.pv (V.bin .lss v8 v2) fun v14 =>
  B.cond v14
  (zd (zcr.l2 C E C0 fL Q Y1 v0 v1 v2 v3 v8) [v8] h)
  (Q (.tup []) h)
 | _, _, _ => False
@[simp] def zcr.cps (C : CSem) (E : z4) (C0 : CSem) (fL : Nat) (v0 v1 v2 v3 : AVal) (h : zb) (Q : AVal → zb → Prop) : Prop :=
 B.pv (V.bin .add v1 (.int .i64 1)) fun v11 =>
  zd (zcr.l3 C E C0 fL Q v0 v1 v2 v3) [v11] h
@[simp] def zbh.k1 (C : CSem) (E : z4) (C0 : CSem) (fL : Nat) (f1 f2 f3 f4 f5 f6 f7 f8 f9 : Nat) (Q : AVal → zb → Prop) (Y1 : List AVal → zb → Prop) (v0 v1 v2 v3 v4 v10 v11 v12 v13 : AVal) (h : zb) : Prop :=
 B.pv (V.bin .gtr v1 (.int .i64 0)) fun v82 =>
  B.gd h v82 true (fun K => K v0 h) fun v85 h =>
  B.gd h v82 true (fun K => K v1 h) fun v86 h =>
  B.gd h v82 true (fun K => B.pv (V.bin .sub v86 (.int .i64 1)) fun v => K v h) fun v87 h =>
  B.gd h v82 true (fun K => B.pv (V.idxS E.es v85 v87) fun v => K v h) fun v88 h =>
  B.gd h v82 true (fun K => E.ld h v88 fun v => K v h) fun v89 h =>
  B.gd h v82 true (fun K => K v0 h) fun v90 h =>
  B.gd h v82 true (fun K => K v13 h) fun v91 h =>
  B.gd h v82 true (fun K => B.pv (V.idxS E.es v90 v91) fun v => K v h) fun v92 h =>
  B.gd h v82 true (fun K => E.ld h v92 fun v => K v h) fun v93 h =>
  B.gd h v82 true (fun K => B.call C0 fL [v89, v93] h K) fun v95 h =>
  B.gd h v82 true (fun K => B.pv (V.un .not v95) fun v => K v h) fun v96 h =>
  B.pick v82 v96 (.bool false) fun v97 =>
  B.cond v97
  (B.call C f1 [v0, v1, v2, v13, v4] h fun v103 h =>
  Y1 [v103, v2, v3, v10, v11] h)
  (B.call C f2 [v0, v1, v2, v13, v4] h fun v111 h =>
  B.pv (V.ext 0 v111) fun v112 =>
  B.pv (V.ext 1 v111) fun v113 =>
  B.pv (V.bin .sub v112 v1) fun v117 =>
  B.pv (V.bin .sub v2 v112) fun v120 =>
  B.pv (V.bin .quo v12 (.int .i64 8)) fun v122 =>
  B.pv (V.bin .lss v117 v120) fun v125 =>
  B.cond v125
  (B.pv (V.bin .geq v117 v122) fun v128 =>
  B.call C f3 [v0, v1, v112, v3, v4] h fun v134 h =>
  B.pv (V.bin .add v112 (.int .i64 1)) fun v136 =>
  Y1 [v136, v2, v3, v128, v113] h)
  (B.pv (V.bin .geq v120 v122) fun v139 =>
  B.pv (V.bin .add v112 (.int .i64 1)) fun v142 =>
  B.call C f3 [v0, v142, v2, v3, v4] h fun v146 h =>
  Y1 [v1, v112, v3, v139, v113] h))
@[simp] def zbh.k2 (C : CSem) (E : z4) (C0 : CSem) (fL : Nat) (f1 f2 f3 f4 f5 f6 f7 f8 f9 : Nat) (Q : AVal → zb → Prop) (Y1 : List AVal → zb → Prop) (v0 v1 v2 v3 v4 v10 v11 v12 v13 v14 : AVal) (h : zb) : Prop :=
 B.gd h v10 true (fun K => K v11 h) fun v70 h =>
  B.pick v10 v70 (.bool false) fun v71 =>
  B.gd h v71 true (fun K => K v14 h) fun v73 h =>
  B.gd h v71 true (fun K => B.pv (V.bin .eql v73 (.int .i64 1)) fun v => K v h) fun v74 h =>
  B.pick v71 v74 (.bool false) fun v75 =>
  B.cond v75
  (B.call C f4 [v0, v1, v2, v4] h fun v80 h =>
  B.cond v80
  (Q (.tup []) h)
  (zbh.k1 C E C0 fL f1 f2 f3 f4 f5 f6 f7 f8 f9 Q Y1 v0 v1 v2 v3 v4 v10 v11 v12 v13 h))
  (zbh.k1 C E C0 fL f1 f2 f3 f4 f5 f6 f7 f8 f9 Q Y1 v0 v1 v2 v3 v4 v10 v11 v12 v13 h)
@[simp] def zbh.k3 (C : CSem) (E : z4) (C0 : CSem) (fL : Nat) (f1 f2 f3 f4 f5 f6 f7 f8 f9 : Nat) (Q : AVal → zb → Prop) (Y1 : List AVal → zb → Prop) (v0 v1 v2 v3 v4 v10 v11 v12 v13 v14 : AVal) (h : zb) : Prop :=
 B.pv (V.bin .eql v14 (.int .i64 2)) fun v56 =>
  B.cond v56
  (B.call C f5 [v0, v1, v2, v4] h fun v61 h =>
  B.pv (V.bin .sub v2 (.int .i64 1)) fun v63 =>
  B.pv (V.bin .sub v13 v1) fun v66 =>
  B.pv (V.bin .sub v63 v66) fun v67 =>
  zbh.k2 C E C0 fL f1 f2 f3 f4 f5 f6 f7 f8 f9 Q Y1 v0 v1 v2 v3 v4 v10 v11 v12 v67 (.int .i64 1) h)
  (zbh.k2 C E C0 fL f1 f2 f3 f4 f5 f6 f7 f8 f9 Q Y1 v0 v1 v2 v3 v4 v10 v11 v12 v13 v14 h)
@[simp] def zbh.k4 (C : CSem) (E : z4) (C0 : CSem) (fL : Nat) (f1 f2 f3 f4 f5 f6 f7 f8 f9 : Nat) (Q : AVal → zb → Prop) (Y1 : List AVal → zb → Prop) (v0 v1 v2 v3 v4 v10 v11 v12 : AVal) (h : zb) : Prop :=
 B.call C f6 [v0, v1, v2, v4] h fun v52 h =>
  B.pv (V.ext 0 v52) fun v53 =>
  B.pv (V.ext 1 v52) fun v54 =>
  zbh.k3 C E C0 fL f1 f2 f3 f4 f5 f6 f7 f8 f9 Q Y1 v0 v1 v2 v3 v4 v10 v11 v12 v53 v54 h
@[simp] def zbh.k5 (C : CSem) (E : z4) (C0 : CSem) (fL : Nat) (f1 f2 f3 f4 f5 f6 f7 f8 f9 : Nat) (Q : AVal → zb → Prop) (Y1 : List AVal → zb → Prop) (v0 v1 v2 v3 v4 v10 v11 v12 : AVal) (h : zb) : Prop :=
 B.pv (V.un .not v10) fun v39 =>
  B.cond v39
  (B.call C f7 [v0, v1, v2, v4] h fun v44 h =>
  B.pv (V.bin .sub v3 (.int .i64 1)) fun v46 =>
  zbh.k4 C E C0 fL f1 f2 f3 f4 f5 f6 f7 f8 f9 Q Y1 v0 v1 v2 v46 v4 v10 v11 v12 h)
  (zbh.k4 C E C0 fL f1 f2 f3 f4 f5 f6 f7 f8 f9 Q Y1 v0 v1 v2 v3 v4 v10 v11 v12 h)
@[simp] def zbh.k6 (C : CSem) (E : z4) (C0 : CSem) (fL : Nat) (f1 f2 f3 f4 f5 f6 f7 f8 f9 : Nat) (Q : AVal → zb → Prop) (Y1 : List AVal → zb → Prop) (v0 v1 v2 v3 v4 v10 v11 v12 : AVal) (h : zb) : Prop :=
 B.pv (V.bin .eql v3 (.int .i64 0)) fun v32 =>
  B.cond v32
  (B.call C f8 [v0, v1, v2, v4] h fun v37 h =>
  Q (.tup []) h)
  (zbh.k5 C E C0 fL f1 f2 f3 f4 f5 f6 f7 f8 f9 Q Y1 v0 v1 v2 v3 v4 v10 v11 v12 h)
@[simp] def zbh.k7 (C : CSem) (E : z4) (C0 : CSem) (fL : Nat) (f1 f2 f3 f4 f5 f6 f7 f8 f9 : Nat) (Q : AVal → zb → Prop) (Y1 : List AVal → zb → Prop) (v0 v1 v2 v3 v4 v10 v11 v12 : AVal) (h : zb) : Prop :=
 B.pv (V.bin .leq v12 (.int .i64 12)) fun v25 =>
  B.cond v25
  (B.call C f9 [v0, v1, v2, v4] h fun v30 h =>
  Q (.tup []) h)
  (zbh.k6 C E C0 fL f1 f2 f3 f4 f5 f6 f7 f8 f9 Q Y1 v0 v1 v2 v3 v4 v10 v11 v12 h)
@[simp] def zbh.l8 (C : CSem) (E : z4) (C0 : CSem) (fL : Nat) (f1 f2 f3 f4 f5 f6 f7 f8 f9 : Nat) (Q : AVal → zb → Prop) (v0 v4 : AVal) : List AVal → zb → (List AVal → zb → Prop) → Prop
 | [v1, v2, v3, v10, v11], h, Y1 => B.pv (V.bin .sub v2 v1) fun v23 =>
  zbh.k7 C E C0 fL f1 f2 f3 f4 f5 f6 f7 f8 f9 Q Y1 v0 v1 v2 v3 v4 v10 v11 v23 h
 | _, _, _ => False
@[simp] def zbh.cps (C : CSem) (E : z4) (C0 : CSem) (fL : Nat) (f1 f2 f3 f4 f5 f6 f7 f8 f9 : Nat) (v0 v1 v2 v3 v4 : AVal) (h : zb) (Q : AVal → zb → Prop) : Prop :=
 zd (zbh.l8 C E C0 fL f1 f2 f3 f4 f5 f6 f7 f8 f9 Q v0 v4) [v1, v2, v3, (.bool true), (.bool true)] h
@[simp] def zcx.k1 (C : CSem) (E : z4) (C0 : CSem) (fL : Nat) (f1 : Nat) (Q : AVal → zb → Prop) (Y1 : List AVal → zb → Prop) (v0 v3 v8 v9 v12 : AVal) (h : zb) : Prop :=
 B.pv (V.bin .geq v12 (.int .i64 0)) fun v33 =>
  B.cond v33
  (B.pv (V.bin .add v8 v12) fun v41 =>
  B.pv (V.bin .add v8 v12) fun v45 =>
  B.pv (V.idxS E.es v0 v45) fun v46 =>
  E.ld h v46 fun v47 =>
  B.pv (V.idxS E.es v0 v8) fun v50 =>
  E.ld h v50 fun v51 =>
  B.pv (V.idxS E.es v0 v8) fun v52 =>
  E.st h v52 v47 fun h =>
  B.pv (V.idxS E.es v0 v41) fun v53 =>
  E.st h v53 v51 fun h =>
  B.call C f1 [v0, v9, v12, v8, v3] h fun v59 h =>
  B.pv (V.bin .sub v12 (.int .i64 1)) fun v35 =>
  Y1 [v35] h)
  (Q (.tup []) h)
@[simp] def zcx.l2 (C : CSem) (E : z4) (C0 : CSem) (fL : Nat) (f1 : Nat) (Q : AVal → zb → Prop) (v0 v3 v8 v9 : AVal) : List AVal → zb → (List AVal → zb → Prop) → Prop
 | [v12], h, Y1 => zcx.k1 C E C0 fL f1 Q Y1 v0 v3 v8 v9 v12 h
 | _, _, _ => False
@[simp] def zcx.k3 (C : CSem) (E : z4) (C0 : CSem) (fL : Nat) (f1 : Nat) (Q : AVal → zb → Prop) (Y2 : List AVal → zb → Prop) (v0 v3 v8 v9 v10 v11 : AVal) (h : zb) : Prop :=
 B.pv (V.bin .geq v11 (.int .i64 0)) fun v21 =>
  B.cond v21
  (B.call C f1 [v0, v11, v10, v8, v3] h fun v29 h =>
  B.pv (V.bin .sub v11 (.int .i64 1)) fun v23 =>
  Y2 [v23] h)
  (B.pv (V.bin .sub v10 (.int .i64 1)) fun v31 =>
  zd (zcx.l2 C E C0 fL f1 Q v0 v3 v8 v9) [v31] h)
@[simp] def zcx.l4 (C : CSem) (E : z4) (C0 : CSem) (fL : Nat) (f1 : Nat) (Q : AVal → zb → Prop) (v0 v3 v8 v9 v10 : AVal) : List AVal → zb → (List AVal → zb → Prop) → Prop
 | [v11], h, Y2 => zcx.k3 C E C0 fL f1 Q Y2 v0 v3 v8 v9 v10 v11 h
 | _, _, _ => False
@[simp] def zcx.k5 (C : CSem) (E : z4) (C0 : CSem) (fL : Nat) (f1 : Nat) (Q : AVal → zb → Prop) (v0 v3 v8 v9 v10 : AVal) (h : zb) : Prop :=
 B.pv (V.bin .sub v10 (.int .i64 1)) fun v18 =>
  B.pv (V.bin .quo v18 (.int .i64 2)) fun v19 =>
  zd (zcx.l4 C E C0 fL f1 Q v0 v3 v8 v9 v10) [v19] h
@[simp] def zcx.cps (C : CSem) (E : z4) (C0 : CSem) (fL : Nat) (f1 : Nat) (v0 v1 v2 v3 : AVal) (h : zb) (Q : AVal → zb → Prop) : Prop :=
 B.pv (V.bin .sub v2 v1) fun v16 =>
  zcx.k5 C E C0 fL f1 Q v0 v3 v1 (.int .i64 0) v16 h
@[simp] def zz.k1 (C : CSem) (E : z4) (C0 : CSem) (fL : Nat) (f1 f2 : Nat) (Q : AVal → zb → Prop) (Y1 : List AVal → zb → Prop) (v0 v1 v8 v9 v10 v11 v12 : AVal) (h : zb) : Prop :=
 B.pv (V.bin .add v1 v12) fun v54 =>
  B.pv (V.bin .add v1 v12) fun v58 =>
  B.pv (V.idxS E.es v0 v58) fun v59 =>
  E.ld h v59 fun v60 =>
  B.pv (V.idxS E.es v0 v11) fun v63 =>
  E.ld h v63 fun v64 =>
  B.pv (V.idxS E.es v0 v11) fun v65 =>
  E.st h v65 v60 fun h =>
  B.pv (V.idxS E.es v0 v54) fun v66 =>
  E.st h v66 v64 fun h =>
  B.pv (V.bin .add v11 (.int .i64 1)) fun v37 =>
  Y1 [v37] h
@[simp] def zz.k2 (C : CSem) (E : z4) (C0 : CSem) (fL : Nat) (f1 f2 : Nat) (Q : AVal → zb → Prop) (Y1 : List AVal → zb → Prop) (v0 v1 v8 v9 v10 v11 v12 : AVal) (h : zb) : Prop :=
 B.pv (V.bin .geq v12 v8) fun v45 =>
  B.cond v45
  (B.pv (V.bin .sub v12 v8) fun v48 =>
  zz.k1 C E C0 fL f1 f2 Q Y1 v0 v1 v8 v9 v10 v11 v48 h)
  (zz.k1 C E C0 fL f1 f2 Q Y1 v0 v1 v8 v9 v10 v11 v12 h)
@[simp] def zz.k3 (C : CSem) (E : z4) (C0 : CSem) (fL : Nat) (f1 f2 : Nat) (Q : AVal → zb → Prop) (Y1 : List AVal → zb → Prop) (v0 v1 v8 v9 v10 v11 : AVal) (h : zb) : Prop :=
 B.call C0 f1 [v9] h fun v38 h =>
  B.pv (V.bin .sub v10 (.int .u64 1)) fun v40 =>
  B.pv (V.bin .and v38 v40) fun v41 =>
  B.pv (V.toInt .i64 v41) fun v42 =>
  zz.k2 C E C0 fL f1 f2 Q Y1 v0 v1 v8 v9 v10 v11 v42 h
@[simp] def zz.k4 (C : CSem) (E : z4) (C0 : CSem) (fL : Nat) (f1 f2 : Nat) (Q : AVal → zb → Prop) (Y1 : List AVal → zb → Prop) (v0 v1 v8 v9 v10 v11 : AVal) (h : zb) : Prop :=
 B.pv (V.bin .quo v8 (.int .i64 4)) fun v31 =>
  B.pv (V.bin .mul v31 (.int .i64 2)) fun v32 =>
  B.pv (V.bin .add v1 v32) fun v33 =>
  B.pv (V.bin .add v33 (.int .i64 1)) fun v34 =>
  B.pv (V.bin .leq v11 v34) fun v35 =>
  B.cond v35
  (zz.k3 C E C0 fL f1 f2 Q Y1 v0 v1 v8 v9 v10 v11 h)
  (Q (.tup []) h)
@[simp] def zz.l5 (C : CSem) (E : z4) (C0 : CSem) (fL : Nat) (f1 f2 : Nat) (Q : AVal → zb → Prop) (v0 v1 v8 v9 v10 : AVal) : List AVal → zb → (List AVal → zb → Prop) → Prop
 | [v11], h, Y1 => zz.k4 C E C0 fL f1 f2 Q Y1 v0 v1 v8 v9 v10 v11 h
 | _, _, _ => False
@[simp] def zz.k6 (C : CSem) (E : z4) (C0 : CSem) (fL : Nat) (f1 f2 : Nat) (Q : AVal → zb → Prop) (v0 v1 v8 v9 v10 : AVal) (h : zb) : Prop :=
 B.pv (V.bin .quo v8 (.int .i64 4)) fun v24 =>
  B.pv (V.bin .mul v24 (.int .i64 2)) fun v25 =>
  B.pv (V.bin .add v1 v25) fun v26 =>
  B.pv (V.bin .sub v26 (.int .i64 1)) fun v27 =>
  zd (zz.l5 C E C0 fL f1 f2 Q v0 v1 v8 v9 v10) [v27] h
@[simp] def zz.k7 (C : CSem) (E : z4) (C0 : CSem) (fL : Nat) (f1 f2 : Nat) (Q : AVal → zb → Prop) (v0 v1 v8 : AVal) (h : zb) : Prop :=
 B.pv (V.toInt .u64 v8) fun v19 =>
  B.newO h (some [.int .u64 0]) fun i9 h =>
  B.st h (.ptr i9 0 0) v19 fun h =>
  B.call C0 f2 [v8] h fun v21 h =>
  zz.k6 C E C0 fL f1 f2 Q v0 v1 v8 (.ptr i9 0 0) v21 h
@[simp] def zz.k8 (C : CSem) (E : z4) (C0 : CSem) (fL : Nat) (f1 f2 : Nat) (Q : AVal → zb → Prop) (v0 v1 v2 : AVal) (h : zb) : Prop :=
 B.pv (V.bin .sub v2 v1) fun v15 =>
  B.pv (V.bin .geq v15 (.int .i64 8)) fun v17 =>
  B.cond v17 (zz.k7 C E C0 fL f1 f2 Q v0 v1 v15 h) (Q (.tup []) h)
@[simp] def zz.cps (C : CSem) (E : z4) (C0 : CSem) (fL : Nat) (f1 f2 : Nat) (v0 v1 v2 v3 : AVal) (h : zb) (Q : AVal → zb → Prop) : Prop :=
 zz.k8 C E C0 fL f1 f2 Q v0 v1 v2 h
@[simp] def zbj.k1 (C : CSem) (E : z4) (C0 : CSem) (fL : Nat) (f1 f2 : Nat) (Q : AVal → zb → Prop) (v11 v13 : AVal) (h : zb) : Prop :=
 B.ld h v11 fun v55 =>
  B.pv (V.bin .eql v55 (.int .i64 0)) fun v58 =>
  B.cond v58
  (Q (.tup [v13, (.int .i64 1)]) h)
  (B.pv (V.bin .eql v55 (.int .i64 12)) fun v61 =>
  B.cond v61
  (Q (.tup [v13, (.int .i64 2)]) h)
  (Q (.tup [v13, (.int .i64 0)]) h))
@[simp] def zbj.k2 (C : CSem) (E : z4) (C0 : CSem) (fL : Nat) (f1 f2 : Nat) (Q : AVal → zb → Prop) (v0 v3 v10 v11 v12 v13 v14 : AVal) (h : zb) : Prop :=
 B.pv (V.bin .geq v10 (.int .i64 50)) fun v36 =>
  B.cond v36
  (B.call C f2 [v0, v12, v11, v3] h fun v40 h =>
  B.call C f2 [v0, v13, v11, v3] h fun v44 h =>
  B.call C f2 [v0, v14, v11, v3] h fun v48 h =>
  B.call C f1 [v0, v40, v44, v48, v11, v3] h fun v54 h =>
  zbj.k1 C E C0 fL f1 f2 Q v11 v54 h)
  (B.call C f1 [v0, v12, v13, v14, v11, v3] h fun v54 h =>
  zbj.k1 C E C0 fL f1 f2 Q v11 v54 h)
@[simp] def zbj.k3 (C : CSem) (E : z4) (C0 : CSem) (fL : Nat) (f1 f2 : Nat) (Q : AVal → zb → Prop) (v0 v3 v10 v11 v12 v13 v14 : AVal) (h : zb) : Prop :=
 B.pv (V.bin .geq v10 (.int .i64 8)) fun v34 =>
  B.cond v34 (zbj.k2 C E C0 fL f1 f2 Q v0 v3 v10 v11 v12 v13 v14 h) (zbj.k1 C E C0 fL f1 f2 Q v11 v13 h)
@[simp] def zbj.k4 (C : CSem) (E : z4) (C0 : CSem) (fL : Nat) (f1 f2 : Nat) (Q : AVal → zb → Prop) (v0 v1 v3 v10 v11 v12 v13 : AVal) (h : zb) : Prop :=
 B.pv (V.bin .quo v10 (.int .i64 4)) fun v30 =>
  B.pv (V.bin .mul v30 (.int .i64 3)) fun v31 =>
  B.pv (V.bin .add v1 v31) fun v32 =>
  zbj.k3 C E C0 fL f1 f2 Q v0 v3 v10 v11 v12 v13 v32 h
@[simp] def zbj.k5 (C : CSem) (E : z4) (C0 : CSem) (fL : Nat) (f1 f2 : Nat) (Q : AVal → zb → Prop) (v0 v1 v3 v10 v11 v12 : AVal) (h : zb) : Prop :=
 B.pv (V.bin .quo v10 (.int .i64 4)) fun v25 =>
  B.pv (V.bin .mul v25 (.int .i64 2)) fun v26 =>
  B.pv (V.bin .add v1 v26) fun v27 =>
  zbj.k4 C E C0 fL f1 f2 Q v0 v1 v3 v10 v11 v12 v27 h
@[simp] def zbj.k6 (C : CSem) (E : z4) (C0 : CSem) (fL : Nat) (f1 f2 : Nat) (Q : AVal → zb → Prop) (v0 v1 v3 v10 v11 : AVal) (h : zb) : Prop :=
 B.pv (V.bin .quo v10 (.int .i64 4)) fun v20 =>
  B.pv (V.bin .mul v20 (.int .i64 1)) fun v21 =>
  B.pv (V.bin .add v1 v21) fun v22 =>
  zbj.k5 C E C0 fL f1 f2 Q v0 v1 v3 v10 v11 v22 h
@[simp] def zbj.cps (C : CSem) (E : z4) (C0 : CSem) (fL : Nat) (f1 f2 : Nat) (v0 v1 v2 v3 : AVal) (h : zb) (Q : AVal → zb → Prop) : Prop :=
 B.pv (V.bin .sub v2 v1) fun v17 =>
  B.newO h (some [.int .i64 0]) fun i11 h =>
  zbj.k6 C E C0 fL f1 f2 Q v0 v1 v3 v17 (.ptr i11 0 0) h
@[simp] def zdt.k1 (C : CSem) (E : z4) (C0 : CSem) (fL : Nat) (Q : AVal → zb → Prop) (Y1 : List AVal → zb → Prop) (v0 v8 v9 : AVal) (h : zb) : Prop :=
 B.pv (V.bin .lss v8 v9) fun v15 =>
  B.cond v15
  (B.pv (V.idxS E.es v0 v9) fun v22 =>
  E.ld h v22 fun v23 =>
  B.pv (V.idxS E.es v0 v8) fun v26 =>
  E.ld h v26 fun v27 =>
  B.pv (V.idxS E.es v0 v8) fun v28 =>
  E.st h v28 v23 fun h =>
  B.pv (V.idxS E.es v0 v9) fun v29 =>
  E.st h v29 v27 fun h =>
  B.pv (V.bin .add v8 (.int .i64 1)) fun v31 =>
  B.pv (V.bin .sub v9 (.int .i64 1)) fun v33 =>
  Y1 [v31, v33] h)
  (Q (.tup []) h)
@[simp] def zdt.l2 (C : CSem) (E : z4) (C0 : CSem) (fL : Nat) (Q : AVal → zb → Prop) (v0 : AVal) : List AVal → zb → (List AVal → zb → Prop) → Prop
 | [v8, v9], h, Y1 => zdt.k1 C E C0 fL Q Y1 v0 v8 v9 h
 | _, _, _ => False
@[simp] def zdt.cps (C : CSem) (E : z4) (C0 : CSem) (fL : Nat) (v0 v1 v2 v3 : AVal) (h : zb) (Q : AVal → zb → Prop) : Prop :=
 B.pv (V.bin .sub v2 (.int .i64 1)) fun v12 =>
  zd (zdt.l2 C E C0 fL Q v0) [v1, v12] h
@[simp] def zh.k1 (C : CSem) (E : z4) (C0 : CSem) (fL : Nat) (Q : AVal → zb → Prop) (Y1 : List AVal → zb → Prop) (Y2 : List AVal → zb → Prop) (v0 v1 v2 v3 v9 v10 v12 : AVal) (h : zb) : Prop :=
 B.pv (V.bin .lss v12 v2) fun v109 =>
  B.cond v109
  (B.pv (V.idxS E.es v0 v12) fun v115 =>
  E.ld h v115 fun v116 =>
  B.pv (V.bin .sub v12 (.int .i64 1)) fun v119 =>
  B.pv (V.idxS E.es v0 v119) fun v120 =>
  E.ld h v120 fun v121 =>
  B.call C0 fL [v116, v121] h fun v123 h =>
  B.pv (V.un .not v123) fun v124 =>
  B.cond v124
  (B.pv (V.bin .add v10 (.int .i64 1)) fun v18 =>
  Y1 [v9, v18] h)
  (B.pv (V.bin .sub v12 (.int .i64 1)) fun v129 =>
  B.pv (V.bin .sub v12 (.int .i64 1)) fun v132 =>
  B.pv (V.idxS E.es v0 v132) fun v133 =>
  E.ld h v133 fun v134 =>
  B.pv (V.idxS E.es v0 v12) fun v137 =>
  E.ld h v137 fun v138 =>
  B.pv (V.idxS E.es v0 v12) fun v139 =>
  E.st h v139 v134 fun h =>
  B.pv (V.idxS E.es v0 v129) fun v140 =>
  E.st h v140 v138 fun h =>
  B.pv (V.bin .add v12 (.int .i64 1)) fun v111 =>
  Y2 [v111] h))
  (B.pv (V.bin .add v10 (.int .i64 1)) fun v18 =>
  Y1 [v9, v18] h)
@[simp] def zh.l2 (C : CSem) (E : z4) (C0 : CSem) (fL : Nat) (Q : AVal → zb → Prop) (Y1 : List AVal → zb → Prop) (v0 v1 v2 v3 v9 v10 : AVal) : List AVal → zb → (List AVal → zb → Prop) → Prop
 | [v12], h, Y2 => zh.k1 C E C0 fL Q Y1 Y2 v0 v1 v2 v3 v9 v10 v12 h
 | _, _, _ => False
@[simp] def zh.k3 (C : CSem) (E : z4) (C0 : CSem) (fL : Nat) (Q : AVal → zb → Prop) (Y1 : List AVal → zb → Prop) (v0 v1 v2 v3 v9 v10 : AVal) (h : zb) : Prop :=
 B.pv (V.bin .sub v2 v9) fun v103 =>
  B.pv (V.bin .geq v103 (.int .i64 2)) fun v104 =>
  B.cond v104 (B.pv (V.bin .add v9 (.int .i64 1)) fun v106 =>
  zd (zh.l2 C E C0 fL Q Y1 v0 v1 v2 v3 v9 v10) [v106] h) (B.pv (V.bin .add v10 (.int .i64 1)) fun v18 =>
  Y1 [v9, v18] h)
@[simp] def zh.k4 (C : CSem) (E : z4) (C0 : CSem) (fL : Nat) (Q : AVal → zb → Prop) (Y1 : List AVal → zb → Prop) (Y3 : List AVal → zb → Prop) (v0 v1 v2 v3 v9 v10 v11 : AVal) (h : zb) : Prop :=
 B.pv (V.bin .geq v11 (.int .i64 1)) fun v69 =>
  B.cond v69
  (B.pv (V.idxS E.es v0 v11) fun v75 =>
  E.ld h v75 fun v76 =>
  B.pv (V.bin .sub v11 (.int .i64 1)) fun v79 =>
  B.pv (V.idxS E.es v0 v79) fun v80 =>
  E.ld h v80 fun v81 =>
  B.call C0 fL [v76, v81] h fun v83 h =>
  B.pv (V.un .not v83) fun v84 =>
  B.cond v84
  (zh.k3 C E C0 fL Q Y1 v0 v1 v2 v3 v9 v10 h)
  (B.pv (V.bin .sub v11 (.int .i64 1)) fun v89 =>
  B.pv (V.bin .sub v11 (.int .i64 1)) fun v92 =>
  B.pv (V.idxS E.es v0 v92) fun v93 =>
  E.ld h v93 fun v94 =>
  B.pv (V.idxS E.es v0 v11) fun v97 =>
  E.ld h v97 fun v98 =>
  B.pv (V.idxS E.es v0 v11) fun v99 =>
  E.st h v99 v94 fun h =>
  B.pv (V.idxS E.es v0 v89) fun v100 =>
  E.st h v100 v98 fun h =>
  B.pv (V.bin .sub v11 (.int .i64 1)) fun v71 =>
  Y3 [v71] h))
  (zh.k3 C E C0 fL Q Y1 v0 v1 v2 v3 v9 v10 h)
@[simp] def zh.l5 (C : CSem) (E : z4) (C0 : CSem) (fL : Nat) (Q : AVal → zb → Prop) (Y1 : List AVal → zb → Prop) (v0 v1 v2 v3 v9 v10 : AVal) : List AVal → zb → (List AVal → zb → Prop) → Prop
 | [v11], h, Y3 => zh.k4 C E C0 fL Q Y1 Y3 v0 v1 v2 v3 v9 v10 v11 h
 | _, _, _ => False
@[simp] def zh.k6 (C : CSem) (E : z4) (C0 : CSem) (fL : Nat) (Q : AVal → zb → Prop) (Y1 : List AVal → zb → Prop) (v0 v1 v2 v3 v9 v10 : AVal) (h : zb) : Prop :=
 B.pv (V.bin .sub v9 v1) fun v64 =>
  B.pv (V.bin .geq v64 (.int .i64 2)) fun v65 =>
  B.cond v65 (B.pv (V.bin .sub v9 (.int .i64 1)) fun v67 =>
  zd (zh.l5 C E C0 fL Q Y1 v0 v1 v2 v3 v9 v10) [v67] h) (zh.k3 C E C0 fL Q Y1 v0 v1 v2 v3 v9 v10 h)
@[simp] def zh.k7 (C : CSem) (E : z4) (C0 : CSem) (fL : Nat) (Q : AVal → zb → Prop) (Y1 : List AVal → zb → Prop) (v0 v1 v2 v3 v9 v10 : AVal) (h : zb) : Prop :=
 B.pv (V.bin .sub v9 (.int .i64 1)) fun v50 =>
  B.pv (V.bin .sub v9 (.int .i64 1)) fun v53 =>
  B.pv (V.idxS E.es v0 v53) fun v54 =>
  E.ld h v54 fun v55 =>
  B.pv (V.idxS E.es v0 v9) fun v58 =>
  E.ld h v58 fun v59 =>
  B.pv (V.idxS E.es v0 v9) fun v60 =>
  E.st h v60 v55 fun h =>
  B.pv (V.idxS E.es v0 v50) fun v61 =>
  E.st h v61 v59 fun h =>
  zh.k6 C E C0 fL Q Y1 v0 v1 v2 v3 v9 v10 h
@[simp] def zh.k8 (C : CSem) (E : z4) (C0 : CSem) (fL : Nat) (Q : AVal → zb → Prop) (Y1 : List AVal → zb → Prop) (v0 v1 v2 v3 v9 v10 : AVal) (h : zb) : Prop :=
 B.pv (V.bin .sub v2 v1) fun v44 =>
  B.pv (V.bin .lss v44 (.int .i64 50)) fun v45 =>
  B.cond v45
  (Q (.bool false) h)
  (zh.k7 C E C0 fL Q Y1 v0 v1 v2 v3 v9 v10 h)
@[simp] def zh.k9 (C : CSem) (E : z4) (C0 : CSem) (fL : Nat) (Q : AVal → zb → Prop) (Y1 : List AVal → zb → Prop) (Y4 : List AVal → zb → Prop) (v0 v1 v2 v3 v9 v10 : AVal) (h : zb) : Prop :=
 B.pv (V.bin .lss v9 v2) fun v21 =>
  B.gd h v21 true (fun K => K v0 h) fun v24 h =>
  B.gd h v21 true (fun K => K v9 h) fun v25 h =>
  B.gd h v21 true (fun K => B.pv (V.idxS E.es v24 v25) fun v => K v h) fun v26 h =>
  B.gd h v21 true (fun K => E.ld h v26 fun v => K v h) fun v27 h =>
  B.gd h v21 true (fun K => K v0 h) fun v28 h =>
  B.gd h v21 true (fun K => K v9 h) fun v29 h =>
  B.gd h v21 true (fun K => B.pv (V.bin .sub v29 (.int .i64 1)) fun v => K v h) fun v30 h =>
  B.gd h v21 true (fun K => B.pv (V.idxS E.es v28 v30) fun v => K v h) fun v31 h =>
  B.gd h v21 true (fun K => E.ld h v31 fun v => K v h) fun v32 h =>
  B.gd h v21 true (fun K => B.call C0 fL [v27, v32] h K) fun v34 h =>
  B.gd h v21 true (fun K => B.pv (V.un .not v34) fun v => K v h) fun v35 h =>
  B.pick v21 v35 (.bool false) fun v36 =>
  B.cond v36
  (B.pv (V.bin .add v9 (.int .i64 1)) fun v38 =>
  Y4 [v38] h)
  (B.pv (V.bin .eql v9 v2) fun v41 =>
  B.cond v41
  (Q (.bool true) h)
  (zh.k8 C E C0 fL Q Y1 v0 v1 v2 v3 v9 v10 h))
@[simp] def zh.l10 (C : CSem) (E : z4) (C0 : CSem) (fL : Nat) (Q : AVal → zb → Prop) (Y1 : List AVal → zb → Prop) (v0 v1 v2 v3 v10 : AVal) : List AVal → zb → (List AVal → zb → Prop) → Prop
 | [v9], h, Y4 => zh.k9 C E C0 fL Q Y1 Y4 v0 v1 v2 v3 v9 v10 h
 | _, _, _ => False
@[simp] def zh.k11 (C : CSem) (E : z4) (C0 : CSem) (fL : Nat) (Q : AVal → zb → Prop) (Y1 : List AVal → zb → Prop) (v0 v1 v2 v3 v9 v10 : AVal) (h : zb) : Prop :=
 B.pv (V.bin .lss v10 (.int .i64 5)) fun v16 =>
  B.cond v16
  (zd (zh.l10 C E C0 fL Q Y1 v0 v1 v2 v3 v10) [v9] h)
  (Q (.bool false) h)
@[simp] def zh.l12 (C : CSem) (E : z4) (C0 : CSem) (fL : Nat) (Q : AVal → zb → Prop) (v0 v1 v2 v3 : AVal) : List AVal → zb → (List AVal → zb → Prop) → Prop
 | [v9, v10], h, Y1 => zh.k11 C E C0 fL Q Y1 v0 v1 v2 v3 v9 v10 h
 | _, _, _ => False
@[simp] def zh.cps (C : CSem) (E : z4) (C0 : CSem) (fL : Nat) (v0 v1 v2 v3 : AVal) (h : zb) (Q : AVal → zb → Prop) : Prop :=
 B.pv (V.bin .add v1 (.int .i64 1)) fun v14 =>
  zd (zh.l12 C E C0 fL Q v0 v1 v2 v3) [v14, (.int .i64 0)] h
@[simp] def zt.k1 (C : CSem) (E : z4) (C0 : CSem) (fL : Nat) (Q : AVal → zb → Prop) (Y1 : List AVal → zb → Prop) (v0 v1 v4 v11 v12 : AVal) (h : zb) : Prop :=
 B.pv (V.bin .gtr v11 v12) fun v70 =>
  B.cond v70
  (Q v11 h)
  (B.pv (V.idxS E.es v0 v12) fun v77 =>
  E.ld h v77 fun v78 =>
  B.pv (V.idxS E.es v0 v11) fun v81 =>
  E.ld h v81 fun v82 =>
  B.pv (V.idxS E.es v0 v11) fun v83 =>
  E.st h v83 v78 fun h =>
  B.pv (V.idxS E.es v0 v12) fun v84 =>
  E.st h v84 v82 fun h =>
  B.pv (V.bin .add v11 (.int .i64 1)) fun v86 =>
  B.pv (V.bin .sub v12 (.int .i64 1)) fun v88 =>
  Y1 [v86, v88] h)
@[simp] def zt.k2 (C : CSem) (E : z4) (C0 : CSem) (fL : Nat) (Q : AVal → zb → Prop) (Y1 : List AVal → zb → Prop) (Y2 : List AVal → zb → Prop) (v0 v1 v4 v11 v12 : AVal) (h : zb) : Prop :=
 B.pv (V.bin .leq v11 v12) fun v52 =>
  B.gd h v52 true (fun K => K v0 h) fun v55 h =>
  B.gd h v52 true (fun K => K v1 h) fun v56 h =>
  B.gd h v52 true (fun K => B.pv (V.idxS E.es v55 v56) fun v => K v h) fun v57 h =>
  B.gd h v52 true (fun K => E.ld h v57 fun v => K v h) fun v58 h =>
  B.gd h v52 true (fun K => K v0 h) fun v59 h =>
  B.gd h v52 true (fun K => K v12 h) fun v60 h =>
  B.gd h v52 true (fun K => B.pv (V.idxS E.es v59 v60) fun v => K v h) fun v61 h =>
  B.gd h v52 true (fun K => E.ld h v61 fun v => K v h) fun v62 h =>
  B.gd h v52 true (fun K => B.call C0 fL [v58, v62] h K) fun v64 h =>
  B.pick v52 v64 (.bool false) fun v65 =>
  B.cond v65
  (B.pv (V.bin .sub v12 (.int .i64 1)) fun v67 =>
  Y2 [v67] h)
  (zt.k1 C E C0 fL Q Y1 v0 v1 v4 v11 v12 h)
@[simp] def zt.l3 (C : CSem) (E : z4) (C0 : CSem) (fL : Nat) (Q : AVal → zb → Prop) (Y1 : List AVal → zb → Prop) (v0 v1 v4 v11 : AVal) : List AVal → zb → (List AVal → zb → Prop) → Prop
 | [v12], h, Y2 => zt.k2 C E C0 fL Q Y1 Y2 v0 v1 v4 v11 v12 h
 | _, _, _ => False
@[simp] def zt.k4 (C : CSem) (E : z4) (C0 : CSem) (fL : Nat) (Q : AVal → zb → Prop) (Y1 : List AVal → zb → Prop) (Y3 : List AVal → zb → Prop) (v0 v1 v4 v11 v12 : AVal) (h : zb) : Prop :=
 B.pv (V.bin .leq v11 v12) fun v33 =>
  B.gd h v33 true (fun K => K v0 h) fun v36 h =>
  B.gd h v33 true (fun K => K v1 h) fun v37 h =>
  B.gd h v33 true (fun K => B.pv (V.idxS E.es v36 v37) fun v => K v h) fun v38 h =>
  B.gd h v33 true (fun K => E.ld h v38 fun v => K v h) fun v39 h =>
  B.gd h v33 true (fun K => K v0 h) fun v40 h =>
  B.gd h v33 true (fun K => K v11 h) fun v41 h =>
  B.gd h v33 true (fun K => B.pv (V.idxS E.es v40 v41) fun v => K v h) fun v42 h =>
  B.gd h v33 true (fun K => E.ld h v42 fun v => K v h) fun v43 h =>
  B.gd h v33 true (fun K => B.call C0 fL [v39, v43] h K) fun v45 h =>
  B.gd h v33 true (fun K => B.pv (V.un .not v45) fun v => K v h) fun v46 h =>
  B.pick v33 v46 (.bool false) fun v47 =>
  B.cond v47
  (B.pv (V.bin .add v11 (.int .i64 1)) fun v49 =>
  Y3 [v49] h)
  (zd (zt.l3 C E C0 fL Q Y1 v0 v1 v4 v11) [v12] h)
@[simp] def zt.l5 (C : CSem) (E : z4) (C0 : CSem) (fL : Nat) (Q : AVal → zb → Prop) (Y1 : List AVal → zb → Prop) (v0 v1 v4 v12 : AVal) : List AVal → zb → (List AVal → zb → Prop) → Prop
 | [v11], h, Y3 => zt.k4 C E C0 fL Q Y1 Y3 v0 v1 v4 v11 v12 h
 | _, _, _ => False
@[simp] def zt.l6 (C : CSem) (E : z4) (C0 : CSem) (fL : Nat) (Q : AVal → zb → Prop) (v0 v1 v4 : AVal) : List AVal → zb → (List AVal → zb → Prop) → Prop
 | [v11, v12], h, Y1 => zd (zt.l5 C E C0 fL Q Y1 v0 v1 v4 v12) [v11] h
 | _, _, _ => False
@[simp] def zt.k7 (C : CSem) (E : z4) (C0 : CSem) (fL : Nat) (Q : AVal → zb → Prop) (v0 v1 v2 v4 : AVal) (h : zb) : Prop :=
 B.pv (V.bin .add v1 (.int .i64 1)) fun v28 =>
  B.pv (V.bin .sub v2 (.int .i64 1)) fun v30 =>
  zd (zt.l6 C E C0 fL Q v0 v1 v4) [v28, v30] h
@[simp] def zt.k8 (C : CSem) (E : z4) (C0 : CSem) (fL : Nat) (Q : AVal → zb → Prop) (v0 v1 v2 v3 v4 : AVal) (h : zb) : Prop :=
 B.pv (V.idxS E.es v0 v3) fun v19 =>
  E.ld h v19 fun v20 =>
  B.pv (V.idxS E.es v0 v1) fun v23 =>
  E.ld h v23 fun v24 =>
  B.pv (V.idxS E.es v0 v1) fun v25 =>
  E.st h v25 v20 fun h =>
  B.pv (V.idxS E.es v0 v3) fun v26 =>
  E.st h v26 v24 fun h =>
  zt.k7 C E C0 fL Q v0 v1 v2 v4 h
@[simp] def zt.cps (C : CSem) (E : z4) (C0 : CSem) (fL : Nat) (v0 v1 v2 v3 v4 : AVal) (h : zb) (Q : AVal → zb → Prop) : Prop :=
 zt.k8 C E C0 fL Q v0 v1 v2 v3 v4 h
@[simp] def zl.k1 (C : CSem) (E : z4) (C0 : CSem) (fL : Nat) (Q : AVal → zb → Prop) (v0 v1 v13 : AVal) (h : zb) : Prop :=
 B.pv (V.idxS E.es v0 v1) fun v169 =>
  E.ld h v169 fun v170 =>
  B.pv (V.idxS E.es v0 v13) fun v173 =>
  E.ld h v173 fun v174 =>
  B.pv (V.idxS E.es v0 v13) fun v175 =>
  E.st h v175 v170 fun h =>
  B.pv (V.idxS E.es v0 v1) fun v176 =>
  E.st h v176 v174 fun h =>
  Q (.tup [v13, (.bool false)]) h
@[simp] def zl.k2 (C : CSem) (E : z4) (C0 : CSem) (fL : Nat) (Q : AVal → zb → Prop) (Y1 : List AVal → zb → Prop) (v0 v1 v4 v12 v13 : AVal) (h : zb) : Prop :=
 B.pv (V.bin .gtr v12 v13) fun v144 =>
  B.cond v144
  (zl.k1 C E C0 fL Q v0 v1 v13 h)
  (B.pv (V.idxS E.es v0 v13) fun v151 =>
  E.ld h v151 fun v152 =>
  B.pv (V.idxS E.es v0 v12) fun v155 =>
  E.ld h v155 fun v156 =>
  B.pv (V.idxS E.es v0 v12) fun v157 =>
  E.st h v157 v152 fun h =>
  B.pv (V.idxS E.es v0 v13) fun v158 =>
  E.st h v158 v156 fun h =>
  B.pv (V.bin .add v12 (.int .i64 1)) fun v160 =>
  B.pv (V.bin .sub v13 (.int .i64 1)) fun v162 =>
  Y1 [v160, v162] h)
@[simp] def zl.k3 (C : CSem) (E : z4) (C0 : CSem) (fL : Nat) (Q : AVal → zb → Prop) (Y1 : List AVal → zb → Prop) (Y2 : List AVal → zb → Prop) (v0 v1 v4 v12 v13 : AVal) (h : zb) : Prop :=
 B.pv (V.bin .leq v12 v13) fun v125 =>
  B.gd h v125 true (fun K => K v0 h) fun v128 h =>
  B.gd h v125 true (fun K => K v13 h) fun v129 h =>
  B.gd h v125 true (fun K => B.pv (V.idxS E.es v128 v129) fun v => K v h) fun v130 h =>
  B.gd h v125 true (fun K => E.ld h v130 fun v => K v h) fun v131 h =>
  B.gd h v125 true (fun K => K v0 h) fun v132 h =>
  B.gd h v125 true (fun K => K v1 h) fun v133 h =>
  B.gd h v125 true (fun K => B.pv (V.idxS E.es v132 v133) fun v => K v h) fun v134 h =>
  B.gd h v125 true (fun K => E.ld h v134 fun v => K v h) fun v135 h =>
  B.gd h v125 true (fun K => B.call C0 fL [v131, v135] h K) fun v137 h =>
  B.gd h v125 true (fun K => B.pv (V.un .not v137) fun v => K v h) fun v138 h =>
  B.pick v125 v138 (.bool false) fun v139 =>
  B.cond v139
  (B.pv (V.bin .sub v13 (.int .i64 1)) fun v141 =>
  Y2 [v141] h)
  (zl.k2 C E C0 fL Q Y1 v0 v1 v4 v12 v13 h)
@[simp] def zl.l4 (C : CSem) (E : z4) (C0 : CSem) (fL : Nat) (Q : AVal → zb → Prop) (Y1 : List AVal → zb → Prop) (v0 v1 v4 v12 : AVal) : List AVal → zb → (List AVal → zb → Prop) → Prop
 | [v13], h, Y2 => zl.k3 C E C0 fL Q Y1 Y2 v0 v1 v4 v12 v13 h
 | _, _, _ => False
@[simp] def zl.k5 (C : CSem) (E : z4) (C0 : CSem) (fL : Nat) (Q : AVal → zb → Prop) (Y1 : List AVal → zb → Prop) (Y3 : List AVal → zb → Prop) (v0 v1 v4 v12 v13 : AVal) (h : zb) : Prop :=
 B.pv (V.bin .leq v12 v13) fun v107 =>
  B.gd h v107 true (fun K => K v0 h) fun v110 h =>
  B.gd h v107 true (fun K => K v12 h) fun v111 h =>
  B.gd h v107 true (fun K => B.pv (V.idxS E.es v110 v111) fun v => K v h) fun v112 h =>
  B.gd h v107 true (fun K => E.ld h v112 fun v => K v h) fun v113 h =>
  B.gd h v107 true (fun K => K v0 h) fun v114 h =>
  B.gd h v107 true (fun K => K v1 h) fun v115 h =>
  B.gd h v107 true (fun K => B.pv (V.idxS E.es v114 v115) fun v => K v h) fun v116 h =>
  B.gd h v107 true (fun K => E.ld h v116 fun v => K v h) fun v117 h =>
  B.gd h v107 true (fun K => B.call C0 fL [v113, v117] h K) fun v119 h =>
  B.pick v107 v119 (.bool false) fun v120 =>
  B.cond v120
  (B.pv (V.bin .add v12 (.int .i64 1)) fun v122 =>
  Y3 [v122] h)
  (zd (zl.l4 C E C0 fL Q Y1 v0 v1 v4 v12) [v13] h)
@[simp] def zl.l6 (C : CSem) (E : z4) (C0 : CSem) (fL : Nat) (Q : AVal → zb → Prop) (Y1 : List AVal → zb → Prop) (v0 v1 v4 v13 : AVal) : List AVal → zb → (List AVal → zb → Prop) → Prop
 | [v12], h, Y3 => zl.k5 C E C0 fL Q Y1 Y3 v0 v1 v4 v12 v13 h
 | _, _, _ => False
@[simp] def zl.l7 (C : CSem) (E : z4) (C0 : CSem) (fL : Nat) (Q : AVal → zb → Prop) (v0 v1 v4 : AVal) : List AVal → zb → (List AVal → zb → Prop) → Prop
 | [v12, v13], h, Y1 => zd (zl.l6 C E C0 fL Q Y1 v0 v1 v4 v13) [v12] h
 | _, _, _ => False
@[simp] def zl.k8 (C : CSem) (E : z4) (C0 : CSem) (fL : Nat) (Q : AVal → zb → Prop) (v0 v1 v4 v12 v13 : AVal) (h : zb) : Prop :=
 B.pv (V.bin .add v12 (.int .i64 1)) fun v102 =>
  B.pv (V.bin .sub v13 (.int .i64 1)) fun v104 =>
  zd (zl.l7 C E C0 fL Q v0 v1 v4) [v102, v104] h
@[simp] def zl.k9 (C : CSem) (E : z4) (C0 : CSem) (fL : Nat) (Q : AVal → zb → Prop) (v0 v1 v4 v12 v13 : AVal) (h : zb) : Prop :=
 B.pv (V.idxS E.es v0 v13) fun v93 =>
  E.ld h v93 fun v94 =>
  B.pv (V.idxS E.es v0 v12) fun v97 =>
  E.ld h v97 fun v98 =>
  B.pv (V.idxS E.es v0 v12) fun v99 =>
  E.st h v99 v94 fun h =>
  B.pv (V.idxS E.es v0 v13) fun v100 =>
  E.st h v100 v98 fun h =>
  zl.k8 C E C0 fL Q v0 v1 v4 v12 v13 h
@[simp] def zl.k10 (C : CSem) (E : z4) (C0 : CSem) (fL : Nat) (Q : AVal → zb → Prop) (v0 v1 v4 v12 v13 : AVal) (h : zb) : Prop :=
 B.pv (V.bin .gtr v12 v13) fun v71 =>
  B.cond v71
  (B.pv (V.idxS E.es v0 v1) fun v78 =>
  E.ld h v78 fun v79 =>
  B.pv (V.idxS E.es v0 v13) fun v82 =>
  E.ld h v82 fun v83 =>
  B.pv (V.idxS E.es v0 v13) fun v84 =>
  E.st h v84 v79 fun h =>
  B.pv (V.idxS E.es v0 v1) fun v85 =>
  E.st h v85 v83 fun h =>
  Q (.tup [v13, (.bool true)]) h)
  (zl.k9 C E C0 fL Q v0 v1 v4 v12 v13 h)
@[simp] def zl.k11 (C : CSem) (E : z4) (C0 : CSem) (fL : Nat) (Q : AVal → zb → Prop) (Y4 : List AVal → zb → Prop) (v0 v1 v4 v12 v13 : AVal) (h : zb) : Prop :=
 B.pv (V.bin .leq v12 v13) fun v52 =>
  B.gd h v52 true (fun K => K v0 h) fun v55 h =>
  B.gd h v52 true (fun K => K v13 h) fun v56 h =>
  B.gd h v52 true (fun K => B.pv (V.idxS E.es v55 v56) fun v => K v h) fun v57 h =>
  B.gd h v52 true (fun K => E.ld h v57 fun v => K v h) fun v58 h =>
  B.gd h v52 true (fun K => K v0 h) fun v59 h =>
  B.gd h v52 true (fun K => K v1 h) fun v60 h =>
  B.gd h v52 true (fun K => B.pv (V.idxS E.es v59 v60) fun v => K v h) fun v61 h =>
  B.gd h v52 true (fun K => E.ld h v61 fun v => K v h) fun v62 h =>
  B.gd h v52 true (fun K => B.call C0 fL [v58, v62] h K) fun v64 h =>
  B.gd h v52 true (fun K => B.pv (V.un .not v64) fun v => K v h) fun v65 h =>
  B.pick v52 v65 (.bool false) fun v66 =>
  B.cond v66
  (B.pv (V.bin .sub v13 (.int .i64 1)) fun v68 =>
  Y4 [v68] h)
  (zl.k10 C E C0 fL Q v0 v1 v4 v12 v13 h)
@[simp] def zl.l12 (C : CSem) (E : z4) (C0 : CSem) (fL : Nat) (Q : AVal → zb → Prop) (v0 v1 v4 v12 : AVal) : List AVal → zb → (List AVal → zb → Prop) → Prop
 | [v13], h, Y4 => zl.k11 C E C0 fL Q Y4 v0 v1 v4 v12 v13 h
 | _, _, _ => False
@[simp] def zl.k13 (C : CSem) (E : z4) (C0 : CSem) (fL : Nat) (Q : AVal → zb → Prop) (Y5 : List AVal → zb → Prop) (v0 v1 v4 v12 v13 : AVal) (h : zb) : Prop :=
 B.pv (V.bin .leq v12 v13) fun v34 =>
  B.gd h v34 true (fun K => K v0 h) fun v37 h =>
  B.gd h v34 true (fun K => K v12 h) fun v38 h =>
  B.gd h v34 true (fun K => B.pv (V.idxS E.es v37 v38) fun v => K v h) fun v39 h =>
  B.gd h v34 true (fun K => E.ld h v39 fun v => K v h) fun v40 h =>
  B.gd h v34 true (fun K => K v0 h) fun v41 h =>
  B.gd h v34 true (fun K => K v1 h) fun v42 h =>
  B.gd h v34 true (fun K => B.pv (V.idxS E.es v41 v42) fun v => K v h) fun v43 h =>
  B.gd h v34 true (fun K => E.ld h v43 fun v => K v h) fun v44 h =>
  B.gd h v34 true (fun K => B.call C0 fL [v40, v44] h K) fun v46 h =>
  B.pick v34 v46 (.bool false) fun v47 =>
  B.cond v47
  (B.pv (V.bin .add v12 (.int .i64 1)) fun v49 =>
  Y5 [v49] h)
  (zd (zl.l12 C E C0 fL Q v0 v1 v4 v12) [v13] h)
@[simp] def zl.l14 (C : CSem) (E : z4) (C0 : CSem) (fL : Nat) (Q : AVal → zb → Prop) (v0 v1 v4 v13 : AVal) : List AVal → zb → (List AVal → zb → Prop) → Prop
 | [v12], h, Y5 => zl.k13 C E C0 fL Q Y5 v0 v1 v4 v12 v13 h
 | _, _, _ => False
@[simp] def zl.k15 (C : CSem) (E : z4) (C0 : CSem) (fL : Nat) (Q : AVal → zb → Prop) (v0 v1 v2 v4 : AVal) (h : zb) : Prop :=
 B.pv (V.bin .add v1 (.int .i64 1)) fun v29 =>
  B.pv (V.bin .sub v2 (.int .i64 1)) fun v31 =>
  zd (zl.l14 C E C0 fL Q v0 v1 v4 v31) [v29] h
@[simp] def zl.k16 (C : CSem) (E : z4) (C0 : CSem) (fL : Nat) (Q : AVal → zb → Prop) (v0 v1 v2 v3 v4 : AVal) (h : zb) : Prop :=
 B.pv (V.idxS E.es v0 v3) fun v20 =>
  E.ld h v20 fun v21 =>
  B.pv (V.idxS E.es v0 v1) fun v24 =>
  E.ld h v24 fun v25 =>
  B.pv (V.idxS E.es v0 v1) fun v26 =>
  E.st h v26 v21 fun h =>
  B.pv (V.idxS E.es v0 v3) fun v27 =>
  E.st h v27 v25 fun h =>
  zl.k15 C E C0 fL Q v0 v1 v2 v4 h
@[simp] def zl.cps (C : CSem) (E : z4) (C0 : CSem) (fL : Nat) (v0 v1 v2 v3 v4 : AVal) (h : zb) (Q : AVal → zb → Prop) : Prop :=
 zl.k16 C E C0 fL Q v0 v1 v2 v3 v4 h
@[simp] def zcw.k1 (C : CSem) (E : z4) (C0 : CSem) (fL : Nat) (Q : AVal → zb → Prop) (Y1 : List AVal → zb → Prop) (v0 v2 v3 v4 v10 v11 : AVal) (h : zb) : Prop :=
 B.pv (V.bin .add v3 v10) fun v47 =>
  B.pv (V.idxS E.es v0 v47) fun v48 =>
  E.ld h v48 fun v49 =>
  B.pv (V.bin .add v3 v11) fun v53 =>
  B.pv (V.idxS E.es v0 v53) fun v54 =>
  E.ld h v54 fun v55 =>
  B.call C0 fL [v49, v55] h fun v57 h =>
  B.pv (V.un .not v57) fun v58 =>
  B.cond v58
  (Q (.tup []) h)
  (B.pv (V.bin .add v3 v10) fun v62 =>
  B.pv (V.bin .add v3 v11) fun v66 =>
  B.pv (V.bin .add v3 v11) fun v70 =>
  B.pv (V.idxS E.es v0 v70) fun v71 =>
  E.ld h v71 fun v72 =>
  B.pv (V.bin .add v3 v10) fun v76 =>
  B.pv (V.idxS E.es v0 v76) fun v77 =>
  E.ld h v77 fun v78 =>
  B.pv (V.idxS E.es v0 v62) fun v79 =>
  E.st h v79 v72 fun h =>
  B.pv (V.idxS E.es v0 v66) fun v80 =>
  E.st h v80 v78 fun h =>
  Y1 [v11] h)
@[simp] def zcw.k2 (C : CSem) (E : z4) (C0 : CSem) (fL : Nat) (Q : AVal → zb → Prop) (Y1 : List AVal → zb → Prop) (v0 v2 v3 v4 v10 v11 : AVal) (h : zb) : Prop :=
 B.pv (V.bin .add v11 (.int .i64 1)) fun v20 =>
  B.pv (V.bin .lss v20 v2) fun v22 =>
  B.gd h v22 true (fun K => K v0 h) fun v25 h =>
  B.gd h v22 true (fun K => K v3 h) fun v26 h =>
  B.gd h v22 true (fun K => K v11 h) fun v27 h =>
  B.gd h v22 true (fun K => B.pv (V.bin .add v26 v27) fun v => K v h) fun v28 h =>
  B.gd h v22 true (fun K => B.pv (V.idxS E.es v25 v28) fun v => K v h) fun v29 h =>
  B.gd h v22 true (fun K => E.ld h v29 fun v => K v h) fun v30 h =>
  B.gd h v22 true (fun K => K v0 h) fun v31 h =>
  B.gd h v22 true (fun K => K v3 h) fun v32 h =>
  B.gd h v22 true (fun K => K v11 h) fun v33 h =>
  B.gd h v22 true (fun K => B.pv (V.bin .add v32 v33) fun v => K v h) fun v34 h =>
  B.gd h v22 true (fun K => B.pv (V.bin .add v34 (.int .i64 1)) fun v => K v h) fun v35 h =>
  B.gd h v22 true (fun K => B.pv (V.idxS E.es v31 v35) fun v => K v h) fun v36 h =>
  B.gd h v22 true (fun K => E.ld h v36 fun v => K v h) fun v37 h =>
  B.gd h v22 true (fun K => B.call C0 fL [v30, v37] h K) fun v39 h =>
  B.pick v22 v39 (.bool false) fun v40 =>
  B.cond v40
  (B.pv (V.bin .add v11 (.int .i64 1)) fun v42 =>
  zcw.k1 C E C0 fL Q Y1 v0 v2 v3 v4 v10 v42 h)
  (zcw.k1 C E C0 fL Q Y1 v0 v2 v3 v4 v10 v11 h)
@[simp] def zcw.k3 (C : CSem) (E : z4) (C0 : CSem) (fL : Nat) (Q : AVal → zb → Prop) (Y1 : List AVal → zb → Prop) (v0 v2 v3 v4 v10 : AVal) (h : zb) : Prop :=
 B.pv (V.bin .mul (.int .i64 2) v10) fun v14 =>
  B.pv (V.bin .add v14 (.int .i64 1)) fun v15 =>
  B.pv (V.bin .geq v15 v2) fun v18 =>
  B.cond v18
  (Q (.tup []) h)
  (zcw.k2 C E C0 fL Q Y1 v0 v2 v3 v4 v10 v15 h)
@[simp] def zcw.l4 (C : CSem) (E : z4) (C0 : CSem) (fL : Nat) (Q : AVal → zb → Prop) (v0 v2 v3 v4 : AVal) : List AVal → zb → (List AVal → zb → Prop) → Prop
 | [v10], h, Y1 => zcw.k3 C E C0 fL Q Y1 v0 v2 v3 v4 v10 h
 | _, _, _ => False
@[simp] def zcw.cps (C : CSem) (E : z4) (C0 : CSem) (fL : Nat) (v0 v1 v2 v3 v4 : AVal) (h : zb) (Q : AVal → zb → Prop) : Prop :=
 zd (zcw.l4 C E C0 fL Q v0 v2 v3 v4) [v1] h
@[simp] def zd9.k1 (C : CSem) (E : z4) (C0 : CSem) (fL : Nat) (f1 : Nat) (Q : AVal → zb → Prop) (v0 v1 v2 v3 : AVal) (h : zb) : Prop :=
 B.pv (V.bin .sub v1 (.int .i64 1)) fun v11 =>
  B.pv (V.bin .add v1 (.int .i64 1)) fun v14 =>
  B.call C f1 [v0, v11, v1, v14, v2, v3] h fun v17 h =>
  Q v17 h
@[simp] def zd9.cps (C : CSem) (E : z4) (C0 : CSem) (fL : Nat) (f1 : Nat) (v0 v1 v2 v3 : AVal) (h : zb) (Q : AVal → zb → Prop) : Prop :=
 zd9.k1 C E C0 fL f1 Q v0 v1 v2 v3 h
@[simp] def zfl.k1 (C : CSem) (E : z4) (C0 : CSem) (fL : Nat) (f1 : Nat) (Q : AVal → zb → Prop) (v0 v1 v2 v3 v4 v5 : AVal) (h : zb) : Prop :=
 B.call C f1 [v0, v1, v2, v4, v5] h fun v19 h =>
  B.pv (V.ext 0 v19) fun v20 =>
  B.pv (V.ext 1 v19) fun v21 =>
  B.call C f1 [v0, v21, v3, v4, v5] h fun v28 h =>
  B.pv (V.ext 0 v28) fun v29 =>
  B.pv (V.ext 1 v28) fun v30 =>
  B.call C f1 [v0, v20, v29, v4, v5] h fun v37 h =>
  B.pv (V.ext 0 v37) fun v38 =>
  B.pv (V.ext 1 v37) fun v39 =>
  Q v39 h
@[simp] def zfl.cps (C : CSem) (E : z4) (C0 : CSem) (fL : Nat) (f1 : Nat) (v0 v1 v2 v3 v4 v5 : AVal) (h : zb) (Q : AVal → zb → Prop) : Prop :=
 zfl.k1 C E C0 fL f1 Q v0 v1 v2 v3 v4 v5 h
@[simp] def zfk.k1 (C : CSem) (E : z4) (C0 : CSem) (fL : Nat) (Q : AVal → zb → Prop) (v0 v1 v2 v3 v4 : AVal) (h : zb) : Prop :=
 B.pv (V.idxS E.es v0 v2) fun v15 =>
  E.ld h v15 fun v16 =>
  B.pv (V.idxS E.es v0 v1) fun v19 =>
  E.ld h v19 fun v20 =>
  B.call C0 fL [v16, v20] h fun v22 h =>
  B.cond v22
  (B.nilCheck v3 fun v24 =>
  B.ld h v24 fun v25 =>
  B.pv (V.bin .add v25 (.int .i64 1)) fun v26 =>
  B.nilCheck v3 fun v27 =>
  B.st h v27 v26 fun h =>
  Q (.tup [v2, v1]) h)
  (Q (.tup [v1, v2]) h)
@[simp] def zfk.cps (C : CSem) (E : z4) (C0 : CSem) (fL : Nat) (v0 v1 v2 v3 v4 : AVal) (h : zb) (Q : AVal → zb → Prop) : Prop :=
 zfk.k1 C E C0 fL Q v0 v1 v2 v3 v4 h
end Go.Ab
namespace Go.Ab
variable {C : CSem}
structure PInv {X : Type} (c : X → X → Int) (a b : Nat) (G : List X) (i j : Nat) : Prop where
 hb : b ≤ G.length
 hi : a < i
 hj : j < b
 hij : i ≤ j + 1
 lo : ∀ k (h : k < G.length) (ha : a < G.length), a < k → k < i → c G[k] G[a] < 0
 hi2 : ∀ k (h : k < G.length) (ha : a < G.length), j < k → k < b → ¬ c G[k] G[a] < 0
structure zi8 {X : Type} (c : X → X → Int) (a b m : Nat) (G : List X) : Prop where
 ge : a ≤ m
 lt : m < b
 hb : b ≤ G.length
 lo : ∀ k (h : k < G.length) (hm : m < G.length), a ≤ k → k < m → c G[k] G[m] < 0
 hi : ∀ k (h : k < G.length) (hm : m < G.length), m < k → k < b → ¬ c G[k] G[m] < 0
section
variable {E : z4} {X : Type} {cs : X → List AVal} {v : X → AVal} {h0 h : zb} {x f : AVal} {G : List X} {R : List (List AVal)} {c : X → X → Int} {Q : AVal → zb → Prop} {Y1 : List AVal → zb → Prop} {a b i j : Nat}
theorem zgg {X : Type} {G : List X} {i j : Nat} (hi : i < G.length) (hj : j < G.length) {k : Nat} (hk : k < (swp G i j hi hj).length) (hk' : k < G.length) : (swp G i j hi hj)[k] = if k = j then G[i] else if k = i then G[j] else G[k] := by
 have := swp_get hi hj k
 rw [List.getElem?_eq_getElem hk] at this
 split at this
 ·rename_i e; rw [if_pos e]; exact Option.some.inj this
 ·rename_i e; rw [if_neg e]
  split at this
  ·rename_i e2; rw [if_pos e2]; exact Option.some.inj this
  ·rename_i e2; rw [if_neg e2, List.getElem?_eq_getElem hk'] at *; exact Option.some.inj this
theorem zi9 {X : Type} {G : List X} {i j : Nat} (hi : i < G.length) (hj : j < G.length) : (swp G i j hi hj).length = G.length := by simp [swp]
theorem PInv.done (p : PInv c a b G i j) (hab : a < b) (hc : j < i) (hj : j < G.length) (ha : a < G.length) : zi8 c a b j (swp G j a hj ha) := by
 have h1 := p.hi; have h2 := p.hij; have h3 := p.hj; have h4 := p.hb
 have hl := zi9 hj ha
 have pj : ∀ (hm : j < (swp G j a hj ha).length), (swp G j a hj ha)[j] = G[a] := fun hm => by
  rw [zgg hj ha hm hj]
  by_cases e : j = a
  ·subst e; simp
  ·rw [if_neg e, if_pos rfl]
 refine ⟨by omega, h3, by omega, fun k hk hm k1 k2 => ?_, fun k hk hm k1 k2 => ?_⟩
 ·rw [pj, zgg hj ha hk (by omega)]
  by_cases e : k = a
  ·rw [if_pos e]; exact p.lo j hj ha (by omega) (by omega)
  ·rw [if_neg e, if_neg (by omega)]; exact p.lo k (by omega) ha (by omega) (by omega)
 ·rw [pj, zgg hj ha hk (by omega), if_neg (by omega), if_neg (by omega)]
  exact p.hi2 k (by omega) ha k1 k2
theorem PInv.swap (p : PInv c a b G i j) (hc : i ≤ j) (hi : i < G.length) (hj : j < G.length) (ha : a < G.length) (h1 : ¬ c G[i] G[a] < 0) (h2 : c G[j] G[a] < 0) : PInv c a b (swp G i j hi hj) (i + 1) (j - 1) := by
 have k1 := p.hi; have k2 := p.hij; have k3 := p.hj; have k4 := p.hb
 have hne : i ≠ j := fun e => by subst e; exact h1 h2
 have hl := zi9 hi hj
 have pa : ∀ (hm : a < (swp G i j hi hj).length), (swp G i j hi hj)[a] = G[a] := fun hm => by rw [zgg hi hj hm ha, if_neg (by omega), if_neg (by omega)]
 refine ⟨by omega, by omega, by omega, by omega, fun k hk hm q1 q2 => ?_, fun k hk hm q1 q2 => ?_⟩
 ·rw [pa, zgg hi hj hk (by omega), if_neg (by omega)]
  by_cases e : k = i
  ·rw [if_pos e]; exact h2
  ·rw [if_neg e]; exact p.lo k (by omega) ha q1 (by omega)
 ·rw [pa, zgg hi hj hk (by omega)]
  by_cases e : k = j
  ·rw [if_pos e]; exact h1
  ·rw [if_neg e, if_neg (by omega)]; exact p.hi2 k (by omega) ha (by omega) q2
end
end Go.Ab
namespace Go.Ab
variable {C : CSem}
section
variable {E : z4} {X : Type} {cs : X → List AVal} {v : X → AVal} {h0 h : zb} {x f : AVal} {G : List X} {R : List (List AVal)} {c : X → X → Int} {Q : AVal → zb → Prop} {a b i j : Nat}
abbrev PartQ (E : z4) {X : Type} (cs : X → List AVal) (h0 : zb) (x : AVal) (c : X → X → Int) (a b : Nat) (R : List (List AVal)) (G : List X) (Q : AVal → zb → Prop) : Prop := ∀ h' m G' t, zi8 c a b m G' → zc9 a b G G' → Rw E cs h0 h' x G' R → Q (.tup [.int .i64 (m : Int), .bool t]) h'
end
end Go.Ab
namespace Go.Ab
variable {C : CSem}
structure EInv {X : Type} (c : X → X → Int) (a b : Nat) (G : List X) (i j : Nat) : Prop where
 hb : b ≤ G.length
 hi : a < i
 hj : j < b
 hij : i ≤ j + 1
 lo : ∀ k (h : k < G.length) (ha : a < G.length), a < k → k < i → ¬ c G[a] G[k] < 0
 hi2 : ∀ k (h : k < G.length) (ha : a < G.length), j < k → k < b → c G[a] G[k] < 0
theorem EInv.swap {X : Type} {c : X → X → Int} {a b i j : Nat} {G : List X} (p : EInv c a b G i j) (hc : i ≤ j) (hi : i < G.length) (hj : j < G.length) (ha : a < G.length) (h1 : c G[a] G[i] < 0) (h2 : ¬ c G[a] G[j] < 0) : EInv c a b (swp G i j hi hj) (i + 1) (j - 1) := by
 have k1 := p.hi; have k2 := p.hij; have k3 := p.hj; have k4 := p.hb
 have hne : i ≠ j := fun e => by subst e; exact h2 h1
 have hl := zi9 hi hj
 have pa : ∀ (hm : a < (swp G i j hi hj).length), (swp G i j hi hj)[a] = G[a] := fun hm => by rw [zgg hi hj hm ha, if_neg (by omega), if_neg (by omega)]
 refine ⟨by omega, by omega, by omega, by omega, fun k hk hm q1 q2 => ?_, fun k hk hm q1 q2 => ?_⟩
 ·rw [pa, zgg hi hj hk (by omega), if_neg (by omega)]
  by_cases e : k = i
  ·rw [if_pos e]; exact h2
  ·rw [if_neg e]; exact p.lo k (by omega) ha q1 (by omega)
 ·rw [pa, zgg hi hj hk (by omega)]
  by_cases e : k = j
  ·rw [if_pos e]; exact h1
  ·rw [if_neg e, if_neg (by omega)]; exact p.hi2 k (by omega) ha (by omega) q2
section
variable {E : z4} {X : Type} {cs : X → List AVal} {v : X → AVal} {h0 h : zb} {x f : AVal} {G : List X} {R : List (List AVal)} {c : X → X → Int} {Q : AVal → zb → Prop} {Y1 : List AVal → zb → Prop} {a b i j : Nat}
end
end Go.Ab
namespace Go.Ab
structure SInv {X : Type} (c : X → X → Int) (a n lo r : Nat) (G : List X) : Prop where
 len : a + n ≤ G.length
 heap : ∀ k, 0 < k → (hk : k < n) → lo ≤ (k - 1) / 2 → (k - 1) / 2 ≠ r → (h1 : a + (k - 1) / 2 < G.length) → (h2 : a + k < G.length) → ¬ c G[a + (k - 1) / 2] G[a + k] < 0
 grand : lo ≤ (r - 1) / 2 → 0 < r → ∀ k, 0 < k → (hk : k < n) → (k - 1) / 2 = r → (h1 : a + (r - 1) / 2 < G.length) → (h2 : a + k < G.length) → ¬ c G[a + (r - 1) / 2] G[a + k] < 0
def Heap {X : Type} (c : X → X → Int) (a n lo : Nat) (G : List X) : Prop := ∀ k, 0 < k → (hk : k < n) → lo ≤ (k - 1) / 2 → (h1 : a + (k - 1) / 2 < G.length) → (h2 : a + k < G.length) → ¬ c G[a + (k - 1) / 2] G[a + k] < 0
section
variable {X : Type} {c : X → X → Int} {a n lo r ch : Nat} {G : List X}
theorem SInv.done (p : SInv c a n lo r G) (hr : ∀ k, 0 < k → k < n → (k - 1) / 2 = r → (h1 : a + r < G.length) → (h2 : a + k < G.length) → ¬ c G[a + r] G[a + k] < 0) : Heap c a n lo G := fun k h0 hk hl h1 h2 => by
 by_cases e : (k - 1) / 2 = r
 ·have := hr k h0 hk e (by rw [← e]; exact h1) h2
  simp only [e]; exact this
 ·exact p.heap k h0 hk hl e h1 h2
theorem SInv.step (W : Weak (zeu c)) (p : SInv c a n lo r G) (hlo : lo ≤ r) (hch : ch < n) (hp : (ch - 1) / 2 = r) (h0 : 0 < ch) (hr : a + r < G.length) (hc : a + ch < G.length) (hlt : c G[a + r] G[a + ch] < 0)
  (hmax : ∀ k, 0 < k → k < n → (k - 1) / 2 = r → (h2 : a + k < G.length) → ¬ c G[a + ch] G[a + k] < 0) : SInv c a n lo ch (swp G (a + r) (a + ch) hr hc) := by
 have hl := zi9 hr hc
 have hrc : r < ch := by omega
 have asym : ¬ c G[a + ch] G[a + r] < 0 := by
  have := W.asym (a := G[a + r]) (b := G[a + ch]) (by unfold zeu; exact decide_eq_true hlt)
  unfold zeu at this; exact of_decide_eq_false this
 refine ⟨by rw [hl]; exact p.len, fun k k0 hk hlk hne h1 h2 => ?_, fun _ _ k k0 hk hkp h1 h2 => ?_⟩
 ·have g1 : a + (k - 1) / 2 < G.length := by omega
  have g2 : a + k < G.length := by omega
  rw [zgg hr hc h1 g1, zgg hr hc h2 g2, if_neg (by omega : ¬ a + (k - 1) / 2 = a + ch)]
  by_cases e1 : (k - 1) / 2 = r
  ·rw [if_pos (by omega)]
   by_cases e2 : k = ch
   ·rw [if_pos (by omega)]; exact asym
   ·rw [if_neg (by omega), if_neg (by omega)]; exact hmax k k0 hk e1 g2
  ·rw [if_neg (by omega)]
   by_cases e2 : k = r
   ·rw [if_neg (by omega), if_pos (by omega)]
    subst e2
    exact p.grand hlk k0 ch h0 hch hp g1 hc
   ·rw [if_neg (by omega), if_neg (by omega)]; exact p.heap k k0 hk hlk e1 g1 g2
 ·have g1 : a + (ch - 1) / 2 < G.length := by omega
  have g2 : a + k < G.length := by omega
  rw [zgg hr hc h1 g1, zgg hr hc h2 g2, if_neg (by omega), if_pos (by omega), if_neg (by omega), if_neg (by omega)]
  have := p.heap k k0 hk (by omega) (by omega) (by omega) g2
  simp only [hkp] at this
  exact this
end
end Go.Ab
namespace Go.Ab
section
variable {X : Type} {c : X → X → Int} {a b n lo : Nat} {G G' : List X}
theorem Heap.sinv {X : Type} {c : X → X → Int} {a n lo : Nat} {G : List X} (p : Heap c a n (lo + 1) G) (hl : a + n ≤ G.length) : SInv c a n lo lo G :=
 ⟨hl, fun k k0 hk h1 hne h2 h3 => p k k0 hk (by omega) h2 h3, fun h1 h0 => by omega⟩
theorem Heap.none_ {X : Type} {c : X → X → Int} {a n lo : Nat} {G : List X} (h : n ≤ 2 * lo + 1) : Heap c a n lo G := fun k k0 hk h1 _ _ => by omega
theorem Heap.root (W : Weak (zeu c)) (p : Heap c a n 0 G) (hl : a + n ≤ G.length) : ∀ (k : Nat) (hk : k < n), ¬ c (G[a]'(by omega)) (G[a + k]'(by omega)) < 0 := by
 intro k
 induction k using Nat.strongRecOn with
 | ind k ih =>
  intro hk
  by_cases e : k = 0
  ·subst e
   have := W.irr (G[a]'(by omega)); unfold zeu at this; simpa using this
  ·have h1 := ih ((k - 1) / 2) (by omega) (by omega)
   have h2 := p k (by omega) hk (by omega) (by omega) (by omega)
   have := W.zox (a := G[a]'(by omega)) (b := G[a + (k - 1) / 2]'(by omega)) (c := G[a + k]'(by omega)) (by unfold zeu; exact decide_eq_false h1) (by unfold zeu; exact decide_eq_false h2)
   unfold zeu at this; exact of_decide_eq_false this
theorem zc9.take (w : zc9 a b G G') : G'.take a = G.take a := List.ext_getElem? fun i => by
 rw [List.getElem?_take, List.getElem?_take]
 split
 ·rename_i h; exact w.out i (.inl h)
 ·rfl
theorem zc9.drop (w : zc9 a b G G') : G'.drop b = G.drop b := List.ext_getElem? fun i => by
 rw [List.getElem?_drop, List.getElem?_drop]; exact w.out (b + i) (.inr (by omega))
theorem split3 (hab : a ≤ b) (G : List X) : G = G.take a ++ ((G.take b).drop a ++ G.drop b) := by
 have h1 : G.take a = (G.take b).take a := by rw [List.take_take, Nat.min_eq_left hab]
 rw [h1, ← List.append_assoc, List.take_append_drop, List.take_append_drop]
theorem zc9.mid (w : zc9 a b G G') (hab : a ≤ b) : ((G'.take b).drop a).Perm ((G.take b).drop a) := by
 have h := w.perm
 rw [split3 hab G, split3 hab G', w.take, w.drop] at h
 exact (List.perm_append_right_iff _).1 ((List.perm_append_left_iff _).1 h)
theorem zc9.mem (w : zc9 a b G G') {k : Nat} (h1 : a ≤ k) (h2 : k < b) (hk : k < G'.length) : ∃ k', a ≤ k' ∧ k' < b ∧ ∃ h' : k' < G.length, G'[k] = G[k'] := by
 have hm : G'[k] ∈ (G'.take b).drop a := by
  rw [List.mem_iff_getElem?]
  refine ⟨k - a, ?_⟩
  rw [List.getElem?_drop, List.getElem?_take, if_pos (by omega), Nat.add_sub_cancel' h1, List.getElem?_eq_getElem hk]
 have := (w.mid (by omega)).mem_iff.1 hm
 rw [List.mem_iff_getElem?] at this
 obtain ⟨i, hi⟩ := this
 rw [List.getElem?_drop, List.getElem?_take] at hi
 split at hi
 ·rename_i hlt
  obtain ⟨hb, e⟩ := List.getElem?_eq_some_iff.1 hi
  exact ⟨a + i, by omega, hlt, hb, e.symm⟩
 ·cases hi
def Cut {X : Type} (c : X → X → Int) (A B a b : Nat) (G : List X) : Prop := ∀ p q, A ≤ p → p < q → q < B → p < a ∨ b ≤ q → ∀ (h1 : p < G.length) (h2 : q < G.length), ¬ c G[q] G[p] < 0
def Srt {X : Type} (c : X → X → Int) (A B : Nat) (G : List X) : Prop := ∀ p q, A ≤ p → p < q → q < B → ∀ (h1 : p < G.length) (h2 : q < G.length), ¬ c G[q] G[p] < 0
theorem Cut.within {A B : Nat} (x : Cut c A B a b G) (w : zc9 a b G G') (ha : A ≤ a) (hb : b ≤ B) : Cut c A B a b G' := fun p q hp hpq hq h h1 h2 => by
 have hl := w.len
 rcases h with h | h
 ·rw [w.same (.inl h) h1 (by omega)]
  by_cases hq2 : a ≤ q ∧ q < b
  ·obtain ⟨q', h3, h4, h5, e⟩ := w.mem hq2.1 hq2.2 h2
   rw [e]; exact x p q' hp (by omega) (by omega) (.inl h) (by omega) h5
  ·rw [w.same (by omega) h2 (by omega)]; exact x p q hp hpq hq (.inl h) _ _
 ·rw [w.same (k := q) (.inr h) h2 (by omega)]
  by_cases hp2 : a ≤ p ∧ p < b
  ·obtain ⟨p', h3, h4, h5, e⟩ := w.mem hp2.1 hp2.2 h1
   rw [e]; exact x p' q (by omega) (by omega) hq (.inr h) h5 (by omega)
  ·rw [w.same (k := p) (by omega) h1 (by omega)]; exact x p q hp hpq hq (.inr h) _ _
theorem Cut.join {A B : Nat} (x : Cut c A B a b G) (s : Srt c a b G) : Srt c A B G := fun p q hp hpq hq h1 h2 => by
 by_cases h : p < a ∨ b ≤ q
 ·exact x p q hp hpq hq h h1 h2
 ·exact s p q (by omega) hpq (by omega) h1 h2
theorem Cut.small {A B : Nat} (x : Cut c A B a b G) (s : b ≤ a + 1) : Srt c A B G := x.join fun p q _ _ _ _ _ => by omega
theorem within_mid {M : List X} (hab : a ≤ b) (hb : b ≤ G.length) (hp : M.Perm ((G.take b).drop a)) : zc9 a b G (G.take a ++ (M ++ G.drop b)) := by
 have hl := hp.length_eq
 simp only [List.length_drop, List.length_take] at hl
 refine ⟨?_, fun i hi => ?_⟩
 ·have := (hp.append_right (G.drop b)).append_left (G.take a)
  rw [← split3 hab G] at this; exact this
 ·rcases hi with hi | hi
  ·rw [List.getElem?_append_left (by rw [List.length_take]; omega), List.getElem?_take, if_pos hi]
  ·rw [List.getElem?_append_right (by rw [List.length_take]; omega), List.getElem?_append_right (by rw [List.length_take]; omega), List.getElem?_drop, List.length_take]
   congr 1; omega
theorem srt_mid {M : List X} (hab : a ≤ b) (hb : b ≤ G.length) (hl : M.length = b - a) (hp : M.Pairwise fun x y => ¬ c y x < 0) : Srt c a b (G.take a ++ (M ++ G.drop b)) := fun p q hp1 hpq hq h1 h2 => by
 have e : ∀ k (h1 : a ≤ k) (h2 : k < b) (hk : k < (G.take a ++ (M ++ G.drop b)).length), (G.take a ++ (M ++ G.drop b))[k] = M[k - a]'(by omega) := fun k h1 h2 hk => by
  rw [List.getElem_append_right (by rw [List.length_take]; omega), List.getElem_append_left (by rw [List.length_take]; omega)]
  congr 1; rw [List.length_take]; omega
 rw [e p hp1 (by omega), e q (by omega) hq]
 exact List.pairwise_iff_getElem.1 hp _ _ _ _ (by omega)
end
variable {C : CSem}
section
variable {E : z4} {X : Type} {cs : X → List AVal} {v : X → AVal} {h0 h : zb} {x f : AVal} {G : List X} {R : List (List AVal)} {c : X → X → Int} {Q : AVal → zb → Prop} {a b : Nat}
end
end Go.Ab
namespace Go.Ab
variable {C : CSem}
def Pre {X : Type} (c : X → X → Int) (a b : Nat) (G : List X) : Prop := 0 < a → ∀ i, a ≤ i → i < b → ∀ (h1 : i < G.length) (h2 : a - 1 < G.length), ¬ c G[i] G[a - 1] < 0
theorem Pre.within {X : Type} {c : X → X → Int} {a b : Nat} {G G' : List X} (p : Pre c a b G) (w : zc9 a b G G') : Pre c a b G' := fun h0 i h1 h2 h3 h4 => by
 have hl := w.len
 obtain ⟨k, k1, k2, k3, e⟩ := w.mem h1 h2 h3
 rw [e, w.same (k := a - 1) (.inl (by omega)) h4 (by omega)]
 exact p h0 k k1 k2 _ _
def But1 {X : Type} (c : X → X → Int) (A B j : Nat) (G : List X) : Prop := ∀ p q, A ≤ p → p < q → q < B → q ≠ j → ∀ (h1 : p < G.length) (h2 : q < G.length), ¬ c G[q] G[p] < 0
section
variable {X : Type} {c : X → X → Int} {A B j : Nat} {G : List X}
theorem But1.done (W : Weak (zeu c)) (x : But1 c A B j G) (hj : j < G.length) (h : j ≤ A ∨ ∀ (h1 : j - 1 < G.length), ¬ c G[j] G[j - 1] < 0) : Srt c A B G := fun p q h1 h2 h3 h4 h5 => by
 by_cases e : q = j
 ·subst e
  have h := h.resolve_left (by omega)
  by_cases e2 : p = q - 1
  ·subst e2; exact h _
  ·have k1 := x p (q - 1) h1 (by omega) (by omega) (by omega) h4 (by omega)
   have := W.zox (a := G[q]) (b := G[q - 1]'(by omega)) (c := G[p]) (by unfold zeu; exact decide_eq_false (h _)) (by unfold zeu; exact decide_eq_false k1)
   unfold zeu at this; exact of_decide_eq_false this
 ·exact x p q h1 h2 h3 e h4 h5
theorem But1.step (W : Weak (zeu c)) (x : But1 c A B j G) (hA : A < j) (hj : j < G.length) (hj1 : j - 1 < G.length) (hlt : c G[j] G[j - 1] < 0) : But1 c A B (j - 1) (swp G j (j - 1) hj hj1) := fun p q h1 h2 h3 h4 h5 h6 => by
 have hl := zi9 hj hj1
 rw [zgg hj hj1 h6 (by omega), if_neg h4, zgg hj hj1 h5 (by omega)]
 by_cases e : q = j
 ·rw [if_pos e]
  split
  ·have := W.asym (a := G[j]) (b := G[j - 1]) (by unfold zeu; exact decide_eq_true hlt)
   unfold zeu at this; exact of_decide_eq_false this
  ·rw [if_neg (by omega)]; exact x p (j - 1) h1 (by omega) (by omega) (by omega) (by omega) hj1
 ·rw [if_neg e]
  split
  ·exact x j q (by omega) (by omega) h3 e hj (by omega)
  ·split
   ·exact x (j - 1) q (by omega) (by omega) h3 e hj1 (by omega)
   ·exact x p q h1 h2 h3 e (by omega) (by omega)
end
section
variable {E : z4} {X : Type} {cs : X → List AVal} {v : X → AVal} {h0 h : zb} {x f : AVal} {G : List X} {R : List (List AVal)} {c : X → X → Int} {Q : AVal → zb → Prop} {Y1 : List AVal → zb → Prop} {a b i s : Nat}
end
end Go.Ab
namespace Go.Ab
variable {C : CSem} {N : Nat → Nat}
def be (n : Int) : Nat → List UInt8
 | 0 => []
 | k + 1 => byt (n.fdiv (2 ^ (8 * k))) :: be n k
@[simp] theorem be_len (n : Int) : ∀ k, (be n k).length = k
 | 0 => rfl
 | k + 1 => by simp [be, be_len n k]
end Go.Ab
namespace Go.Ab
variable {C : CSem} {N : Nat → Nat}
theorem bin_shl {k j : IntKind} {a b : Int} (h0 : 0 ≤ b) (h1 : b < k.bits) : V.bin .shl (.int k a) (.int j b) = some (.int k (k.wrap (a * 2 ^ b.toNat))) := by
 simp only [V.bin, V.shift]
 rw [if_neg (by omega), Nat.min_eq_left (by omega)]
end Go.Ab
namespace Go.Ab
variable {C : CSem} {N : Nat → Nat}
theorem V.bin_xor (k : IntKind) (a b : Int) : V.bin .xor (.int k a) (.int k b) = some (.int k (k.wrap (BitVec.ofInt k.bits a ^^^ BitVec.ofInt k.bits b).toNat)) := by simp [V.bin, V.arith]
theorem V.bin_and (k : IntKind) (a b : Int) : V.bin .and (.int k a) (.int k b) = some (.int k (k.wrap (BitVec.ofInt k.bits a &&& BitVec.ofInt k.bits b).toNat)) := by simp [V.bin, V.arith]
theorem wrapU {n : Nat} (h : n < 18446744073709551616) : IntKind.u64.wrap (n : Int) = n := by rw [wrap_u64]; omega
theorem toUN {n : Nat} (h : n < 18446744073709551616) : V.toInt .u64 (.int .i64 (n : Int)) = some (.int .u64 (n : Int)) := by rw [V.toInt_int, wrapU h]
theorem toIN {k : IntKind} {n : Nat} (h : n < 4611686018427387904) : V.toInt .i64 (.int k (n : Int)) = some (.int .i64 (n : Int)) := by rw [V.toInt_int, wrap_i64 (by omega) (by omega)]
theorem and_le {z : Int} {m : Nat} (h : m < 4611686018427387904) : ∃ o : Nat, o ≤ m ∧ V.bin .and (.int .u64 z) (.int .u64 (m : Int)) = some (.int .u64 (o : Int)) := by
 refine ⟨(BitVec.ofInt 64 z &&& BitVec.ofInt 64 (m : Int)).toNat, ?_, ?_⟩
 ·rw [BitVec.toNat_and]
  refine Nat.le_trans Nat.and_le_right ?_
  rw [BitVec.toNat_ofInt]; omega
 ·rw [V.bin_and]
  show some (AVal.int .u64 (IntKind.u64.wrap ((BitVec.ofInt 64 z &&& BitVec.ofInt 64 (m : Int)).toNat : Int))) = _
  rw [wrapU (BitVec.isLt _)]
def lenT : List UInt8 := [0, 1, 2, 2, 3, 3, 3, 3, 4, 4, 4, 4, 4, 4, 4, 4, 5, 5, 5, 5, 5, 5, 5, 5, 5, 5, 5, 5, 5, 5, 5, 5, 6, 6, 6, 6, 6, 6, 6, 6, 6, 6, 6, 6, 6, 6, 6, 6, 6, 6, 6, 6, 6, 6, 6, 6, 6, 6, 6, 6, 6, 6, 6, 6, 7, 7, 7, 7, 7, 7, 7, 7, 7, 7, 7, 7, 7, 7, 7, 7, 7, 7, 7, 7, 7, 7, 7, 7, 7, 7, 7, 7, 7, 7, 7, 7, 7, 7, 7, 7, 7, 7, 7, 7, 7, 7, 7, 7, 7, 7, 7, 7, 7, 7, 7, 7, 7, 7, 7, 7, 7, 7, 7, 7, 7, 7, 7, 7, 8, 8, 8, 8, 8, 8, 8, 8, 8, 8, 8, 8, 8, 8, 8, 8, 8, 8, 8, 8, 8, 8, 8, 8, 8, 8, 8, 8, 8, 8, 8, 8, 8, 8, 8, 8, 8, 8, 8, 8, 8, 8, 8, 8, 8, 8, 8, 8, 8, 8, 8, 8, 8, 8, 8, 8, 8, 8, 8, 8, 8, 8, 8, 8, 8, 8, 8, 8, 8, 8, 8, 8, 8, 8, 8, 8, 8, 8, 8, 8, 8, 8, 8, 8, 8, 8, 8, 8, 8, 8, 8, 8, 8, 8, 8, 8, 8, 8, 8, 8, 8, 8, 8, 8, 8, 8, 8, 8, 8, 8, 8, 8, 8, 8, 8, 8, 8, 8, 8, 8, 8, 8, 8, 8, 8, 8, 8, 8]
theorem idxStr_u8 {s : List UInt8} {k : Nat} {b : UInt8} (hb : s[k]? = some b) : V.zh4 (.str s) (.int .u8 (k : Int)) = some (.int .u8 b.toNat) := by
 simp [V.zh4, hb]
theorem lenT_all : ∀ k : Fin 256, ∃ b : Fin 9, lenT[k.val]? = some (UInt8.ofNat b.val) ∧ (0 < k.val → 2 ^ b.val ≤ 2 * k.val) := by decide +kernel
theorem lenTab {k : Nat} (h : k < 256) : ∃ b : Nat, V.zh4 (.str lenT) (.int .u8 (k : Int)) = some (.int .u8 (b : Int)) ∧ b ≤ 8 ∧ (0 < k → 2 ^ b ≤ 2 * k) := by
 obtain ⟨b, e, hb⟩ := lenT_all ⟨k, h⟩
 have hb9 := b.isLt
 refine ⟨b.val, ?_, by omega, hb⟩
 rw [idxStr_u8 e]
 congr 2
 rw [UInt8.toNat_ofNat', Nat.mod_eq_of_lt (by omega)]
theorem Len64_k1 {Q : AVal → zb → Prop} {v0 v2 : AVal} {h : zb} : zbq.k1 C N Q v0 v2 h = (B.pv (V.toInt .u8 v0) fun v21 =>
  B.pv (V.zh4 (.str lenT) v21) fun v22 =>
  B.pv (V.toInt .i64 v22) fun v23 =>
  B.pv (V.bin .add v2 v23) fun v24 =>
  Q v24 h) := rfl
theorem Len64_spec {x : Nat} (hx : x ≤ 100000000) {h : zb} {Q : AVal → zb → Prop} (hq : ∀ r : Nat, r ≤ 32 → (0 < x → 2 ^ r ≤ 2 * x) → Q (.int .i64 (r : Int)) h) : zbq.cps C N (.int .u64 (x : Int)) h Q := by
 have fin : ∀ (y s : Nat), y < 256 → s ≤ 24 → (0 < x → 0 < y) → 2 ^ s * y ≤ x → zbq.k1 C N Q (.int .u64 (y : Int)) (.int .i64 (s : Int)) h := fun y s hy hs h0 hle => by
  obtain ⟨b, e, hb, hp⟩ := lenTab hy
  have e1 : V.toInt .u8 (.int .u64 (y : Int)) = some (.int .u8 (y : Int)) := by rw [V.toInt_int, wrap_u8]; congr 2; omega
  rw [Len64_k1]
  simp -dsimp only [e1, B.zg, e, toIN (show b < 4611686018427387904 by omega), zj7 (show s + b < 4611686018427387904 by omega)]
  refine hq (s + b) (by omega) fun hx0 => ?_
  have h1 := hp (h0 hx0)
  have h2 : 2 ^ s * 2 ^ b ≤ 2 ^ s * (2 * y) := Nat.mul_le_mul_left _ h1
  rw [Nat.pow_add]
  have h3 : 2 ^ s * (2 * y) = 2 * (2 ^ s * y) := by rw [Nat.mul_left_comm]
  omega
 have sh : ∀ (y j : Nat), j < 64 → V.bin .shr (.int .u64 (y : Int)) (.int .u64 (j : Int)) = some (.int .u64 ((y / 2 ^ j : Nat) : Int)) := fun y j hj => by
  rw [bin_shr (by omega) (by simp [IntKind.bits]; omega), Int.toNat_natCast]
  congr 2
  rw [Int.fdiv_eq_ediv_of_nonneg _ (by exact_mod_cast Nat.zero_le (2 ^ j))]
  simp
 have g3 : V.bin .geq (.int .u64 (x : Int)) (.int .u64 4294967296) = some (.bool false) := by rw [V.zkw]; simp; omega
 have gk : ∀ y m : Nat, V.bin .geq (.int .u64 (y : Int)) (.int .u64 (m : Int)) = some (.bool (decide (m ≤ y))) := fun y m => by rw [V.zkw]; congr 3; exact propext (by omega)
 have low : ∀ (y s : Nat), y < 65536 → s ≤ 16 → (0 < x → 0 < y) → 2 ^ s * y ≤ x → zbq.k2 C N Q (.int .u64 (y : Int)) (.int .i64 (s : Int)) h := fun y s hy hs h0 hle => by
  have g1 : V.bin .geq (.int .u64 (y : Int)) (.int .u64 256) = some (.bool (decide (256 ≤ y))) := gk y 256
  have s1 : V.bin .shr (.int .u64 (y : Int)) (.int .u64 8) = some (.int .u64 ((y / 2 ^ 8 : Nat) : Int)) := sh y 8 (by omega)
  have a1 : V.bin .add (.int .i64 (s : Int)) (.int .i64 8) = some (.int .i64 ((s + 8 : Nat) : Int)) := zj7 (a := s) (b := 8) (by omega)
  simp -dsimp only [zbq.k2, g1, B.zg]
  refine B.zm (fun hd => ?_) (fun hd => ?_)
  ·rw [decide_eq_true_eq] at hd
   simp -dsimp only [s1, a1, B.zg]
   refine fin (y / 2 ^ 8) (s + 8) (by omega) (by omega) (fun _ => by omega) ?_
   rw [Nat.pow_add, Nat.mul_assoc]
   refine Nat.le_trans (Nat.mul_le_mul_left _ ?_) hle
   omega
  ·rw [decide_eq_false_iff_not] at hd
   exact fin y s (by omega) (by omega) h0 hle
 have g2 : V.bin .geq (.int .u64 (x : Int)) (.int .u64 65536) = some (.bool (decide (65536 ≤ x))) := gk x 65536
 have s2 : V.bin .shr (.int .u64 (x : Int)) (.int .u64 16) = some (.int .u64 ((x / 2 ^ 16 : Nat) : Int)) := sh x 16 (by omega)
 simp -dsimp only [zbq.cps, zbq.k4, zbq.k3, g3, g2, s2, B.zg, B.cond_false]
 refine B.zm (fun hd => ?_) (fun hd => ?_)
 ·rw [decide_eq_true_eq] at hd
  simp -dsimp only [s2, show V.bin .add (.int .i64 0) (.int .i64 16) = some (.int .i64 ((16 : Nat) : Int)) from rfl, B.zg]
  exact low (x / 2 ^ 16) 16 (by omega) (by omega) (fun _ => by omega) (by omega)
 ·rw [decide_eq_false_iff_not] at hd
  exact low x 0 (by omega) (by omega) id (by simp)
theorem Len_spec (i : zbq.Imp C N) {x : Nat} (hx : x ≤ 100000000) {h : zb} {Q : AVal → zb → Prop} (hq : ∀ r : Nat, r ≤ 32 → (0 < x → 2 ^ r ≤ 2 * x) → Q (.int .i64 (r : Int)) h) : zdr.cps C N (.int .u64 (x : Int)) h Q := by
 simp -dsimp only [zdr.cps, zdr.k1, B.cond_false]
 exact i _ _ _ (Len64_spec hx fun r h1 h2 => zbi (hq r h1 h2))
def LenI (C : CSem) (f : Nat) : Prop := ∀ (x : Nat) (h : zb) (Q : AVal → zb → Prop), x ≤ 100000000 → (∀ r : Nat, r ≤ 32 → (0 < x → 2 ^ r ≤ 2 * x) → Q (.int .i64 (r : Int)) h) → C f [.int .u64 (x : Int)] h Q
theorem zdr.spec (i : zdr.Imp C N) (i2 : zbq.Imp C N) : LenI C (N 287) := fun x h Q hx hq => i _ _ _ (Len_spec i2 hx fun r h1 h2 => zbi (hq r h1 h2))
def PowI (C : CSem) (f : Nat) : Prop := ∀ (n : Nat) (h : zb) (Q : AVal → zb → Prop), 0 < n → n ≤ 100000000 → (∀ m : Nat, 0 < m → m ≤ 2 * n → Q (.int .u64 (m : Int)) h) → C f [.int .i64 (n : Int)] h Q
theorem zct.spec (i : zct.Imp C N) (hl : LenI C (N 287)) : PowI C (N 299) := fun n h Q h0 hn hq => by
 apply i
 simp -dsimp only [zct.cps, toUN (show n < 18446744073709551616 by omega), B.zg]
 refine hl n h _ hn fun r hr hp => ?_
 have e : V.bin .shl (.int .u64 1) (.int .i64 (r : Int)) = some (.int .u64 ((2 ^ r : Nat) : Int)) := by
  rw [bin_shl (by omega) (by simp [IntKind.bits]; omega), Int.toNat_natCast]
  have : (1 : Int) * 2 ^ r = ((2 ^ r : Nat) : Int) := by simp
  rw [this, wrapU]
  have := hp h0
  omega
 simp -dsimp only [e, B.zg]
 exact zbi (hq (2 ^ r) (Nat.pos_of_ne_zero (by simp)) (hp h0))
def NextI (C : CSem) (f : Nat) : Prop := ∀ (h0 h : zb) (p : AVal) (n : Int) (Q : AVal → zb → Prop), Owns h0 h [.box p [.int .u64 n]] → (∀ m m' h', Owns h0 h' [.box p [.int .u64 m']] → Q (.int .u64 m) h') → C f [p] h Q
theorem zcl.spec (i : zcl.Imp C N) : NextI C (N 298) := fun h0 h p n Q ho hq => by
 have key : ∀ {h : zb} {n : Int}, Owns h0 h [.box p [.int .u64 n]] → ∃ id, p = .ptr id 0 0 ∧ A.ldv h (.ptr id 0 0) = some (.int .u64 n) := fun {h n} ho => by
  obtain ⟨id, rfl, hb⟩ := ho.zri 0 rfl
  exact ⟨id, rfl, by rw [zjm hb]; rfl⟩
 apply i
 obtain ⟨id, rfl, ld⟩ := key ho
 simp -dsimp only [zcl.cps, zcl.k1, B.zhp, B.zg7, ld, B.zg, bin_shl (k := .u64) (j := .u64) (b := 13) (by omega) (by simp [IntKind.bits]), V.bin_xor]
 refine ho.boxSt 0 (off := 0) rfl rfl (by simp) fun h1 o1 _ => ?_
 simp only [List.set_cons_zero] at o1
 obtain ⟨id1, e, ld1⟩ := key o1
 cases e
 simp -dsimp only [B.zhp, B.zg7, ld1, B.zg, bin_shr (k := .u64) (j := .u64) (b := 7) (by omega) (by simp [IntKind.bits]), V.bin_xor]
 refine o1.boxSt 0 (off := 0) rfl rfl (by simp) fun h2 o2 _ => ?_
 simp only [List.set_cons_zero] at o2
 obtain ⟨id2, e, ld2⟩ := key o2
 cases e
 simp -dsimp only [B.zhp, B.zg7, ld2, B.zg, bin_shl (k := .u64) (j := .u64) (b := 17) (by omega) (by simp [IntKind.bits]), V.bin_xor]
 refine o2.boxSt 0 (off := 0) rfl rfl (by simp) fun h3 o3 _ => ?_
 simp only [List.set_cons_zero] at o3
 obtain ⟨id3, e, ld3⟩ := key o3
 cases e
 simp -dsimp only [B.zhp, B.zg7, ld3, B.zg]
 exact zbi (hq _ _ _ o3)
section
variable {E : z4} {X : Type} {cs : X → List AVal} {v : X → AVal} {h0 h : zb} {x f : AVal} {G : List X} {R : List (List AVal)} {Q : AVal → zb → Prop} {a b : Nat}
end
end Go.Ab
namespace Go.Ab
variable {C : CSem}
section
variable {X : Type} {c : X → X → Int} {a b m A0 Z0 : Nat} {G G' : List X}
theorem le_of (W : Weak (zeu c)) {x y z : X} (h1 : ¬ c x y < 0) (h2 : ¬ c y z < 0) : ¬ c x z < 0 := by
 have := W.zox (a := x) (b := y) (c := z) (by unfold zeu; exact decide_eq_false h1) (by unfold zeu; exact decide_eq_false h2)
 unfold zeu at this; exact of_decide_eq_false this
theorem nlt_of (W : Weak (zeu c)) {x y : X} (h : c x y < 0) : ¬ c y x < 0 := by
 have := W.asym (a := x) (b := y) (by unfold zeu; exact decide_eq_true h)
 unfold zeu at this; exact of_decide_eq_false this
theorem le_self (W : Weak (zeu c)) (x : X) : ¬ c x x < 0 := by
 have := W.irr x; unfold zeu at this; exact of_decide_eq_false this
theorem zi8.pair (W : Weak (zeu c)) (x : zi8 c a b m G) {p q : Nat} (h1 : a ≤ p) (h2 : p < q) (h3 : q < b) (h4 : p ≤ m) (h5 : m ≤ q) (hp : p < G.length) (hq : q < G.length) : ¬ c G[q] G[p] < 0 := by
 have hm : m < G.length := by omega
 have e1 : p < m → ¬ c G[m] G[p] < 0 := fun k => nlt_of W (x.lo p hp hm h1 k)
 have e2 : m < q → ¬ c G[q] G[m] < 0 := fun k => x.hi q hq hm k h3
 by_cases k1 : p = m
 ·subst k1; exact e2 (by omega)
 ·by_cases k2 : q = m
  ·subst k2; exact e1 (by omega)
  ·exact le_of W (e2 (by omega)) (e1 (by omega))
theorem zi8.left (W : Weak (zeu c)) (x : zi8 c a b m G) (w : zc9 a m G G') : zi8 c a b m G' := by
 have hl := w.len
 refine ⟨x.ge, x.lt, by have := x.hb; omega, fun k h hm h1 h2 => ?_, fun k h hm h1 h2 => ?_⟩
 ·obtain ⟨k', k1, k2, k3, e⟩ := w.mem h1 h2 h
  rw [e, w.same (k := m) (.inr (by omega)) hm (by omega)]
  exact x.lo k' k3 _ k1 k2
 ·rw [w.same (k := m) (.inr (by omega)) hm (by omega), w.same (k := k) (.inr (by omega)) h (by omega)]
  exact x.hi k _ _ h1 h2
theorem zi8.right (W : Weak (zeu c)) (x : zi8 c a b m G) (w : zc9 (m + 1) b G G') : zi8 c a b m G' := by
 have hl := w.len
 refine ⟨x.ge, x.lt, by have := x.hb; omega, fun k h hm h1 h2 => ?_, fun k h hm h1 h2 => ?_⟩
 ·rw [w.same (k := m) (.inl (by omega)) hm (by omega), w.same (k := k) (.inl (by omega)) h (by omega)]
  exact x.lo k _ _ h1 h2
 ·obtain ⟨k', k1, k2, k3, e⟩ := w.mem (k := k) (by omega) h2 h
  rw [e, w.same (k := m) (.inl (by omega)) hm (by omega)]
  exact x.hi k' k3 _ (by omega) k2
theorem Cut.left (W : Weak (zeu c)) (x : Cut c A0 Z0 a b G) (p : zi8 c a b m G) (s : Srt c a m G) : Cut c A0 Z0 (m + 1) b G := fun i j h1 h2 h3 h4 h5 h6 => by
 by_cases k : i < a ∨ b ≤ j
 ·exact x i j h1 h2 h3 k h5 h6
 ·by_cases k2 : j < m
  ·exact s i j (by omega) h2 k2 h5 h6
  ·exact p.pair W (by omega) h2 (by omega) (by omega) (by omega) h5 h6
theorem Cut.right (W : Weak (zeu c)) (x : Cut c A0 Z0 a b G) (p : zi8 c a b m G) (s : Srt c (m + 1) b G) : Cut c A0 Z0 a m G := fun i j h1 h2 h3 h4 h5 h6 => by
 by_cases k : i < a ∨ b ≤ j
 ·exact x i j h1 h2 h3 k h5 h6
 ·by_cases k2 : m < i
  ·exact s i j (by omega) h2 (by omega) h5 h6
  ·exact p.pair W (by omega) h2 (by omega) (by omega) (by omega) h5 h6
theorem Cut.pre (x : Cut c A0 Z0 a b G) (h : A0 < a) (hb : b ≤ Z0) : Pre c a b G := fun h0 i h1 h2 h3 h4 => x (a - 1) i (by omega) (by omega) (by omega) (.inl (by omega)) h4 h3
theorem Pre.sub (x : Pre c a b G) (h : m ≤ b) : Pre c a m G := fun h0 i h1 h2 h3 h4 => x h0 i h1 (by omega) h3 h4
theorem Cut.equal (W : Weak (zeu c)) {i j : Nat} (x : Cut c A0 Z0 a b G) (p : EInv c a b G i j) (hji : j < i) (ha : 0 < a) (hp : Pre c a b G) (hlt : a < b) (hd : ∀ (h1 : a - 1 < G.length) (h2 : a < G.length), ¬ c G[a - 1] G[a] < 0) : Cut c A0 Z0 i b G := fun s t h1 h2 h3 h4 h5 h6 => by
 have e := p.hij
 have e3 := p.hi
 by_cases k : s < a ∨ b ≤ t
 ·exact x s t h1 h2 h3 k h5 h6
 ·have la : a < G.length := by omega
  have sp : ¬ c G[a] G[s] < 0 := by
   by_cases k3 : s = a
   ·subst k3; exact le_self W _
   ·exact p.lo s h5 la (by omega) (by omega)
  by_cases k2 : t < i
  ·have t1 := hp ha t (by omega) (by omega) h6 (by omega)
   exact le_of W (le_of W t1 (hd (by omega) la)) sp
  ·exact le_of W (nlt_of W (p.hi2 t h6 la (by omega) (by omega))) sp
end
abbrev I5 (F : AVal → AVal → AVal → AVal → AVal → zb → (AVal → zb → Prop) → Prop) (C : CSem) (n : Nat) : Prop := ∀ (v0 v1 v2 v3 v4 : AVal) (h : zb) (Q : AVal → zb → Prop), F v0 v1 v2 v3 v4 h (dn Q) → C n [v0, v1, v2, v3, v4] h Q
abbrev I4 (F : AVal → AVal → AVal → AVal → zb → (AVal → zb → Prop) → Prop) (C : CSem) (n : Nat) : Prop := ∀ (v0 v1 v2 v3 : AVal) (h : zb) (Q : AVal → zb → Prop), F v0 v1 v2 v3 h (dn Q) → C n [v0, v1, v2, v3] h Q
section
variable {E : z4} {X : Type} {cs : X → List AVal} {v : X → AVal} {h0 h : zb} {x f : AVal} {G : List X} {R : List (List AVal)} {c : X → X → Int} {Q : AVal → zb → Prop} {Y : List AVal → zb → Prop} {f1 f2 f3 f4 f5 f6 f7 f8 f9 g1 g2 g3 g4 g5 g6 : Nat}
structure PS (E : z4) {X : Type} (cs : X → List AVal) (h0 : zb) (x : AVal) (R : List (List AVal)) (c : X → X → Int) (A0 Z0 : Nat) (G0 : List X) (a b : Nat) (G : List X) (h : zb) : Prop where
 hA : A0 ≤ a
 hab : a ≤ b
 hB : b ≤ Z0
 W : zc9 A0 Z0 G0 G
 cut : Cut c A0 Z0 a b G
 pre : Pre c a b G
 o : Rw E cs h0 h x G R
theorem PS.turn {A0 Z0 a b : Nat} {G0 G' : List X} {h' : zb} (p : PS E cs h0 x R c A0 Z0 G0 a b G h) (w : zc9 a b G G') (o : Rw E cs h0 h' x G' R) : PS E cs h0 x R c A0 Z0 G0 a b G' h' :=
 ⟨p.hA, p.hab, p.hB, p.W.trans (w.mono p.hA p.hB), p.cut.within w p.hA p.hB, p.pre.within w, o⟩
abbrev Go1 (E : z4) {X : Type} (cs : X → List AVal) (h0 : zb) (x : AVal) (R : List (List AVal)) (c : X → X → Int) (A0 Z0 : Nat) (G0 : List X) (n : Nat) (Y : List AVal → zb → Prop) : Prop :=
 ∀ a b (lim : Int) w1 w2 G h, b - a < n → PS E cs h0 x R c A0 Z0 G0 a b G h → Y [.int .i64 (a : Int), .int .i64 (b : Int), .int .i64 lim, .bool w1, .bool w2] h
end
end Go.Ab
namespace Go.Ab.Ord
open Go.Ab
structure zer (C : CSem) {X : Type} (v : X → AVal) (c : X → X → Int) (fL : Nat) (h0 : zb) : Prop where
 call : ∀ (h : zb) (a b : X) (K : AVal → zb → Prop), h0.le h → K (.bool (decide (c a b < 0))) h → B.call C fL [v a, v b] h K
variable {C C0 : CSem} {fL : Nat}
variable {C C0 : CSem} {fL : Nat} {N : Nat → Nat}
section
variable {E : z4} {X : Type} {cs : X → List AVal} {v : X → AVal} {h0 h : zb} {x : AVal} {G : List X} {R : List (List AVal)}
end
section
variable {E : z4} {T : Type} {cs : T → List AVal} {v : T → AVal} {c : T → T → Int} {h0 h : zb} {x f : AVal} {R : List (List AVal)} {Q : AVal → zb → Prop}
theorem znn (S : zd7 E cs v) (W : Weak (zeu c)) {P M U : List (T × Nat)} (hlen : (P ++ (M ++ U)).length ≤ 100000000) (ht : M.Pairwise fun a b => a.2 < b.2)
  (hc : zer C0 v c fL h0) {a b : Nat} (ha : a = P.length) (hb : b = P.length + M.length) (ho : Rw E (fun p : T × Nat => cs p.1) h0 h x (P ++ (M ++ U)) R)
  (hq : ∀ h' M', M'.Perm M → M'.Pairwise (lt' (zeu c)) → Rw E (fun p : T × Nat => cs p.1) h0 h' x (P ++ (M' ++ U)) R → Q (.tup []) h') :
  zcr.cps C E C0 fL x (.int .i64 (a : Int)) (.int .i64 (b : Int)) f h Q := by
 have S' := S.comp (fun p : T × Nat => p.1)
 subst ha
 have hlen' : P.length + M.length + U.length ≤ 100000000 := by simpa [Nat.add_assoc] using hlen
 simp -dsimp only [zcr.cps, add1 (show P.length < 4611686018427387904 by omega), B.zg]
 cases M with
 | nil =>
  intro Y hY
  refine hY _ _ ?_
  simp -dsimp only [zcr.l3, lssN, B.zg]
  rw [show decide (P.length + 1 < b) = false by simp at hb ⊢; omega, B.cond_false]
  exact hq h [] (List.Perm.refl _) .nil ho
 | cons m M1 =>
 simp only [List.length_cons] at hlen' hb
 rw [List.pairwise_cons] at ht
 refine zd.intro (fun t vs hh => ∃ (i : Nat) (L M2 : List (T × Nat)), t = M2.length ∧ vs = [.int .i64 i] ∧ i = P.length + L.length ∧ i + M2.length = b ∧ Rw E (fun p : T × Nat => cs p.1) h0 hh x (P ++ (L ++ (M2 ++ U))) R ∧
  (L ++ M2).Perm (m :: M1) ∧ L.Pairwise (lt' (zeu c)) ∧ M2.Pairwise (fun a b => a.2 < b.2) ∧ ∀ p ∈ L, ∀ q ∈ M2, p.2 < q.2) M1.length ?_
  ⟨P.length + 1, [m], M1, rfl, rfl, by simp, by omega, by simpa using ho, List.Perm.refl _, List.pairwise_singleton .., ht.2, by simpa using ht.1⟩
 rintro Y t vs hh ⟨i, L, M2, rfl, rfl, hi, hib, o, hp, hs, ht2, htt⟩ hY
 simp -dsimp only [zcr.l3, lssN, B.zg]
 cases M2 with
 | nil =>
  rw [show decide (i < b) = false by simp at hib ⊢; omega, B.cond_false]
  rw [List.append_nil] at hp
  exact hq hh L hp hs o
 | cons x0 M2 =>
  simp only [List.length_cons] at hib
  rw [show decide (i < b) = true by simp; omega, B.cond_true]
  rw [List.pairwise_cons] at ht2
  have hll : P.length + (L.length + (M2.length + 1)) = b := by omega
  refine zd.intro (fun t vs h2 => ∃ (L1 L2 : List (T × Nat)), t = L1.length ∧ vs = [.int .i64 ((P.length + L1.length : Nat) : Int)] ∧ L = L1 ++ L2 ∧ Rw E (fun p : T × Nat => cs p.1) h0 h2 x (P ++ (L1 ++ x0 :: (L2 ++ (M2 ++ U)))) R ∧
   ∀ q ∈ L2, lt' (zeu c) x0 q) L.length ?_ ⟨L, [], rfl, by rw [hi], by simp, by simpa using o, by simp⟩
  rintro Z t vs h2 ⟨L1, L2, rfl, rfl, rfl, o2, hx⟩ hZ
  rw [List.pairwise_append] at hs
  have fin : (L1 = [] ∨ ∃ L0 y, L1 = L0 ++ [y] ∧ lt' (zeu c) y x0) → Y [.int .i64 ((i + 1 : Nat) : Int)] h2 := fun hz => by
   have hlow : ∀ p ∈ L1, lt' (zeu c) p x0 := by
    rcases hz with rfl | ⟨L0, y, rfl, hy⟩
    ·simp
    ·intro p hpm
     rcases List.mem_append.1 hpm with h1 | h1
     ·exact lt'_trans W ((List.pairwise_append.1 hs.1).2.2 p h1 y (by simp)) hy
     ·rw [List.mem_singleton.1 h1]; exact hy
   refine hY M2.length _ _ (by simp) ⟨i + 1, L1 ++ x0 :: L2, M2, rfl, rfl, by simp at hi ⊢; omega, by omega, by simpa using o2, ?_, ?_, ht2.2, ?_⟩
   ·refine List.Perm.trans ?_ hp
    simp only [List.append_assoc, List.cons_append]
    refine List.Perm.append_left _ ?_
    exact (List.perm_middle (l₁ := L2) (l₂ := M2) (a := x0)).symm
   ·rw [List.pairwise_append, List.pairwise_cons]
    refine ⟨hs.1, ⟨hx, hs.2.1⟩, fun p h1 q h2 => ?_⟩
    rcases List.mem_cons.1 h2 with rfl | h2
    ·exact hlow p h1
    ·exact hs.2.2 p h1 q h2
   ·intro p h1 q h2
    rcases List.mem_append.1 h1 with h1 | h1
    ·exact htt p (List.mem_append_left _ h1) q (List.mem_cons_of_mem _ h2)
    ·rcases List.mem_cons.1 h1 with rfl | h1
     ·exact ht2.1 q h2
     ·exact htt p (List.mem_append_right _ h1) q (List.mem_cons_of_mem _ h2)
  have hll2 : i = P.length + (L1.length + L2.length) := by simpa using hi
  simp -dsimp only [zcr.l2, zcr.k1, gtrN, B.zg]
  obtain rfl | ⟨L0, y, rfl⟩ := nil_or_snoc L1
  ·simp -dsimp [add1 (show i < 4611686018427387904 by omega)]
   exact fin (.inl rfl)
  ·have hyx : y.2 < x0.2 := htt y (by simp) x0 (by simp)
   have o2' := o2
   simp only [List.append_assoc, List.cons_append, List.nil_append] at o2'
   simp only [List.length_append, List.length_singleton] at hll2 hlen' hll
   have hj : P.length + (L0 ++ [y]).length = P.length + L0.length + 1 := by simp [Nat.add_assoc]
   rw [show decide (P.length < P.length + (L0 ++ [y]).length) = true by simp]
   rw [hj]
   simp -dsimp only [B.gd_t, B.zps, B.zea, zoi, sub1 (show 1 ≤ P.length + L0.length + 1 by omega) (by omega), Nat.add_sub_cancel, o2.idx (i := P.length + L0.length + 1) (by simp; omega), o2.idx (i := P.length + L0.length) (by simp), B.zg]
   have o3 : Rw E (fun p : T × Nat => cs p.1) h0 h2 x ((P ++ L0) ++ y :: ([] ++ x0 :: (L2 ++ (M2 ++ U)))) R := by simpa using o2
   have gy : ((P ++ L0) ++ y :: ([] ++ x0 :: (L2 ++ (M2 ++ U))))[P.length + L0.length]? = some y := get_mid (by simp)
   have gx : ((P ++ L0) ++ y :: ([] ++ x0 :: (L2 ++ (M2 ++ U))))[P.length + L0.length + 1]? = some x0 := get_mid2 (by simp)
   refine o3.ld S' gx ?_
   refine o3.ld S' gy ?_
   refine hc.call _ _ _ _ o2.le ?_
   simp -dsimp only [B.gd_t, B.zps, B.zea, zoi, V.zfm, B.zg, B.zh0]
   refine B.zm (fun hb2 => ?_) (fun hb2 => ?_)
   ·simp -dsimp only [sub1 (show 1 ≤ P.length + L0.length + 1 by omega) (by omega), Nat.add_sub_cancel, o2.idx (i := P.length + L0.length + 1) (by simp; omega), o2.idx (i := P.length + L0.length) (by simp), B.zg]
    refine o3.ld S' gy ?_
    refine o3.ld S' gx ?_
    refine o3.swapDn S' (by simp) (by simp) fun h4 o4 => ?_
    refine hZ L0.length _ _ (by simp) ⟨L0, y :: L2, rfl, rfl, by simp, by simpa using o4, ?_⟩
    intro q hq2
    rcases List.mem_cons.1 hq2 with rfl | hq2
    ·exact (lt'_gt hyx).2 hb2
    ·exact hx q hq2
   ·simp -dsimp only [add1 (show i < 4611686018427387904 by omega), B.zg]
    exact fin (.inr ⟨L0, y, rfl, (lt'_le W hyx).2 hb2⟩)
end
section
variable {E : z4} {X : Type} {cs : X → List AVal} {v : X → AVal} {h0 h : zb} {x f : AVal} {G : List X} {R : List (List AVal)} {c : X → X → Int}
theorem zmo (S : zd7 E cs v) (hx : SlX h0 E.es x (G.map cs) R) (hc : zer C0 v c fL h0) {p : AVal} {n : Int} (ho : Owns h0 h [.box p [.int .i64 n]]) {i j : Nat} (hi : i < G.length) (hj : j < G.length) {Q : AVal → zb → Prop}
  (hq : ∀ (i' j' : Nat) (n' : Int) h', (i' = i ∨ i' = j) → (j' = i ∨ j' = j) → Owns h0 h' [.box p [.int .i64 n']] → Q (.tup [.int .i64 (i' : Int), .int .i64 (j' : Int)]) h') : zfk.cps C E C0 fL x (.int .i64 (i : Int)) (.int .i64 (j : Int)) p f h Q := by
 have hxx := hx.mono ho.le
 have ii : V.idxS E.es x (.int .i64 (i : Int)) = some (elp E.es x i 0) := hxx.idxN (by simpa using hi)
 have ij : V.idxS E.es x (.int .i64 (j : Int)) = some (elp E.es x j 0) := hxx.idxN (by simpa using hj)
 have gi : (G.map cs)[i]? = some (cs G[i]) := by rw [List.getElem?_map, List.getElem?_eq_getElem hi]; rfl
 have gj : (G.map cs)[j]? = some (cs G[j]) := by rw [List.getElem?_map, List.getElem?_eq_getElem hj]; rfl
 obtain ⟨id, rfl, hb⟩ := ho.zri 0 rfl
 have ld : A.ldv h (.ptr id 0 0) = some (.int .i64 n) := by rw [zjm hb]; rfl
 simp -dsimp only [zfk.cps, zfk.k1, ij, B.zg]
 refine S.ld hxx gj ?_
 simp -dsimp only [ii, B.zg]
 refine S.ld hxx gi ?_
 refine hc.call _ _ _ _ ho.le ?_
 refine B.zm (fun hd => ?_) (fun hd => ?_)
 ·simp -dsimp only [B.zhp, B.zg7, ld, V.zdk, B.zg]
  refine ho.boxSt 0 (off := 0) rfl rfl (by simp) fun h2 o2 _ => ?_
  exact hq j i _ h2 (.inr rfl) (.inl rfl) (by simpa using o2)
 ·exact hq i j n h (.inl rfl) (.inr rfl) ho
abbrev O2I (C : CSem) (E : z4) (C0 : CSem) (fL : Nat) (f1 : Nat) : Prop := ∀ (v0 v1 v2 v3 v4 : AVal) (h : zb) (Q : AVal → zb → Prop), zfk.cps C E C0 fL v0 v1 v2 v3 v4 h (dn Q) → C f1 [v0, v1, v2, v3, v4] h Q
abbrev MedI (C : CSem) (E : z4) (C0 : CSem) (fL : Nat) (f1 f2 : Nat) : Prop := ∀ (v0 v1 v2 v3 v4 v5 : AVal) (h : zb) (Q : AVal → zb → Prop), zfl.cps C E C0 fL f1 v0 v1 v2 v3 v4 v5 h (dn Q) → C f2 [v0, v1, v2, v3, v4, v5] h Q
abbrev AdjI (C : CSem) (E : z4) (C0 : CSem) (fL : Nat) (f2 f3 : Nat) : Prop := ∀ (v0 v1 v2 v3 : AVal) (h : zb) (Q : AVal → zb → Prop), zd9.cps C E C0 fL f2 v0 v1 v2 v3 h (dn Q) → C f3 [v0, v1, v2, v3] h Q
theorem zmr {f1 : Nat} (io : O2I C E C0 fL f1) (S : zd7 E cs v) (hx : SlX h0 E.es x (G.map cs) R) (hc : zer C0 v c fL h0) {p : AVal} {n : Int} (ho : Owns h0 h [.box p [.int .i64 n]]) {i j k : Nat} (hi : i < G.length) (hj : j < G.length) (hk : k < G.length) {Q : AVal → zb → Prop}
  (hq : ∀ (m : Nat) (n' : Int) h', (m = i ∨ m = j ∨ m = k) → Owns h0 h' [.box p [.int .i64 n']] → Q (.int .i64 (m : Int)) h') : zfl.cps C E C0 fL f1 x (.int .i64 (i : Int)) (.int .i64 (j : Int)) (.int .i64 (k : Int)) p f h Q := by
 simp -dsimp only [zfl.cps, zfl.k1]
 refine io _ _ _ _ _ _ _ (zmo S hx hc ho hi hj fun a b n1 h1 ha hb o1 => zbi ?_)
 simp -dsimp only [V.zq2, List.getElem?_cons_zero, List.getElem?_cons_succ, B.zg]
 have la : a < G.length := by rcases ha with rfl | rfl <;> assumption
 have lb : b < G.length := by rcases hb with rfl | rfl <;> assumption
 refine io _ _ _ _ _ _ _ (zmo S hx hc o1 lb hk fun a2 b2 n2 h2 ha2 hb2 o2 => zbi ?_)
 simp -dsimp only [V.zq2, List.getElem?_cons_zero, List.getElem?_cons_succ, B.zg]
 have la2 : a2 < G.length := by rcases ha2 with rfl | rfl <;> assumption
 refine io _ _ _ _ _ _ _ (zmo S hx hc o2 la la2 fun a3 b3 n3 h3 ha3 hb3 o3 => zbi ?_)
 simp -dsimp only [V.zq2, List.getElem?_cons_zero, List.getElem?_cons_succ, B.zg]
 refine hq b3 n3 h3 ?_ o3
 omega
theorem zgv {f1 f2 : Nat} (io : O2I C E C0 fL f1) (im : MedI C E C0 fL f1 f2) (S : zd7 E cs v) (hx : SlX h0 E.es x (G.map cs) R) (hc : zer C0 v c fL h0) {p : AVal} {n : Int} (ho : Owns h0 h [.box p [.int .i64 n]]) {i : Nat} (hi : 0 < i) (hi2 : i + 1 < G.length) (hl : G.length < 4611686018427387904) {Q : AVal → zb → Prop}
  (hq : ∀ (m : Nat) (n' : Int) h', i - 1 ≤ m → m ≤ i + 1 → Owns h0 h' [.box p [.int .i64 n']] → Q (.int .i64 (m : Int)) h') : zd9.cps C E C0 fL f2 x (.int .i64 (i : Int)) p f h Q := by
 have e1 : V.bin .sub (.int .i64 (i : Int)) (.int .i64 1) = some (.int .i64 ((i - 1 : Nat) : Int)) := by
  rw [V.zff, wrap_i64 (by omega) (by omega)]; congr 2; omega
 simp -dsimp only [zd9.cps, zd9.k1, e1, add1 (show i < 4611686018427387904 by omega), B.zg]
 exact im _ _ _ _ _ _ _ _ (zmr io S hx hc ho (by omega) (by omega) hi2 fun m n' h' hm o' => zbi (hq m n' h' (by omega) (by omega) o'))
theorem zn3 (S : zd7 E cs v) (hl : G.length < 4611686018427387904) (ho : Rw E cs h0 h x G R) {a b : Nat} (hab : a < b) (hb : b ≤ G.length) {Q : AVal → zb → Prop} (hq : ∀ h' G', zc9 a b G G' → Rw E cs h0 h' x G' R → Q (.tup []) h') :
  zdt.cps C E C0 fL x (.int .i64 (a : Int)) (.int .i64 (b : Int)) f h Q := by
 have e1 : V.bin .sub (.int .i64 (b : Int)) (.int .i64 1) = some (.int .i64 ((b - 1 : Nat) : Int)) := by
  rw [V.zff, wrap_i64 (by omega) (by omega)]; congr 2; omega
 simp -dsimp only [zdt.cps, e1, B.zg]
 refine zd.intro (fun t vs hh => ∃ (i j : Nat) (G' : List X), t = j ∧ vs = [.int .i64 (i : Int), .int .i64 (j : Int)] ∧ a ≤ i ∧ j < b ∧ zc9 a b G G' ∧ Rw E cs h0 hh x G' R) (b - 1) ?_ ⟨a, b - 1, G, rfl, rfl, Nat.le_refl _, by omega, zc9.refl _ _ _, ho⟩
 rintro Y j vs hh ⟨i, _, G', rfl, rfl, hi, hj, W, o⟩ hY
 simp -dsimp only [zdt.l2, zdt.k1, lssN, B.zg]
 have hlen := W.len
 refine B.zm (fun hc => ?_) (fun hc => hq hh G' W o)
 rw [decide_eq_true_eq] at hc
 have li : i < G'.length := by omega
 have lj : j < G'.length := by omega
 simp -dsimp only [o.idx lj, B.zg]
 refine o.ld S (List.getElem?_eq_getElem lj) ?_
 simp -dsimp only [o.idx li, B.zg]
 refine o.ld S (List.getElem?_eq_getElem li) ?_
 have ij := o.idx lj
 refine o.st S (t := G'[j]) li fun h1 o1 => ?_
 simp -dsimp only [ij, B.zg]
 refine o1.st S (t := G'[i]) (by simpa using lj) fun h2 o2 => ?_
 have e2 : V.bin .sub (.int .i64 (j : Int)) (.int .i64 1) = some (.int .i64 ((j - 1 : Nat) : Int)) := by
  rw [V.zff, wrap_i64 (by omega) (by omega)]; congr 2; omega
 simp -dsimp only [add1 (show i < 4611686018427387904 by omega), e2, B.zg]
 exact hY (j - 1) _ _ (by omega) ⟨i + 1, j - 1, _, rfl, rfl, by omega, by omega, W.trans (zey li lj hi (by omega) (by omega) hj), o2⟩
theorem zpi {f1 f2 f3 : Nat} (io : O2I C E C0 fL f1) (im : MedI C E C0 fL f1 f2) (ia : AdjI C E C0 fL f2 f3) (S : zd7 E cs v) (hx : SlX h E.es x (G.map cs) R) (h0le : h0.le h) (hc : zer C0 v c fL h0) (hl : G.length ≤ 100000000) {a b : Nat} (hab : a + 8 ≤ b) (hb : b ≤ G.length) {Q : AVal → zb → Prop}
  (hq : ∀ (m : Nat) (hint : Int) h', a ≤ m → m < b → h.le h' → Q (.tup [.int .i64 (m : Int), .int .i64 hint]) h') : zbj.cps C E C0 fL f2 f3 x (.int .i64 (a : Int)) (.int .i64 (b : Int)) f h Q := by
 have e1 := zif (a := b) (b := a) (by omega) (by omega)
 simp -dsimp only [zbj.cps, e1, B.zg]
 intro id hid
 have o := (Owns.start h).zru hid [.int .i64 0]
 simp only [List.nil_append] at o
 have q4 := quo4 (a := b - a) (by omega)
 have m1 := mulN (a := (b - a) / 4) (b := 1) (by omega)
 have m2 := mulN (a := (b - a) / 4) (b := 2) (by omega)
 have m3 := mulN (a := (b - a) / 4) (b := 3) (by omega)
 have a1 := zj7 (a := a) (b := (b - a) / 4 * 1) (by omega)
 have a2 := zj7 (a := a) (b := (b - a) / 4 * 2) (by omega)
 have a3 := zj7 (a := a) (b := (b - a) / 4 * 3) (by omega)
 have g8 : V.bin .geq (.int .i64 ((b - a : Nat) : Int)) (.int .i64 8) = some (.bool true) := by rw [V.zkw, decide_eq_true (by omega)]
 have hc' : zer C0 v c fL h := ⟨fun h2 s t K hle hk => hc.call h2 s t K (zb.le_trans h0le hle) hk⟩
 simp -dsimp only [zbj.k6, zbj.k5, zbj.k4, zbj.k3, q4, B.zg]
 have m1' : V.bin .mul (.int .i64 (((b - a) / 4 : Nat) : Int)) (.int .i64 1) = some (.int .i64 (((b - a) / 4 * 1 : Nat) : Int)) := m1
 have m2' : V.bin .mul (.int .i64 (((b - a) / 4 : Nat) : Int)) (.int .i64 2) = some (.int .i64 (((b - a) / 4 * 2 : Nat) : Int)) := m2
 have m3' : V.bin .mul (.int .i64 (((b - a) / 4 : Nat) : Int)) (.int .i64 3) = some (.int .i64 (((b - a) / 4 * 3 : Nat) : Int)) := m3
 simp -dsimp only [q4, m1', m2', m3', a1, a2, a3, g8, B.cond_true, zbj.k5, zbj.k4, zbj.k3, zbj.k2, B.zg]
 have fin : ∀ (m : Nat) (n' : Int) h', a ≤ m → m < b → Owns h h' [.box (.ptr id 0 0) [.int .i64 n']] → zbj.k1 C E C0 fL f2 f3 Q (.ptr id 0 0) (.int .i64 (m : Int)) h' := fun m n' h' k1 k2 o' => by
  obtain ⟨id', e, hb'⟩ := o'.zri 0 rfl
  cases e
  have ld : A.ldv h' (.ptr id 0 0) = some (.int .i64 n') := by rw [zjm hb']; rfl
  simp -dsimp only [zbj.k1, B.zg7, ld, V.zje, B.zg]
  refine B.zm (fun _ => hq m _ h' k1 k2 o'.le) (fun _ => ?_)
  refine B.zm (fun _ => hq m _ h' k1 k2 o'.le) (fun _ => hq m _ h' k1 k2 o'.le)
 have g50 : V.bin .geq (.int .i64 ((b - a : Nat) : Int)) (.int .i64 50) = some (.bool (decide (50 ≤ b - a))) := geqN (b := 50)
 simp -dsimp only [g50, B.zg]
 refine B.zm (fun hd => ?_) (fun hd => ?_)
 ·rw [decide_eq_true_eq] at hd
  refine ia _ _ _ _ _ _ (zgv io im S hx hc' o (by omega) (by omega) (by omega) fun i n1 h1 i1 i2 o1 => zbi ?_)
  refine ia _ _ _ _ _ _ (zgv io im S hx hc' o1 (by omega) (by omega) (by omega) fun j n2 h2 j1 j2 o2 => zbi ?_)
  refine ia _ _ _ _ _ _ (zgv io im S hx hc' o2 (by omega) (by omega) (by omega) fun k n3 h3 k1 k2 o3 => zbi ?_)
  refine im _ _ _ _ _ _ _ _ (zmr io S hx hc' o3 (by omega) (by omega) (by omega) fun m n4 h4 hm o4 => zbi ?_)
  exact fin m n4 h4 (by omega) (by omega) o4
 ·refine im _ _ _ _ _ _ _ _ (zmr io S hx hc' o (by omega) (by omega) (by omega) fun m n4 h4 hm o4 => zbi ?_)
  exact fin m n4 h4 (by omega) (by omega) o4
end
section
variable {E : z4} {X : Type} {cs : X → List AVal} {v : X → AVal} {h0 h : zb} {x f : AVal} {G : List X} {R : List (List AVal)} {c : X → X → Int} {Q : AVal → zb → Prop} {Y1 : List AVal → zb → Prop} {a b i j : Nat}
theorem part_j (S : zd7 E cs v) (hc : zer C0 v c fL h0) (ho : Rw E cs h0 h x G R) (hl : G.length < 4611686018427387904) (hab : a < b) (p : PInv c a b G i j) (hi0 : j < i ∨ ∀ (h1 : i < G.length) (h2 : a < G.length), ¬ c G[i] G[a] < 0)
  (done : ∀ h' j', PInv c a b G i j' → j' < i → Rw E cs h0 h' x G R → zl.k1 C E C0 fL Q x (.int .i64 (a : Int)) (.int .i64 (j' : Int)) h')
  (next : ∀ h' j' (hi : i < G.length) (hj : j' < G.length) , PInv c a b (swp G i j' hi hj) (i + 1) (j' - 1) → i < j' → j' < b → Rw E cs h0 h' x (swp G i j' hi hj) R → Y1 [.int .i64 ((i + 1 : Nat) : Int), .int .i64 ((j' - 1 : Nat) : Int)] h') :
  zd (zl.l4 C E C0 fL Q Y1 x (.int .i64 (a : Int)) f (.int .i64 (i : Int))) [.int .i64 (j : Int)] h := by
 refine zd.intro (fun t vs hh => hh = h ∧ ∃ j' : Nat, t = j' ∧ vs = [.int .i64 (j' : Int)] ∧ PInv c a b G i j' ∧ (j' < i ∨ ∀ (h1 : i < G.length) (h2 : a < G.length), ¬ c G[i] G[a] < 0)) j ?_ ⟨rfl, j, rfl, rfl, p, hi0⟩
 rintro Y j' vs hh ⟨rfl, _, rfl, rfl, p, hi0⟩ hY
 have k1 := p.hi; have k2 := p.hij; have k3 := p.hj; have k4 := p.hb
 have la : a < G.length := by omega
 have lj : j' < G.length := by omega
 simp -dsimp only [zl.l4, zl.k3, leqN, B.zg]
 by_cases hle : i ≤ j'
 ·have li : i < G.length := by omega
  simp -dsimp only [hle, decide_true, B.gd_t, B.zea, ho.idx lj, ho.idx la, B.zg]
  refine ho.ld S (List.getElem?_eq_getElem lj) ?_
  refine ho.ld S (List.getElem?_eq_getElem la) ?_
  refine hc.call _ _ _ _ ho.le ?_
  simp -dsimp only [hle, decide_true, B.gd_t, B.zea, V.zfm, V.zkh, B.zh0, B.zg]
  refine B.zm (fun hd => ?_) (fun hd => ?_)
  ·have hd' : ¬ c G[j'] G[a] < 0 := by simpa using hd
   have e1 := zif (a := j') (b := 1) (by omega) (by omega)
   have e1' : V.bin .sub (.int .i64 (j' : Int)) (.int .i64 1) = some (.int .i64 ((j' - 1 : Nat) : Int)) := e1
   simp -dsimp only [e1', B.zg]
   refine hY (j' - 1) _ _ (by omega) ⟨rfl, j' - 1, rfl, rfl, ⟨k4, k1, by omega, by omega, p.lo, fun k hk ha q1 q2 => ?_⟩, ?_⟩
   ·by_cases e : k = j'
    ·subst e; exact hd'
    ·exact p.hi2 k hk ha (by omega) q2
   ·rcases hi0 with h | h
    ·omega
    ·exact .inr h
  ·have hd' : c G[j'] G[a] < 0 := by simpa using hd
   have hni : ¬ c G[i] G[a] < 0 := by
    rcases hi0 with h | h
    ·omega
    ·exact h li la
   simp -dsimp only [zl.k2, gtrN, show ¬ j' < i by omega, decide_false, B.cond_false, ho.idx lj, ho.idx li, B.zg]
   refine ho.ld S (List.getElem?_eq_getElem lj) ?_
   refine ho.ld S (List.getElem?_eq_getElem li) ?_
   refine ho.st S (t := G[j']) li fun h1 o1 => ?_
   refine o1.st S (t := G[i]) (by simpa using lj) fun h2 o2 => ?_
   have e1' : V.bin .sub (.int .i64 (j' : Int)) (.int .i64 1) = some (.int .i64 ((j' - 1 : Nat) : Int)) := zif (a := j') (b := 1) (by omega) (by omega)
   simp -dsimp only [add1 (show i < 4611686018427387904 by omega), e1', B.zg]
   have hne : i ≠ j' := fun e => by subst e; exact hni hd'
   exact next h2 j' li lj (p.swap hle li lj la hni hd') (by omega) k3 o2
 ·simp -dsimp only [hle, decide_false, B.gd_t, B.ze9, B.zii, B.cond_false, zl.k2, gtrN, show j' < i by omega, decide_true, B.cond_true, B.zg]
  exact done hh j' p (by omega) ho
theorem part_i (S : zd7 E cs v) (hc : zer C0 v c fL h0) (ho : Rw E cs h0 h x G R) (hl : G.length < 4611686018427387904) (hab : a < b) (p : PInv c a b G i j)
  (done : ∀ h' i' j', PInv c a b G i' j' → j' < i' → Rw E cs h0 h' x G R → zl.k1 C E C0 fL Q x (.int .i64 (a : Int)) (.int .i64 (j' : Int)) h')
  (next : ∀ h' i' j' (hi : i' < G.length) (hj : j' < G.length), PInv c a b (swp G i' j' hi hj) (i' + 1) (j' - 1) → a < i' → i ≤ i' → i' < j' → j' < b → Rw E cs h0 h' x (swp G i' j' hi hj) R → Y1 [.int .i64 ((i' + 1 : Nat) : Int), .int .i64 ((j' - 1 : Nat) : Int)] h') :
  zd (zl.l6 C E C0 fL Q Y1 x (.int .i64 (a : Int)) f (.int .i64 (j : Int))) [.int .i64 (i : Int)] h := by
 refine zd.intro (fun t vs hh => hh = h ∧ ∃ i' : Nat, i' + t = b ∧ i ≤ i' ∧ vs = [.int .i64 (i' : Int)] ∧ PInv c a b G i' j) (b - i) ?_ ⟨rfl, i, by have := p.hij; have := p.hj; omega, Nat.le_refl _, rfl, p⟩
 rintro Y t vs hh ⟨rfl, i', hit, hii, rfl, p⟩ hY
 have k1 := p.hi; have k2 := p.hij; have k3 := p.hj; have k4 := p.hb
 have la : a < G.length := by omega
 simp -dsimp only [zl.l6, zl.k5, leqN, B.zg]
 by_cases hle : i' ≤ j
 ·have li : i' < G.length := by omega
  simp -dsimp only [hle, decide_true, B.gd_t, B.zea, ho.idx li, ho.idx la, B.zg]
  refine ho.ld S (List.getElem?_eq_getElem li) ?_
  refine ho.ld S (List.getElem?_eq_getElem la) ?_
  refine hc.call _ _ _ _ ho.le ?_
  simp -dsimp only [hle, decide_true, B.gd_t, B.zea, V.zfm, B.zh0, B.zg]
  refine B.zm (fun hd => ?_) (fun hd => ?_)
  ·have hd' : c G[i'] G[a] < 0 := by simpa using hd
   simp -dsimp only [add1 (show i' < 4611686018427387904 by omega), B.zg]
   refine hY (b - (i' + 1)) _ _ (by omega) ⟨rfl, i' + 1, by omega, by omega, rfl, ⟨k4, by omega, k3, by omega, fun k hk ha q1 q2 => ?_, p.hi2⟩⟩
   by_cases e : k = i'
   ·subst e; exact hd'
   ·exact p.lo k hk ha q1 (by omega)
  ·have hd' : ¬ c G[i'] G[a] < 0 := by simpa using hd
   exact part_j S hc ho hl hab p (.inr fun _ _ => hd') (fun h' j' p' hlt o' => done h' i' j' p' hlt o') fun h' j' hi hj p' h1 h2 o' => next h' i' j' hi hj p' k1 hii h1 h2 o'
 ·simp -dsimp only [hle, decide_false, B.gd_t, B.ze9, B.zii, B.cond_false]
  exact part_j S hc ho hl hab p (.inl (by omega)) (fun h' j' p' hlt o' => done h' i' j' p' hlt o') fun h' j' hi hj p' h1 h2 o' => next h' i' j' hi hj p' k1 hii h1 h2 o'
theorem part_end (S : zd7 E cs v) (ho : Rw E cs h0 h x G R) (hab : a < b) (p : PInv c a b G i j) (hlt : j < i) (hq : ∀ h' m G', zi8 c a b m G' → zc9 a b G G' → Rw E cs h0 h' x G' R → Q (.tup [.int .i64 (m : Int), .bool false]) h') :
  zl.k1 C E C0 fL Q x (.int .i64 (a : Int)) (.int .i64 (j : Int)) h := by
 have k1 := p.hi; have k2 := p.hij; have k3 := p.hj; have k4 := p.hb
 have la : a < G.length := by omega
 have lj : j < G.length := by omega
 simp -dsimp only [zl.k1, ho.idx lj, ho.idx la, B.zg]
 refine ho.ld S (List.getElem?_eq_getElem la) ?_
 refine ho.ld S (List.getElem?_eq_getElem lj) ?_
 refine ho.st S (t := G[a]) lj fun h1 o1 => ?_
 refine o1.st S (t := G[j]) (by simpa using la) fun h2 o2 => ?_
 exact hq h2 j _ (p.done hab hlt lj la) (zey lj la (by omega) k3 (Nat.le_refl _) hab) o2
theorem part_main (S : zd7 E cs v) (hc : zer C0 v c fL h0) (ho : Rw E cs h0 h x G R) (hl : G.length < 4611686018427387904) (hab : a < b) (p : PInv c a b G i j)
  (hq : ∀ h' m G', zi8 c a b m G' → zc9 a b G G' → Rw E cs h0 h' x G' R → Q (.tup [.int .i64 (m : Int), .bool false]) h') :
  zd (zl.l7 C E C0 fL Q x (.int .i64 (a : Int)) f) [.int .i64 (i : Int), .int .i64 (j : Int)] h := by
 refine zd.intro (fun t vs hh => ∃ (i' j' : Nat) (G' : List X), i' + t = b ∧ vs = [.int .i64 (i' : Int), .int .i64 (j' : Int)] ∧ zc9 a b G G' ∧ PInv c a b G' i' j' ∧ Rw E cs h0 hh x G' R) (b - i) ?_ ⟨i, j, G, by have := p.hij; have := p.hj; omega, rfl, zc9.refl _ _ _, p, ho⟩
 rintro Y t vs hh ⟨i', j', G', hit, rfl, W, p, o⟩ hY
 have hlen := W.len
 simp -dsimp only [zl.l7]
 refine part_i S hc o (by omega) hab p (fun h' i2 j2 p2 hlt o2 => part_end S o2 hab p2 hlt fun h3 m G3 P3 W3 o3 => hq h3 m G3 P3 (W.trans W3) o3) fun h' i2 j2 hi hj p2 h1 h2 h3 h4 o2 => ?_
 exact hY (b - (i2 + 1)) _ _ (by omega) ⟨i2 + 1, j2 - 1, _, by omega, rfl, W.trans (zey hi hj (by omega) (by omega) (by omega) h4), p2, o2⟩
end
section
variable {E : z4} {X : Type} {cs : X → List AVal} {v : X → AVal} {h0 h : zb} {x f : AVal} {G : List X} {R : List (List AVal)} {c : X → X → Int} {Q : AVal → zb → Prop} {a b i j : Nat}
theorem part_k10 (S : zd7 E cs v) (hc : zer C0 v c fL h0) (ho : Rw E cs h0 h x G R) (hl : G.length < 4611686018427387904) (hab : a < b) (p : PInv c a b G i j)
  (hd : j < i ∨ ∃ (h1 : i < G.length) (h2 : a < G.length) (h3 : j < G.length), i ≤ j ∧ ¬ c G[i] G[a] < 0 ∧ c G[j] G[a] < 0) (hq : PartQ E cs h0 x c a b R G Q) :
  zl.k10 C E C0 fL Q x (.int .i64 (a : Int)) f (.int .i64 (i : Int)) (.int .i64 (j : Int)) h := by
 have k1 := p.hi; have k2 := p.hij; have k3 := p.hj; have k4 := p.hb
 have la : a < G.length := by omega
 have lj : j < G.length := by omega
 rcases hd with hlt | ⟨li, _, _, hle, n1, n2⟩
 ·simp -dsimp only [zl.k10, gtrN, hlt, decide_true, B.cond_true, ho.idx lj, ho.idx la, B.zg]
  refine ho.ld S (List.getElem?_eq_getElem la) ?_
  refine ho.ld S (List.getElem?_eq_getElem lj) ?_
  refine ho.st S (t := G[a]) lj fun h1 o1 => ?_
  refine o1.st S (t := G[j]) (by simpa using la) fun h2 o2 => ?_
  exact hq h2 j _ true (p.done hab hlt lj la) (zey lj la (by omega) k3 (Nat.le_refl _) hab) o2
 ·simp -dsimp only [zl.k10, zl.k9, gtrN, show ¬ j < i by omega, decide_false, B.cond_false, ho.idx lj, ho.idx li, B.zg]
  refine ho.ld S (List.getElem?_eq_getElem lj) ?_
  refine ho.ld S (List.getElem?_eq_getElem li) ?_
  refine ho.st S (t := G[j]) li fun h1 o1 => ?_
  refine o1.st S (t := G[i]) (by simpa using lj) fun h2 o2 => ?_
  have hne : i ≠ j := fun e => by subst e; exact n1 n2
  have e1' : V.bin .sub (.int .i64 (j : Int)) (.int .i64 1) = some (.int .i64 ((j - 1 : Nat) : Int)) := zif (a := j) (b := 1) (by omega) (by omega)
  simp -dsimp only [zl.k8, add1 (show i < 4611686018427387904 by omega), e1', B.zg]
  have W := zey li lj (by omega) (by omega) (by omega : a ≤ j) k3
  exact part_main S hc (G := swp G i j li lj) o2 (by rw [zi9 li lj]; omega) hab (p.swap hle li lj la n1 n2) fun h' m G' P' W' o' => hq h' m G' false P' (W.trans W') o'
theorem part_j1 (S : zd7 E cs v) (hc : zer C0 v c fL h0) (ho : Rw E cs h0 h x G R) (hl : G.length < 4611686018427387904) (hab : a < b) (p : PInv c a b G i j) (hi0 : j < i ∨ ∀ (h1 : i < G.length) (h2 : a < G.length), ¬ c G[i] G[a] < 0) (hq : PartQ E cs h0 x c a b R G Q) :
  zd (zl.l12 C E C0 fL Q x (.int .i64 (a : Int)) f (.int .i64 (i : Int))) [.int .i64 (j : Int)] h := by
 refine zd.intro (fun t vs hh => hh = h ∧ ∃ j' : Nat, t = j' ∧ vs = [.int .i64 (j' : Int)] ∧ PInv c a b G i j' ∧ (j' < i ∨ ∀ (h1 : i < G.length) (h2 : a < G.length), ¬ c G[i] G[a] < 0)) j ?_ ⟨rfl, j, rfl, rfl, p, hi0⟩
 rintro Y j' vs hh ⟨rfl, _, rfl, rfl, p, hi0⟩ hY
 have k1 := p.hi; have k2 := p.hij; have k3 := p.hj; have k4 := p.hb
 have la : a < G.length := by omega
 have lj : j' < G.length := by omega
 simp -dsimp only [zl.l12, zl.k11, leqN, B.zg]
 by_cases hle : i ≤ j'
 ·have li : i < G.length := by omega
  simp -dsimp only [hle, decide_true, B.gd_t, B.zea, ho.idx lj, ho.idx la, B.zg]
  refine ho.ld S (List.getElem?_eq_getElem lj) ?_
  refine ho.ld S (List.getElem?_eq_getElem la) ?_
  refine hc.call _ _ _ _ ho.le ?_
  simp -dsimp only [hle, decide_true, B.gd_t, B.zea, V.zfm, V.zkh, B.zh0, B.zg]
  refine B.zm (fun hd => ?_) (fun hd => ?_)
  ·have hd' : ¬ c G[j'] G[a] < 0 := by simpa using hd
   have e1' : V.bin .sub (.int .i64 (j' : Int)) (.int .i64 1) = some (.int .i64 ((j' - 1 : Nat) : Int)) := zif (a := j') (b := 1) (by omega) (by omega)
   simp -dsimp only [e1', B.zg]
   refine hY (j' - 1) _ _ (by omega) ⟨rfl, j' - 1, rfl, rfl, ⟨k4, k1, by omega, by omega, p.lo, fun k hk ha q1 q2 => ?_⟩, ?_⟩
   ·by_cases e : k = j'
    ·subst e; exact hd'
    ·exact p.hi2 k hk ha (by omega) q2
   ·rcases hi0 with h | h
    ·omega
    ·exact .inr h
  ·have hd' : c G[j'] G[a] < 0 := by simpa using hd
   have hni : ¬ c G[i] G[a] < 0 := by
    rcases hi0 with h | h
    ·omega
    ·exact h li la
   exact part_k10 S hc ho hl hab p (.inr ⟨li, la, lj, hle, hni, hd'⟩) hq
 ·simp -dsimp only [hle, decide_false, B.gd_t, B.ze9, B.zii, B.cond_false]
  exact part_k10 S hc ho hl hab p (.inl (by omega)) hq
theorem part_i1 (S : zd7 E cs v) (hc : zer C0 v c fL h0) (ho : Rw E cs h0 h x G R) (hl : G.length < 4611686018427387904) (hab : a < b) (p : PInv c a b G i j) (hq : PartQ E cs h0 x c a b R G Q) :
  zd (zl.l14 C E C0 fL Q x (.int .i64 (a : Int)) f (.int .i64 (j : Int))) [.int .i64 (i : Int)] h := by
 refine zd.intro (fun t vs hh => hh = h ∧ ∃ i' : Nat, i' + t = b ∧ vs = [.int .i64 (i' : Int)] ∧ PInv c a b G i' j) (b - i) ?_ ⟨rfl, i, by have := p.hij; have := p.hj; omega, rfl, p⟩
 rintro Y t vs hh ⟨rfl, i', hit, rfl, p⟩ hY
 have k1 := p.hi; have k2 := p.hij; have k3 := p.hj; have k4 := p.hb
 have la : a < G.length := by omega
 simp -dsimp only [zl.l14, zl.k13, leqN, B.zg]
 by_cases hle : i' ≤ j
 ·have li : i' < G.length := by omega
  simp -dsimp only [hle, decide_true, B.gd_t, B.zea, ho.idx li, ho.idx la, B.zg]
  refine ho.ld S (List.getElem?_eq_getElem li) ?_
  refine ho.ld S (List.getElem?_eq_getElem la) ?_
  refine hc.call _ _ _ _ ho.le ?_
  simp -dsimp only [hle, decide_true, B.gd_t, B.zea, V.zfm, B.zh0, B.zg]
  refine B.zm (fun hd => ?_) (fun hd => ?_)
  ·have hd' : c G[i'] G[a] < 0 := by simpa using hd
   simp -dsimp only [add1 (show i' < 4611686018427387904 by omega), B.zg]
   refine hY (b - (i' + 1)) _ _ (by omega) ⟨rfl, i' + 1, by omega, rfl, ⟨k4, by omega, k3, by omega, fun k hk ha q1 q2 => ?_, p.hi2⟩⟩
   by_cases e : k = i'
   ·subst e; exact hd'
   ·exact p.lo k hk ha q1 (by omega)
  ·have hd' : ¬ c G[i'] G[a] < 0 := by simpa using hd
   exact part_j1 S hc ho hl hab p (.inr fun _ _ => hd') hq
 ·simp -dsimp only [hle, decide_false, B.gd_t, B.ze9, B.zii, B.cond_false]
  exact part_j1 S hc ho hl hab p (.inl (by omega)) hq
theorem zrd (S : zd7 E cs v) (hc : zer C0 v c fL h0) (ho : Rw E cs h0 h x G R) (hl : G.length < 4611686018427387904) {pv : Nat} (hp1 : a ≤ pv) (hp2 : pv < b) (hb : b ≤ G.length) (hq : PartQ E cs h0 x c a b R G Q) :
  zl.cps C E C0 fL x (.int .i64 (a : Int)) (.int .i64 (b : Int)) (.int .i64 (pv : Int)) f h Q := by
 have la : a < G.length := by omega
 have lp : pv < G.length := by omega
 simp -dsimp only [zl.cps, zl.k16, ho.idx lp, ho.idx la, B.zg]
 refine ho.ld S (List.getElem?_eq_getElem lp) ?_
 refine ho.ld S (List.getElem?_eq_getElem la) ?_
 refine ho.st S (t := G[pv]) la fun h1 o1 => ?_
 refine o1.st S (t := G[a]) (by simpa using lp) fun h2 o2 => ?_
 have e1' : V.bin .sub (.int .i64 (b : Int)) (.int .i64 1) = some (.int .i64 ((b - 1 : Nat) : Int)) := zif (a := b) (b := 1) (by omega) (by omega)
 simp -dsimp only [zl.k15, add1 (show a < 4611686018427387904 by omega), e1', B.zg]
 have W := zey la lp (Nat.le_refl _) (by omega) hp1 hp2
 have hsl := zi9 la lp
 refine part_i1 S hc (G := swp G a pv la lp) o2 (by omega) (by omega) ⟨by omega, by omega, by omega, by omega, fun k _ _ q1 q2 => by omega, fun k _ _ q1 q2 => by omega⟩ fun h' m G' t P' W' o' => hq h' m G' t P' (W.trans W') o'
end
section
variable {E : z4} {X : Type} {cs : X → List AVal} {v : X → AVal} {h0 h : zb} {x f : AVal} {G : List X} {R : List (List AVal)} {c : X → X → Int} {Q : AVal → zb → Prop} {Y1 : List AVal → zb → Prop} {a b i j : Nat}
theorem eq_j (S : zd7 E cs v) (hc : zer C0 v c fL h0) (ho : Rw E cs h0 h x G R) (hl : G.length < 4611686018427387904) (hab : a < b) (p : EInv c a b G i j) (hi0 : j < i ∨ ∀ (h1 : i < G.length) (h2 : a < G.length), c G[a] G[i] < 0)
  (done : ∀ h' j', EInv c a b G i j' → j' < i → Rw E cs h0 h' x G R → Q (.int .i64 (i : Int)) h')
  (next : ∀ h' j' (hi : i < G.length) (hj : j' < G.length), EInv c a b (swp G i j' hi hj) (i + 1) (j' - 1) → i < j' → j' < b → Rw E cs h0 h' x (swp G i j' hi hj) R → Y1 [.int .i64 ((i + 1 : Nat) : Int), .int .i64 ((j' - 1 : Nat) : Int)] h') :
  zd (zt.l3 C E C0 fL Q Y1 x (.int .i64 (a : Int)) f (.int .i64 (i : Int))) [.int .i64 (j : Int)] h := by
 refine zd.intro (fun t vs hh => hh = h ∧ ∃ j' : Nat, t = j' ∧ vs = [.int .i64 (j' : Int)] ∧ EInv c a b G i j' ∧ (j' < i ∨ ∀ (h1 : i < G.length) (h2 : a < G.length), c G[a] G[i] < 0)) j ?_ ⟨rfl, j, rfl, rfl, p, hi0⟩
 rintro Y j' vs hh ⟨rfl, _, rfl, rfl, p, hi0⟩ hY
 have k1 := p.hi; have k2 := p.hij; have k3 := p.hj; have k4 := p.hb
 have la : a < G.length := by omega
 have lj : j' < G.length := by omega
 simp -dsimp only [zt.l3, zt.k2, leqN, B.zg]
 by_cases hle : i ≤ j'
 ·have li : i < G.length := by omega
  simp -dsimp only [hle, decide_true, B.gd_t, B.zea, ho.idx lj, ho.idx la, B.zg]
  refine ho.ld S (List.getElem?_eq_getElem la) ?_
  refine ho.ld S (List.getElem?_eq_getElem lj) ?_
  refine hc.call _ _ _ _ ho.le ?_
  simp -dsimp only [hle, decide_true, B.gd_t, B.zea, V.zfm, B.zh0, B.zg]
  refine B.zm (fun hd => ?_) (fun hd => ?_)
  ·have hd' : c G[a] G[j'] < 0 := by simpa using hd
   have e1' : V.bin .sub (.int .i64 (j' : Int)) (.int .i64 1) = some (.int .i64 ((j' - 1 : Nat) : Int)) := zif (a := j') (b := 1) (by omega) (by omega)
   simp -dsimp only [e1', B.zg]
   refine hY (j' - 1) _ _ (by omega) ⟨rfl, j' - 1, rfl, rfl, ⟨k4, k1, by omega, by omega, p.lo, fun k hk ha q1 q2 => ?_⟩, ?_⟩
   ·by_cases e : k = j'
    ·subst e; exact hd'
    ·exact p.hi2 k hk ha (by omega) q2
   ·rcases hi0 with h | h
    ·omega
    ·exact .inr h
  ·have hd' : ¬ c G[a] G[j'] < 0 := by simpa using hd
   have hni : c G[a] G[i] < 0 := by
    rcases hi0 with h | h
    ·omega
    ·exact h li la
   simp -dsimp only [zt.k1, gtrN, show ¬ j' < i by omega, decide_false, B.cond_false, ho.idx lj, ho.idx li, B.zg]
   refine ho.ld S (List.getElem?_eq_getElem lj) ?_
   refine ho.ld S (List.getElem?_eq_getElem li) ?_
   refine ho.st S (t := G[j']) li fun h1 o1 => ?_
   refine o1.st S (t := G[i]) (by simpa using lj) fun h2 o2 => ?_
   have e1' : V.bin .sub (.int .i64 (j' : Int)) (.int .i64 1) = some (.int .i64 ((j' - 1 : Nat) : Int)) := zif (a := j') (b := 1) (by omega) (by omega)
   simp -dsimp only [add1 (show i < 4611686018427387904 by omega), e1', B.zg]
   have hne : i ≠ j' := fun e => by subst e; exact hd' hni
   exact next h2 j' li lj (p.swap hle li lj la hni hd') (by omega) k3 o2
 ·simp -dsimp only [hle, decide_false, B.gd_t, B.ze9, B.zii, B.cond_false, zt.k1, gtrN, show j' < i by omega, decide_true, B.cond_true, B.zg]
  exact done hh j' p (by omega) ho
theorem eq_i (S : zd7 E cs v) (hc : zer C0 v c fL h0) (ho : Rw E cs h0 h x G R) (hl : G.length < 4611686018427387904) (hab : a < b) (p : EInv c a b G i j)
  (done : ∀ h' i' j', EInv c a b G i' j' → j' < i' → Rw E cs h0 h' x G R → Q (.int .i64 (i' : Int)) h')
  (next : ∀ h' i' j' (hi : i' < G.length) (hj : j' < G.length), EInv c a b (swp G i' j' hi hj) (i' + 1) (j' - 1) → a < i' → i ≤ i' → i' < j' → j' < b → Rw E cs h0 h' x (swp G i' j' hi hj) R → Y1 [.int .i64 ((i' + 1 : Nat) : Int), .int .i64 ((j' - 1 : Nat) : Int)] h') :
  zd (zt.l5 C E C0 fL Q Y1 x (.int .i64 (a : Int)) f (.int .i64 (j : Int))) [.int .i64 (i : Int)] h := by
 refine zd.intro (fun t vs hh => hh = h ∧ ∃ i' : Nat, i' + t = b ∧ i ≤ i' ∧ vs = [.int .i64 (i' : Int)] ∧ EInv c a b G i' j) (b - i) ?_ ⟨rfl, i, by have := p.hij; have := p.hj; omega, Nat.le_refl _, rfl, p⟩
 rintro Y t vs hh ⟨rfl, i', hit, hii, rfl, p⟩ hY
 have k1 := p.hi; have k2 := p.hij; have k3 := p.hj; have k4 := p.hb
 have la : a < G.length := by omega
 simp -dsimp only [zt.l5, zt.k4, leqN, B.zg]
 by_cases hle : i' ≤ j
 ·have li : i' < G.length := by omega
  simp -dsimp only [hle, decide_true, B.gd_t, B.zea, ho.idx li, ho.idx la, B.zg]
  refine ho.ld S (List.getElem?_eq_getElem la) ?_
  refine ho.ld S (List.getElem?_eq_getElem li) ?_
  refine hc.call _ _ _ _ ho.le ?_
  simp -dsimp only [hle, decide_true, B.gd_t, B.zea, V.zfm, V.zkh, B.zh0, B.zg]
  refine B.zm (fun hd => ?_) (fun hd => ?_)
  ·have hd' : ¬ c G[a] G[i'] < 0 := by simpa using hd
   simp -dsimp only [add1 (show i' < 4611686018427387904 by omega), B.zg]
   refine hY (b - (i' + 1)) _ _ (by omega) ⟨rfl, i' + 1, by omega, by omega, rfl, ⟨k4, by omega, k3, by omega, fun k hk ha q1 q2 => ?_, p.hi2⟩⟩
   by_cases e : k = i'
   ·subst e; exact hd'
   ·exact p.lo k hk ha q1 (by omega)
  ·have hd' : c G[a] G[i'] < 0 := by simpa using hd
   exact eq_j S hc ho hl hab p (.inr fun _ _ => hd') (fun h' j' p' hlt o' => done h' i' j' p' hlt o') fun h' j' hi hj p' h1 h2 o' => next h' i' j' hi hj p' k1 hii h1 h2 o'
 ·simp -dsimp only [hle, decide_false, B.gd_t, B.ze9, B.zii, B.cond_false]
  exact eq_j S hc ho hl hab p (.inl (by omega)) (fun h' j' p' hlt o' => done h' i' j' p' hlt o') fun h' j' hi hj p' h1 h2 o' => next h' i' j' hi hj p' k1 hii h1 h2 o'
theorem eq_main (S : zd7 E cs v) (hc : zer C0 v c fL h0) (ho : Rw E cs h0 h x G R) (hl : G.length < 4611686018427387904) (hab : a < b) (p : EInv c a b G i j)
  (hq : ∀ h' i' j' G', EInv c a b G' i' j' → j' < i' → zc9 (a + 1) b G G' → Rw E cs h0 h' x G' R → Q (.int .i64 (i' : Int)) h') :
  zd (zt.l6 C E C0 fL Q x (.int .i64 (a : Int)) f) [.int .i64 (i : Int), .int .i64 (j : Int)] h := by
 refine zd.intro (fun t vs hh => ∃ (i' j' : Nat) (G' : List X), i' + t = b ∧ vs = [.int .i64 (i' : Int), .int .i64 (j' : Int)] ∧ zc9 (a + 1) b G G' ∧ EInv c a b G' i' j' ∧ Rw E cs h0 hh x G' R) (b - i) ?_ ⟨i, j, G, by have := p.hij; have := p.hj; omega, rfl, zc9.refl _ _ _, p, ho⟩
 rintro Y t vs hh ⟨i', j', G', hit, rfl, W, p, o⟩ hY
 have hlen := W.len
 simp -dsimp only [zt.l6]
 refine eq_i S hc o (by omega) hab p (fun h' i2 j2 p2 hlt o2 => hq h' i2 j2 G' p2 hlt W o2) fun h' i2 j2 hi hj p2 h1 h2 h3 h4 o2 => ?_
 exact hY (b - (i2 + 1)) _ _ (by omega) ⟨i2 + 1, j2 - 1, _, by omega, rfl, W.trans (zey hi hj (by omega) (by omega) (by omega) h4), p2, o2⟩
theorem zl9 (S : zd7 E cs v) (hc : zer C0 v c fL h0) (ho : Rw E cs h0 h x G R) (hl : G.length < 4611686018427387904) {pv : Nat} (hp1 : a ≤ pv) (hp2 : pv < b) (hb : b ≤ G.length)
  (hq : ∀ h' i' j' G', EInv c a b G' i' j' → j' < i' → zc9 a b G G' → (∀ (h1 : a < G'.length) (h2 : pv < G.length), G'[a] = G[pv]) → Rw E cs h0 h' x G' R → Q (.int .i64 (i' : Int)) h') :
  zt.cps C E C0 fL x (.int .i64 (a : Int)) (.int .i64 (b : Int)) (.int .i64 (pv : Int)) f h Q := by
 have la : a < G.length := by omega
 have lp : pv < G.length := by omega
 simp -dsimp only [zt.cps, zt.k8, ho.idx lp, ho.idx la, B.zg]
 refine ho.ld S (List.getElem?_eq_getElem lp) ?_
 refine ho.ld S (List.getElem?_eq_getElem la) ?_
 refine ho.st S (t := G[pv]) la fun h1 o1 => ?_
 refine o1.st S (t := G[a]) (by simpa using lp) fun h2 o2 => ?_
 have e1' : V.bin .sub (.int .i64 (b : Int)) (.int .i64 1) = some (.int .i64 ((b - 1 : Nat) : Int)) := zif (a := b) (b := 1) (by omega) (by omega)
 simp -dsimp only [zt.k7, add1 (show a < 4611686018427387904 by omega), e1', B.zg]
 have W := zey la lp (Nat.le_refl _) (by omega) hp1 hp2
 have hsl := zi9 la lp
 refine eq_main S hc (G := swp G a pv la lp) o2 (by omega) (by omega) ⟨by omega, by omega, by omega, by omega, fun k _ _ q1 q2 => by omega, fun k _ _ q1 q2 => by omega⟩ fun h' i' j' G' p' hlt W' o' => hq h' i' j' G' p' hlt (W.trans (W'.mono (by omega) (Nat.le_refl _))) (fun h1 h2 => ?_) o'
 rw [W'.same (.inl (by omega)) h1 (by omega), zgg la lp (by omega) la]
 split
 ·rename_i e; simp only [e]
 ·rw [if_pos rfl]
end
section
variable {X : Type} {c : X → X → Int} {a n lo r ch : Nat} {G : List X}
end
section
variable {E : z4} {X : Type} {cs : X → List AVal} {v : X → AVal} {h0 h : zb} {x f : AVal} {G : List X} {R : List (List AVal)} {c : X → X → Int} {Q : AVal → zb → Prop} {Y1 : List AVal → zb → Prop} {a n lo r ch : Nat}
theorem sift_k1 (S : zd7 E cs v) (W : Weak (zeu c)) (hc : zer C0 v c fL h0) (ho : Rw E cs h0 h x G R) (hl : G.length < 1000000000) (p : SInv c a n lo r G) (hlo : lo ≤ r) (hch : ch < n) (hp : (ch - 1) / 2 = r) (hc0 : 0 < ch)
  (hmax : ∀ k, 0 < k → k < n → (k - 1) / 2 = r → (h1 : a + ch < G.length) → (h2 : a + k < G.length) → ¬ c G[a + ch] G[a + k] < 0)
  (done : ∀ h', Heap c a n lo G → Rw E cs h0 h' x G R → Q (.tup []) h')
  (next : ∀ h' (hr : a + r < G.length) (hcl : a + ch < G.length), SInv c a n lo ch (swp G (a + r) (a + ch) hr hcl) → Rw E cs h0 h' x (swp G (a + r) (a + ch) hr hcl) R → Y1 [.int .i64 (ch : Int)] h') :
  zcw.k1 C E C0 fL Q Y1 x (.int .i64 (n : Int)) (.int .i64 (a : Int)) f (.int .i64 (r : Int)) (.int .i64 (ch : Int)) h := by
 have hlen := p.len
 have lr : a + r < G.length := by omega
 have lc : a + ch < G.length := by omega
 have ar := zj7 (a := a) (b := r) (by omega)
 have ac := zj7 (a := a) (b := ch) (by omega)
 simp -dsimp only [zcw.k1, ar, ac, ho.idx lr, ho.idx lc, B.zg]
 refine ho.ld S (List.getElem?_eq_getElem lr) ?_
 refine ho.ld S (List.getElem?_eq_getElem lc) ?_
 refine hc.call _ _ _ _ ho.le ?_
 simp -dsimp only [V.zfm, V.zkh, B.zg]
 refine B.zm (fun hd => ?_) (fun hd => ?_)
 ·have hd' : ¬ c G[a + r] G[a + ch] < 0 := by simpa using hd
  refine done h (p.done fun k k0 hk hkp h1 h2 => ?_) ho
  have := W.zox (a := G[a + r]) (b := G[a + ch]) (c := G[a + k]) (by unfold zeu; exact decide_eq_false hd') (by unfold zeu; exact decide_eq_false (hmax k k0 hk hkp lc h2))
  unfold zeu at this; exact of_decide_eq_false this
 ·have hd' : c G[a + r] G[a + ch] < 0 := by simpa using hd
  simp -dsimp only [ar, ac, ho.idx lr, ho.idx lc, B.zg]
  refine ho.ld S (List.getElem?_eq_getElem lc) ?_
  refine ho.ld S (List.getElem?_eq_getElem lr) ?_
  refine ho.st S (t := G[a + ch]) lr fun h1 o1 => ?_
  refine o1.st S (t := G[a + r]) (by simpa using lc) fun h2 o2 => ?_
  exact next h2 lr lc (p.step W hlo hch hp hc0 lr lc hd' fun k k0 hk hkp h2 => hmax k k0 hk hkp lc h2) o2
theorem zm3 (S : zd7 E cs v) (W : Weak (zeu c)) (hc : zer C0 v c fL h0) (ho : Rw E cs h0 h x G R) (hl : G.length < 1000000000) (p : SInv c a n lo r G) (hlo : lo ≤ r) (hrn : r ≤ n) {b : Nat} (hb : a + n ≤ b)
  (hq : ∀ h' G', Heap c a n lo G' → zc9 a b G G' → Rw E cs h0 h' x G' R → Q (.tup []) h') :
  zcw.cps C E C0 fL x (.int .i64 (r : Int)) (.int .i64 (n : Int)) (.int .i64 (a : Int)) f h Q := by
 simp -dsimp only [zcw.cps]
 refine zd.intro (fun t vs hh => ∃ (r' : Nat) (G' : List X), r' + t = n ∧ vs = [.int .i64 (r' : Int)] ∧ lo ≤ r' ∧ SInv c a n lo r' G' ∧ zc9 a b G G' ∧ Rw E cs h0 hh x G' R) (n - r) ?_ ⟨r, G, by omega, rfl, hlo, p, zc9.refl _ _ _, ho⟩
 rintro Y t vs hh ⟨r', G', hrt, rfl, hlo', p', W', o⟩ hY
 have hlen := W'.len
 have pl := p'.len
 have e1 : V.bin .mul (.int .i64 2) (.int .i64 (r' : Int)) = some (.int .i64 ((2 * r' : Nat) : Int)) := mulN (a := 2) (b := r') (by omega)
 simp -dsimp only [zcw.l4, zcw.k3, e1, add1 (show 2 * r' < 4611686018427387904 by omega), geqN, B.zg]
 refine B.zm (fun hd => ?_) (fun hd => ?_)
 ·rw [decide_eq_true_eq] at hd
  exact hq hh G' (p'.done fun k k0 hk hkp _ _ => by omega) W' o
 ·rw [decide_eq_false_iff_not] at hd
  have fin : ∀ ch, ch < n → (ch - 1) / 2 = r' → 0 < ch → (∀ k, 0 < k → k < n → (k - 1) / 2 = r' → (h1 : a + ch < G'.length) → (h2 : a + k < G'.length) → ¬ c G'[a + ch] G'[a + k] < 0) → zcw.k1 C E C0 fL Q Y x (.int .i64 (n : Int)) (.int .i64 (a : Int)) f (.int .i64 (r' : Int)) (.int .i64 (ch : Int)) hh := fun ch c1 c2 c3 c4 =>
   sift_k1 S W hc o (by omega) p' hlo' c1 c2 c3 c4 (fun h' hp o' => hq h' G' hp W' o') fun h' hr hcl p2 o2 => hY (n - ch) _ _ (by omega) ⟨ch, _, by omega, rfl, by omega, p2, W'.trans (zey hr hcl (by omega) (by omega) (by omega) (by omega)), o2⟩
  have irr : ∀ t : X, ¬ c t t < 0 := fun t => by
   have := W.irr t; unfold zeu at this; exact of_decide_eq_false this
  have a1 := zj7 (a := a) (b := 2 * r' + 1) (by omega)
  simp -dsimp only [zcw.k2, add1 (show 2 * r' + 1 < 4611686018427387904 by omega), lssN, B.zg]
  by_cases h2 : 2 * r' + 1 + 1 < n
  ·have l1 : a + (2 * r' + 1) < G'.length := by omega
   have l2 : a + (2 * r' + 1) + 1 < G'.length := by omega
   simp -dsimp only [h2, decide_true, B.gd_t, B.zea, a1, add1 (show a + (2 * r' + 1) < 4611686018427387904 by omega), o.idx l1, o.idx l2, B.zg]
   refine o.ld S (List.getElem?_eq_getElem l1) ?_
   refine o.ld S (List.getElem?_eq_getElem l2) ?_
   refine hc.call _ _ _ _ o.le ?_
   simp -dsimp only [h2, decide_true, B.gd_t, B.zea, V.zfm, B.zh0, B.zg]
   refine B.zm (fun hf => ?_) (fun hf => ?_)
   ·have hf' : c G'[a + (2 * r' + 1)] G'[a + (2 * r' + 1) + 1] < 0 := by simpa using hf
    simp -dsimp only [add1 (show 2 * r' + 1 < 4611686018427387904 by omega), B.zg]
    refine fin (2 * r' + 1 + 1) h2 (by omega) (by omega) fun k k0 hk hkp h1 h3 => ?_
    rcases (show k = 2 * r' + 1 ∨ k = 2 * r' + 1 + 1 by omega) with rfl | rfl
    ·have := W.asym (a := G'[a + (2 * r' + 1)]) (b := G'[a + (2 * r' + 1) + 1]) (by unfold zeu; exact decide_eq_true hf')
     unfold zeu at this; exact of_decide_eq_false this
    ·exact irr _
   ·have hf' : ¬ c G'[a + (2 * r' + 1)] G'[a + (2 * r' + 1) + 1] < 0 := by simpa using hf
    refine fin (2 * r' + 1) (by omega) (by omega) (by omega) fun k k0 hk hkp h1 h3 => ?_
    rcases (show k = 2 * r' + 1 ∨ k = 2 * r' + 1 + 1 by omega) with rfl | rfl
    ·exact irr _
    ·exact hf'
  ·simp -dsimp only [h2, decide_false, B.gd_t, B.ze9, B.zii, B.cond_false]
   refine fin (2 * r' + 1) (by omega) (by omega) (by omega) fun k k0 hk hkp h1 h3 => ?_
   have : k = 2 * r' + 1 := by omega
   subst this; exact irr _
end
section
variable {X : Type} {c : X → X → Int} {a b n lo : Nat} {G G' : List X}
end
abbrev SiftI (C : CSem) (E : z4) (C0 : CSem) (fL : Nat) (f1 : Nat) : Prop := ∀ (v0 v1 v2 v3 v4 : AVal) (h : zb) (Q : AVal → zb → Prop), zcw.cps C E C0 fL v0 v1 v2 v3 v4 h (dn Q) → C f1 [v0, v1, v2, v3, v4] h Q
section
variable {E : z4} {X : Type} {cs : X → List AVal} {v : X → AVal} {h0 h : zb} {x f : AVal} {G : List X} {R : List (List AVal)} {c : X → X → Int} {Q : AVal → zb → Prop} {a b : Nat}
theorem insertion_srt (S : zd7 E cs v) (W : Weak (zeu c)) (hc : zer C0 v c fL h0) (ho : Rw E cs h0 h x G R) (hl : G.length ≤ 100000000) (hab : a ≤ b) (hb : b ≤ G.length)
  (hq : ∀ h' G', zc9 a b G G' → Srt c a b G' → Rw E cs h0 h' x G' R → Q (.tup []) h') : zcr.cps C E C0 fL x (.int .i64 (a : Int)) (.int .i64 (b : Int)) f h Q := by
 have e0 : ∀ (L : List X), (L.map (fun y => (y, 0))).map (fun p : X × Nat => cs p.1) = L.map cs := fun L => by rw [List.map_map]; rfl
 have e1 : ∀ (L : List (X × Nat)), L.map (fun p : X × Nat => cs p.1) = (L.map (·.1)).map cs := fun L => by rw [List.map_map]; rfl
 have lt : (G.take a).length = a := by rw [List.length_take]; omega
 have lm : ((G.take b).drop a).length = b - a := by rw [List.length_drop, List.length_take]; omega
 refine znn (P := (G.take a).map (fun y => (y, 0))) (M := ((G.take b).drop a).zipIdx) (U := (G.drop b).map (fun y => (y, 0))) S W ?_ ?_ hc ?_ ?_ ?_ ?_ (R := R) (h0 := h0)
 ·simp only [List.length_append, List.length_map, List.length_zipIdx, lt, lm, List.length_drop]; omega
 ·have : (((G.take b).drop a).zipIdx.map (·.2)).Pairwise (· < ·) := by
   rw [List.zipIdx_map_snd]; exact List.pairwise_lt_range'
  rwa [List.pairwise_map] at this
 ·rw [List.length_map, lt]
 ·rw [List.length_map, List.length_zipIdx, lt, lm]; omega
 ·unfold Rw
  rw [List.map_append, List.map_append, e0, e0, e1, List.zipIdx_map_fst, ← List.map_append, ← List.map_append, ← split3 hab G]
  exact ho
 ·intro h' M' hp hs ho'
  have hp' : (M'.map (·.1)).Perm ((G.take b).drop a) := by
   have := hp.map (·.1); rwa [List.zipIdx_map_fst] at this
  refine hq h' (G.take a ++ (M'.map (·.1) ++ G.drop b)) (within_mid hab hb hp') (srt_mid hab hb (by rw [hp'.length_eq, lm]) ?_) ?_
  ·rw [List.pairwise_map]
   refine hs.imp fun {x y} hxy => ?_
   have hx : zeu c y.1 x.1 = false := hxy.elim (fun h => W.asym h) fun ⟨h, _⟩ => h
   unfold zeu at hx; exact of_decide_eq_false hx
  ·unfold Rw at ho' ⊢
   rw [List.map_append, List.map_append, e0, e0, e1] at ho'
   rwa [List.map_append, List.map_append]
theorem heapSort_spec {f1 : Nat} (is : SiftI C E C0 fL f1) (S : zd7 E cs v) (W : Weak (zeu c)) (hc : zer C0 v c fL h0) (ho : Rw E cs h0 h x G R) (hl : G.length ≤ 100000000) (hab : a < b) (hb : b ≤ G.length)
  (hq : ∀ h' G', zc9 a b G G' → Srt c a b G' → Rw E cs h0 h' x G' R → Q (.tup []) h') : zcx.cps C E C0 fL f1 x (.int .i64 (a : Int)) (.int .i64 (b : Int)) f h Q := by
 have e1 := zif (a := b) (b := a) (by omega) (by omega)
 obtain ⟨n, hn⟩ : ∃ n, n = b - a := ⟨_, rfl⟩
 have e2 : V.bin .quo (.int .i64 ((n - 1 : Nat) : Int)) (.int .i64 2) = some (.int .i64 (((n - 1) / 2 : Nat) : Int)) := by
  rw [V.zoo _ _ _ (by omega), show ((n - 1 : Nat) : Int).tdiv 2 = (((n - 1) / 2 : Nat) : Int) from rfl, wrap_i64 (by omega) (by omega)]
 have m1 : ∀ k : Nat, k ≤ 100000000 → V.bin .sub (.int .i64 (k : Int)) (.int .i64 1) = some (.int .i64 ((k : Int) - 1)) := fun k hk => by
  rw [V.zff, wrap_i64 (by omega) (by omega)]
 have m2 : ∀ k : Nat, k ≤ 100000000 → V.bin .sub (.int .i64 ((k + 1 : Nat) - 1 : Int)) (.int .i64 1) = some (.int .i64 ((k : Int) - 1)) := fun k hk => by
  rw [V.zff, wrap_i64 (by omega) (by omega)]; congr 2; omega
 simp -dsimp only [zcx.cps, zcx.k5, e1, B.zg]
 rw [← hn]
 simp -dsimp only [sub1 (show 1 ≤ n by omega) (by omega), e2, B.zg]
 refine zd.intro (fun t vs hh => ∃ (G' : List X), vs = [.int .i64 ((t : Int) - 1)] ∧ t ≤ n ∧ Heap c a n t G' ∧ zc9 a b G G' ∧ Rw E cs h0 hh x G' R) ((n - 1) / 2 + 1) ?_ ⟨G, by congr 2; omega, by omega, Heap.none_ (by omega), zc9.refl _ _ _, ho⟩
 rintro Y t vs hh ⟨G1, rfl, htn, p1, W1, o1⟩ hY
 have l1 := W1.len
 simp -dsimp only [zcx.l4, zcx.k3, V.zkw, B.zg]
 cases t with
 | succ k =>
  rw [show decide ((0 : Int) ≤ ((k + 1 : Nat) : Int) - 1) = true by simp, B.cond_true, show (((k + 1 : Nat) : Int) - 1) = (k : Int) by omega]
  refine is _ _ _ _ _ _ _ (zm3 (b := b) S W hc o1 (by omega) (p1.sinv (by omega)) (Nat.le_refl _) (by omega) (by omega) fun h2 G2 p2 w2 o2 => zbi ?_)
  simp -dsimp only [m1 k (by omega), B.zg]
  exact hY k _ _ (by omega) ⟨G2, rfl, by omega, p2, W1.trans w2, o2⟩
 | zero =>
  rw [show decide ((0 : Int) ≤ ((0 : Nat) : Int) - 1) = false by simp, B.cond_false]
  simp -dsimp only [m1 n (by omega), B.zg]
  refine zd.intro (fun t vs hh => ∃ (G' : List X), vs = [.int .i64 ((t : Int) - 1)] ∧ t ≤ n ∧ Heap c a t 0 G' ∧ Cut c a b a (a + t) G' ∧ zc9 a b G G' ∧ Rw E cs h0 hh x G' R) n ?_ ⟨G1, rfl, Nat.le_refl _, p1, fun p q _ _ h3 h4 => by omega, W1, o1⟩
  rintro Z t vs hh ⟨G2, rfl, htn, p2, c2, W2, o2⟩ hZ
  have l2 := W2.len
  simp -dsimp only [zcx.l2, zcx.k1, V.zkw, B.zg]
  cases t with
  | zero =>
   rw [show decide ((0 : Int) ≤ ((0 : Nat) : Int) - 1) = false by simp, B.cond_false]
   exact hq hh G2 W2 (c2.small (by omega)) o2
  | succ k =>
   rw [show decide ((0 : Int) ≤ ((k + 1 : Nat) : Int) - 1) = true by simp, B.cond_true, show (((k + 1 : Nat) : Int) - 1) = (k : Int) by omega]
   have ac := zj7 (a := a) (b := k) (by omega)
   have la : a < G2.length := by omega
   have lk : a + k < G2.length := by omega
   simp -dsimp only [ac, o2.idx la, o2.idx lk, B.zg]
   refine o2.ld S (List.getElem?_eq_getElem lk) ?_
   refine o2.ld S (List.getElem?_eq_getElem la) ?_
   refine o2.swap S la lk fun h3 o3 => ?_
   have hsl := zi9 la lk
   have w3 : zc9 a (a + (k + 1)) G2 (swp G2 a (a + k) la lk) := zey la lk (by omega) (by omega) (by omega) (by omega)
   have c3 := c2.within w3 (Nat.le_refl _) (by omega)
   have c4 : Cut c a b a (a + k) (swp G2 a (a + k) la lk) := fun p q h1 h2 h3 h4 h5 h6 => by
    by_cases e : a + (k + 1) ≤ q
    ·exact c3 p q h1 h2 h3 (.inr e) h5 h6
    ·have : q = a + k := by omega
     subst this
     rw [zgg la lk h6 (by omega), if_pos rfl, zgg la lk h5 (by omega), if_neg (by omega)]
     split
     ·exact p2.root W (by omega) k (by omega)
     ·have := p2.root W (by omega) (p - a) (by omega)
      simpa only [show a + (p - a) = p by omega] using this
   have s3 : SInv c a k 0 0 (swp G2 a (a + k) la lk) := ⟨by omega, fun j j0 hj _ hne h1 h2 => by
    rw [zgg la lk h1 (by omega), if_neg (by omega), if_neg (by omega), zgg la lk h2 (by omega), if_neg (by omega), if_neg (by omega)]
    exact p2 j j0 (by omega) (by omega) (by omega) (by omega), fun _ h => by omega⟩
   refine is _ _ _ _ _ _ _ (zm3 (r := 0) (b := a + k) S W hc o3 (by omega) s3 (Nat.le_refl _) (by omega) (by omega) fun h4 G4 p4 w4 o4 => zbi ?_)
   simp -dsimp only [m1 k (by omega), B.zg]
   exact hZ k _ _ (by omega) ⟨G4, rfl, by omega, p4, c4.within w4 (Nat.le_refl _) (by omega), (W2.trans (w3.mono (Nat.le_refl _) (by omega))).trans (w4.mono (Nat.le_refl _) (by omega)), o4⟩
end
section
variable {X : Type} {c : X → X → Int} {A B j : Nat} {G : List X}
end
section
variable {E : z4} {X : Type} {cs : X → List AVal} {v : X → AVal} {h0 h : zb} {x f : AVal} {G : List X} {R : List (List AVal)} {c : X → X → Int} {Q : AVal → zb → Prop} {Y1 : List AVal → zb → Prop} {a b i s : Nat}
theorem pis_k3 (S : zd7 E cs v) (hc : zer C0 v c fL h0) (ho : Rw E cs h0 h x G R) (hl : G.length ≤ 100000000) (hi0 : 0 < i) (hi : i < b) (hb : b ≤ G.length) (hs : s ≤ 5)
  (hY : ∀ h' G', zc9 i b G G' → Rw E cs h0 h' x G' R → Y1 [.int .i64 (i : Int), .int .i64 ((s + 1 : Nat) : Int)] h') :
  zh.k3 C E C0 fL Q Y1 x (.int .i64 (a : Int)) (.int .i64 (b : Int)) f (.int .i64 (i : Int)) (.int .i64 (s : Int)) h := by
 have hge : V.bin .geq (.int .i64 ((b - i : Nat) : Int)) (.int .i64 2) = some (.bool (decide (2 ≤ b - i))) := geqN (b := 2)
 simp -dsimp only [zh.k3, zif (show i ≤ b by omega) (by omega), hge, add1 (show s < 4611686018427387904 by omega), add1 (show i < 4611686018427387904 by omega), B.zg]
 refine B.zm (fun hd => ?_) (fun hd => ?_)
 rotate_left
 ·simp -dsimp only [add1 (show s < 4611686018427387904 by omega), B.zg]
  exact hY h G (zc9.refl _ _ _) ho
 rw [decide_eq_true_eq] at hd
 simp -dsimp only [add1 (show i < 4611686018427387904 by omega), B.zg]
 refine zd.intro (fun t vs hh => ∃ (j : Nat) (G' : List X), j + t = b ∧ vs = [.int .i64 (j : Int)] ∧ i < j ∧ zc9 i b G G' ∧ Rw E cs h0 hh x G' R) (b - (i + 1)) ?_ ⟨i + 1, G, by omega, rfl, by omega, zc9.refl _ _ _, ho⟩
 rintro Y t vs hh ⟨j, G1, hjt, rfl, hij, W1, o⟩ hY2
 have hlen := W1.len
 simp -dsimp only [zh.l2, zh.k1, lssN, B.zg]
 refine B.zm (fun he => ?_) (fun he => ?_)
 ·rw [decide_eq_true_eq] at he
  have lj : j < G1.length := by omega
  have lj1 : j - 1 < G1.length := by omega
  have sj := sub1 (a := j) (by omega) (by omega)
  simp -dsimp only [sj, o.idx lj, o.idx lj1, B.zg]
  refine o.ld S (List.getElem?_eq_getElem lj) ?_
  refine o.ld S (List.getElem?_eq_getElem lj1) ?_
  refine hc.call _ _ _ _ o.le ?_
  simp -dsimp only [V.zfm, V.zkh, B.zg]
  refine B.zm (fun hd => ?_) (fun hd => ?_)
  ·simp -dsimp only [add1 (show s < 4611686018427387904 by omega), B.zg]
   exact hY hh G1 W1 o
  ·simp -dsimp only [sj, o.idx lj, o.idx lj1, B.zg]
   refine o.ld S (List.getElem?_eq_getElem lj1) ?_
   refine o.ld S (List.getElem?_eq_getElem lj) ?_
   refine o.swap S lj lj1 fun h2 o2 => ?_
   simp -dsimp only [add1 (show j < 4611686018427387904 by omega), B.zg]
   exact hY2 (b - (j + 1)) _ _ (by omega) ⟨j + 1, _, by omega, rfl, by omega, W1.trans (zey lj lj1 (by omega) (by omega) (by omega) (by omega)), o2⟩
 ·simp -dsimp only [add1 (show s < 4611686018427387904 by omega), B.zg]
  exact hY hh G1 W1 o
theorem pis_k6 (S : zd7 E cs v) (W : Weak (zeu c)) (hc : zer C0 v c fL h0) (ho : Rw E cs h0 h x G R) (hl : G.length ≤ 100000000) (hai : a < i) (hi : i < b) (hb : b ≤ G.length) (hs : s ≤ 5) (hp : Pre c a b G) (h1 : But1 c a i (i - 1) G)
  (hY : ∀ h' G', zc9 a b G G' → Srt c a i G' → Rw E cs h0 h' x G' R → Y1 [.int .i64 (i : Int), .int .i64 ((s + 1 : Nat) : Int)] h') :
  zh.k6 C E C0 fL Q Y1 x (.int .i64 (a : Int)) (.int .i64 (b : Int)) f (.int .i64 (i : Int)) (.int .i64 (s : Int)) h := by
 have fin : ∀ {hh G1}, Rw E cs h0 hh x G1 R → zc9 a b G G1 → Srt c a i G1 → zh.k3 C E C0 fL Q Y1 x (.int .i64 (a : Int)) (.int .i64 (b : Int)) f (.int .i64 (i : Int)) (.int .i64 (s : Int)) hh := fun {hh G1} o W1 s1 => by
  have l1 := W1.len
  refine pis_k3 S hc o (by omega) (by omega) hi (by omega) hs fun h2 G2 W2 o2 => hY h2 G2 (W1.trans (W2.mono (by omega) (Nat.le_refl _))) (fun p q h1 h2 h3 h4 h5 => ?_) o2
  have l2 := W2.len
  rw [W2.same (k := p) (.inl (by omega)) h4 (by omega), W2.same (k := q) (.inl (by omega)) h5 (by omega)]
  exact s1 p q h1 h2 h3 _ _
 have hge : V.bin .geq (.int .i64 ((i - a : Nat) : Int)) (.int .i64 2) = some (.bool (decide (2 ≤ i - a))) := geqN (b := 2)
 simp -dsimp only [zh.k6, zif (show a ≤ i by omega) (by omega), hge, sub1 (show 1 ≤ i by omega) (by omega), B.zg]
 refine B.zm (fun hd => ?_) (fun hd => ?_)
 ·simp -dsimp only [sub1 (show 1 ≤ i by omega) (show i < 4611686018427387904 by omega), B.zg]
  refine zd.intro (fun t vs hh => ∃ (G' : List X), vs = [.int .i64 (t : Int)] ∧ a ≤ t ∧ t < i ∧ But1 c a i t G' ∧ zc9 a b G G' ∧ Rw E cs h0 hh x G' R) (i - 1) ?_ ⟨G, rfl, by omega, by omega, h1, zc9.refl _ _ _, ho⟩
  rintro Y j vs hh ⟨G1, rfl, haj, hji, b1, W1, o⟩ hY2
  have hlen := W1.len
  have lj : j < G1.length := by omega
  have hg1 : V.bin .geq (.int .i64 (j : Int)) (.int .i64 1) = some (.bool (decide (1 ≤ j))) := geqN (b := 1)
  simp -dsimp only [zh.l5, zh.k4, hg1, B.zg]
  refine B.zm (fun he => ?_) (fun he => ?_)
  ·rw [decide_eq_true_eq] at he
   have lj1 : j - 1 < G1.length := by omega
   have sj := sub1 (a := j) (by omega) (by omega)
   simp -dsimp only [sj, o.idx lj, o.idx lj1, B.zg]
   refine o.ld S (List.getElem?_eq_getElem lj) ?_
   refine o.ld S (List.getElem?_eq_getElem lj1) ?_
   refine hc.call _ _ _ _ o.le ?_
   simp -dsimp only [V.zfm, V.zkh, B.zg]
   refine B.zm (fun hd => ?_) (fun hd => ?_)
   ·exact fin o W1 (b1.done W lj (.inr fun _ => by simpa using hd))
   ·have hlt : c G1[j] G1[j - 1] < 0 := by simpa using hd
    have haj2 : a < j := by
     rcases Nat.lt_or_ge a j with k | k
     ·exact k
     ·have : j = a := by omega
      subst this
      exact absurd hlt ((hp.within W1) (by omega) j (Nat.le_refl _) (by omega) _ _)
    simp -dsimp only [sj, o.idx lj, o.idx lj1, B.zg]
    refine o.ld S (List.getElem?_eq_getElem lj1) ?_
    refine o.ld S (List.getElem?_eq_getElem lj) ?_
    refine o.swap S lj lj1 fun h2 o2 => ?_
    exact hY2 (j - 1) _ _ (by omega) ⟨_, rfl, by omega, by omega, b1.step W haj2 lj lj1 hlt, W1.trans (zey lj lj1 (by omega) (by omega) (by omega) (by omega)), o2⟩
  ·rw [decide_eq_false_iff_not] at he
   exact fin o W1 (b1.done W lj (.inl (by omega)))
 ·rw [decide_eq_false_iff_not] at hd
  exact fin ho (zc9.refl _ _ _) fun p q _ _ _ _ _ => by omega
theorem zja (S : zd7 E cs v) (W : Weak (zeu c)) (hc : zer C0 v c fL h0) (ho : Rw E cs h0 h x G R) (hl : G.length ≤ 100000000) (hab : a < b) (hb : b ≤ G.length) (hp : Pre c a b G)
  (hq : ∀ h' G' t, zc9 a b G G' → (t = true → Srt c a b G') → Rw E cs h0 h' x G' R → Q (.bool t) h') :
  zh.cps C E C0 fL x (.int .i64 (a : Int)) (.int .i64 (b : Int)) f h Q := by
 simp -dsimp only [zh.cps, add1 (show a < 4611686018427387904 by omega), B.zg]
 refine zd.intro (fun t vs hh => ∃ (s i : Nat) (G' : List X), s + t = 5 ∧ vs = [.int .i64 (i : Int), .int .i64 (s : Int)] ∧ a < i ∧ i ≤ b ∧ Srt c a i G' ∧ zc9 a b G G' ∧ Rw E cs h0 hh x G' R) 5 ?_ ⟨0, a + 1, G, rfl, rfl, by omega, by omega, fun p q _ _ _ _ _ => by omega, zc9.refl _ _ _, ho⟩
 rintro Y t vs hh ⟨s, i, G1, hst, rfl, hai, hib, s1, W1, o⟩ hY
 have hl1 := W1.len
 have h5 : V.bin .lss (.int .i64 (s : Int)) (.int .i64 5) = some (.bool (decide (s < 5))) := lssN (b := 5)
 simp -dsimp only [zh.l12, zh.k11, h5, B.zg]
 refine B.zm (fun hd => ?_) (fun hd => hq hh G1 false W1 (fun h => by cases h) o)
 rw [decide_eq_true_eq] at hd
 refine zd.intro (fun t vs hh => ∃ (i : Nat), i + t = b ∧ vs = [.int .i64 (i : Int)] ∧ a < i ∧ Srt c a i G1 ∧ Rw E cs h0 hh x G1 R) (b - i) ?_ ⟨i, by omega, rfl, hai, s1, o⟩
 rintro Z t vs hh ⟨i, hit, rfl, hai, s2, o2⟩ hZ
 simp -dsimp only [zh.l10, zh.k9, lssN, B.zg]
 by_cases hd2 : i < b
 ·have li : i < G1.length := by omega
  have li1 : i - 1 < G1.length := by omega
  have si := sub1 (a := i) (by omega) (by omega)
  simp -dsimp only [hd2, decide_true, B.gd_t, B.zea, si, o2.idx li, o2.idx li1, B.zg]
  refine o2.ld S (List.getElem?_eq_getElem li) ?_
  refine o2.ld S (List.getElem?_eq_getElem li1) ?_
  refine hc.call _ _ _ _ o2.le ?_
  simp -dsimp only [hd2, decide_true, B.gd_t, B.zea, V.zfm, V.zkh, B.zh0, B.zg]
  refine B.zm (fun he => ?_) (fun he => ?_)
  ·have hnl : ¬ c G1[i] G1[i - 1] < 0 := by simpa using he
   simp -dsimp only [add1 (show i < 4611686018427387904 by omega), B.zg]
   refine hZ (t - 1) _ _ (by omega) ⟨i + 1, by omega, rfl, by omega, ?_, o2⟩
   exact But1.done W (j := i) (fun p q h1 h2 h3 h4 h5 h6 => s2 p q h1 h2 (by omega) h5 h6) li (.inr fun _ => hnl)
  ·have hlt : c G1[i] G1[i - 1] < 0 := by simpa using he
   have hne : V.bin .eql (.int .i64 (i : Int)) (.int .i64 (b : Int)) = some (.bool false) := by rw [V.zje]; simp; omega
   simp -dsimp only [hne, B.zg, B.cond_false, zh.k8, zh.k7, zif (show a ≤ b by omega) (show b < 4611686018427387904 by omega)]
   rw [show V.bin .lss (.int .i64 ((b - a : Nat) : Int)) (.int .i64 50) = some (.bool (decide (b - a < 50))) from lssN (b := 50)]
   simp -dsimp only [B.zg]
   refine B.zm (fun hf => hq hh G1 false W1 (fun h => by cases h) o2) (fun hf => ?_)
   simp -dsimp only [zh.k7, si, o2.idx li, o2.idx li1, B.zg]
   refine o2.ld S (List.getElem?_eq_getElem li1) ?_
   refine o2.ld S (List.getElem?_eq_getElem li) ?_
   refine o2.swap S li li1 fun h3 o3 => ?_
   have hsl := zi9 li li1
   have w3 : zc9 a b G1 (swp G1 i (i - 1) li li1) := zey li li1 (by omega) (by omega) (by omega) (by omega)
   have W3 := W1.trans w3
   refine pis_k6 S W hc o3 (by omega) hai hd2 (by omega) (by omega) (hp.within W3) (fun p q h1 h2 h3 h4 h5 h6 => ?_) fun h4 G4 W4 s4 o4 => hY (5 - (s + 1)) _ _ (by omega) ⟨s + 1, i, G4, by omega, rfl, hai, by omega, s4, W3.trans W4, o4⟩
   rw [zgg li li1 h6 (by omega), if_neg h4, if_neg (by omega), zgg li li1 h5 (by omega), if_neg (by omega), if_neg (by omega)]
   exact s2 p q h1 h2 h3 _ _
 ·have e : i = b := by omega
  subst e
  have heq : V.bin .eql (.int .i64 (i : Int)) (.int .i64 (i : Int)) = some (.bool true) := by rw [V.zje]; simp
  simp -dsimp only [hd2, decide_false, B.gd_t, B.ze9, B.zii, B.cond_false, heq, B.cond_true, B.zg]
  exact hq hh G1 true W1 (fun _ => s2) o2
end
variable {C C0 : CSem} {fL : Nat} {N : Nat → Nat}
section
variable {E : z4} {X : Type} {cs : X → List AVal} {v : X → AVal} {h0 h : zb} {x f : AVal} {G : List X} {R : List (List AVal)} {Q : AVal → zb → Prop} {a b : Nat}
theorem znv {f1 f2 : Nat} (hn : NextI C0 f1) (hp : PowI C0 f2) (S : zd7 E cs v) (ho : Rw E cs h0 h x G R) (hl : G.length ≤ 100000000) (hab : a ≤ b) (hb : b ≤ G.length)
  (hq : ∀ h' G', zc9 a b G G' → Rw E cs h0 h' x G' R → Q (.tup []) h') : zz.cps C E C0 fL f1 f2 x (.int .i64 (a : Int)) (.int .i64 (b : Int)) f h Q := by
 obtain ⟨n, en⟩ : ∃ n, n = b - a := ⟨_, rfl⟩
 have e1 := zif hab (show b < 4611686018427387904 by omega)
 rw [← en] at e1
 have g8 : V.bin .geq (.int .i64 (n : Int)) (.int .i64 8) = some (.bool (decide (8 ≤ n))) := geqN (b := 8)
 simp -dsimp only [zz.cps, zz.k8, e1, g8, B.zg]
 refine B.zm (fun hd => ?_) (fun hd => hq h G (zc9.refl _ _ _) ho)
 rw [decide_eq_true_eq] at hd
 simp -dsimp only [zz.k7, toUN (show n < 18446744073709551616 by omega), B.zg]
 intro id hid
 have o := Owns.zru ho hid [.int .u64 0]
 simp only [List.cons_append, List.nil_append] at o
 refine o.boxSt 1 (off := 0) rfl rfl (by simp) fun h1 o1 _ => ?_
 simp only [List.set_cons_succ, List.set_cons_zero] at o1
 refine hp n _ _ (by omega) (by omega) fun m hm0 hm => ?_
 have m4 : V.bin .quo (.int .i64 (n : Int)) (.int .i64 4) = some (.int .i64 ((n / 4 : Nat) : Int)) := quo4 (by omega)
 have m2 : V.bin .mul (.int .i64 ((n / 4 : Nat) : Int)) (.int .i64 2) = some (.int .i64 ((n / 4 * 2 : Nat) : Int)) := mulN (a := n / 4) (b := 2) (by omega)
 have m5 : V.bin .add (.int .i64 (a : Int)) (.int .i64 ((n / 4 * 2 : Nat) : Int)) = some (.int .i64 ((a + n / 4 * 2 : Nat) : Int)) := zj7 (by omega)
 simp -dsimp only [zz.k6, m4, m2, m5, sub1 (show 1 ≤ a + n / 4 * 2 by omega) (by omega), B.zg]
 refine zd.intro (fun t vs hh => ∃ (i : Nat) (G' : List X) (z : Int), i + t = a + n / 4 * 2 + 2 ∧ vs = [.int .i64 (i : Int)] ∧ a ≤ i ∧ zc9 a b G G' ∧ Owns h0 hh [.sl E.es x (G'.map cs) R, .box (.ptr id 0 0) [.int .u64 z]]) 3 ?_ ⟨a + n / 4 * 2 - 1, G, _, by omega, rfl, by omega, zc9.refl _ _ _, o1⟩
 rintro Y t vs hh ⟨i, G1, z, hit, rfl, hai, W1, o2⟩ hY
 have l1 := W1.len
 simp -dsimp only [zz.l5, zz.k4, m4, m2, m5, add1 (show a + n / 4 * 2 < 4611686018427387904 by omega), leqN, B.zg]
 refine B.zm (fun he => ?_) (fun he => hq hh G1 W1 (o2.sub (by simp)))
 rw [decide_eq_true_eq] at he
 have oo := Owns.out (l1 := [.sl E.es x (G1.map cs) R]) (l2 := [.box (.ptr id 0 0) [.int .u64 z]]) o2
 simp -dsimp only [zz.k3]
 refine hn _ _ _ _ _ oo.2 fun w z' h3 o3 => ?_
 have o4 := oo.1.join o3
 have s1 : V.bin .sub (.int .u64 (m : Int)) (.int .u64 1) = some (.int .u64 ((m - 1 : Nat) : Int)) := by
  rw [V.zff, show (m : Int) - 1 = ((m - 1 : Nat) : Int) by omega, wrapU (by omega)]
 obtain ⟨ot, hot, ea⟩ := and_le (z := w) (m := m - 1) (by omega)
 simp -dsimp only [s1, ea, toIN (show ot < 4611686018427387904 by omega), B.zg, zz.k2, geqN]
 have fin : ∀ k : Nat, k < n → zz.k1 C E C0 fL f1 f2 Q Y x (.int .i64 (a : Int)) (.int .i64 (n : Int)) (.ptr id 0 0) (.int .u64 (m : Int)) (.int .i64 (i : Int)) (.int .i64 (k : Int)) h3 := fun k hk => by
  have la : a + k < G1.length := by omega
  have li : i < G1.length := by omega
  have op := Owns.perm o4 (List.Perm.swap _ _ [])
  have oq := Owns.out (l1 := [.box (.ptr id 0 0) [.int .u64 z']]) (l2 := [.sl E.es x (G1.map cs) R]) op
  have orw : Rw E cs _ h3 x G1 R := oq.2
  simp -dsimp only [zz.k1, zj7 (show a + k < 4611686018427387904 by omega), orw.idx la, orw.idx li, B.zg]
  refine orw.ld S (List.getElem?_eq_getElem la) ?_
  refine orw.ld S (List.getElem?_eq_getElem li) ?_
  refine orw.swap S li la fun h5 o5 => ?_
  simp -dsimp only [add1 (show i < 4611686018427387904 by omega), B.zg]
  have o6 := oq.1.join o5
  exact hY (a + n / 4 * 2 + 2 - (i + 1)) _ _ (by omega) ⟨i + 1, _, z', by omega, rfl, by omega, W1.trans (zey li la (by omega) (by omega) (by omega) (by omega)), o6.perm (List.Perm.swap _ _ [])⟩
 refine B.zm (fun hf => ?_) (fun hf => ?_)
 ·rw [decide_eq_true_eq] at hf
  simp -dsimp only [zif hf (show ot < 4611686018427387904 by omega), B.zg]
  exact fin (ot - n) (by omega)
 ·rw [decide_eq_false_iff_not] at hf
  exact fin ot (by omega)
end
section
variable {X : Type} {c : X → X → Int} {a b m A0 Z0 : Nat} {G G' : List X}
end
structure PdqI (C : CSem) (E : z4) (C0 : CSem) (fL : Nat) (f1 f2 f3 f4 f5 f6 f7 f8 f9 g1 g2 g3 g4 g5 g6 : Nat) : Prop where
 eq : I5 (zt.cps C E C0 fL) C f1
 part : I5 (zl.cps C E C0 fL) C f2
 pdq : I5 (zbh.cps C E C0 fL f1 f2 f3 f4 f5 f6 f7 f8 f9) C f3
 pis : I4 (zh.cps C E C0 fL) C f4
 rev : I4 (zdt.cps C E C0 fL) C f5
 piv : I4 (zbj.cps C E C0 fL g2 g3) C f6
 brk : I4 (zz.cps C E C0 fL g5 g6) C f7
 heap : I4 (zcx.cps C E C0 fL g4) C f8
 ins : I4 (zcr.cps C E C0 fL) C f9
 ord : O2I C E C0 fL g1
 med : MedI C E C0 fL g1 g2
 adj : AdjI C E C0 fL g2 g3
 sift : SiftI C E C0 fL g4
 next : NextI C0 g5
 pow : PowI C0 g6
section
variable {E : z4} {X : Type} {cs : X → List AVal} {v : X → AVal} {h0 h : zb} {x f : AVal} {G : List X} {R : List (List AVal)} {c : X → X → Int} {Q : AVal → zb → Prop} {Y : List AVal → zb → Prop} {f1 f2 f3 f4 f5 f6 f7 f8 f9 g1 g2 g3 g4 g5 g6 : Nat}
theorem pdq_k1 (J : PdqI C E C0 fL f1 f2 f3 f4 f5 f6 f7 f8 f9 g1 g2 g3 g4 g5 g6) (S : zd7 E cs v) (W : Weak (zeu c)) (hc : zer C0 v c fL h0) {A0 Z0 a b : Nat} {G0 : List X} {lim : Int} {w1 w2 : Bool} {pv : Nat} (p : PS E cs h0 x R c A0 Z0 G0 a b G h) (hl : G.length ≤ 100000000) (hBl : Z0 ≤ G.length)
  (h1 : a ≤ pv) (h2 : pv < b)
  (rcs : ∀ (a' b' : Nat) (lim : Int) (h : zb) (G : List X) (Q : AVal → zb → Prop), b' - a' < b - a → a' ≤ b' → b' ≤ G.length → G.length ≤ 100000000 → Pre c a' b' G → Rw E cs h0 h x G R → (∀ h' G', zc9 a' b' G G' → Srt c a' b' G' → Rw E cs h0 h' x G' R → Q (.tup []) h') →
   C f3 [x, .int .i64 (a' : Int), .int .i64 (b' : Int), .int .i64 lim, f] h Q)
  (hY : Go1 E cs h0 x R c A0 Z0 G0 (b - a) Y) :
  zbh.k1 C E C0 fL f1 f2 f3 f4 f5 f6 f7 f8 f9 Q Y x (.int .i64 (a : Int)) (.int .i64 (b : Int)) (.int .i64 lim) f (.bool w1) (.bool w2) (.int .i64 ((b - a : Nat) : Int)) (.int .i64 (pv : Int)) h := by
 have hA := p.hA; have hB := p.hB; have o := p.o
 have lp : pv < G.length := by omega
 have part : zbh.k1 C E C0 fL f1 f2 f3 f4 f5 f6 f7 f8 f9 Q Y x (.int .i64 (a : Int)) (.int .i64 (b : Int)) (.int .i64 lim) f (.bool w1) (.bool w2) (.int .i64 ((b - a : Nat) : Int)) (.int .i64 (pv : Int)) h =
  zbh.k1 C E C0 fL f1 f2 f3 f4 f5 f6 f7 f8 f9 Q Y x (.int .i64 (a : Int)) (.int .i64 (b : Int)) (.int .i64 lim) f (.bool w1) (.bool w2) (.int .i64 ((b - a : Nat) : Int)) (.int .i64 (pv : Int)) h := rfl
 clear part
 have part : C f2 [x, .int .i64 (a : Int), .int .i64 (b : Int), .int .i64 (pv : Int), f] h (fun v111 h =>
  B.pv (V.ext 0 v111) fun v112 =>
  B.pv (V.ext 1 v111) fun v113 =>
  B.pv (V.bin .sub v112 (.int .i64 (a : Int))) fun v117 =>
  B.pv (V.bin .sub (.int .i64 (b : Int)) v112) fun v120 =>
  B.pv (V.bin .quo (.int .i64 ((b - a : Nat) : Int)) (.int .i64 8)) fun v122 =>
  B.pv (V.bin .lss v117 v120) fun v125 =>
  B.cond v125
  (B.pv (V.bin .geq v117 v122) fun v128 =>
  B.call C f3 [x, .int .i64 (a : Int), v112, .int .i64 lim, f] h fun v134 h =>
  B.pv (V.bin .add v112 (.int .i64 1)) fun v136 =>
  Y [v136, .int .i64 (b : Int), .int .i64 lim, v128, v113] h)
  (B.pv (V.bin .geq v120 v122) fun v139 =>
  B.pv (V.bin .add v112 (.int .i64 1)) fun v142 =>
  B.call C f3 [x, v142, .int .i64 (b : Int), .int .i64 lim, f] h fun v146 h =>
  Y [.int .i64 (a : Int), v112, .int .i64 lim, v139, v113] h)) := by
  refine J.part _ _ _ _ _ _ _ (zrd S hc o (by omega) h1 h2 (by omega) fun h3 m G3 t pt W3 o3 => zbi ?_)
  have p3 := p.turn W3 o3
  have l3 := W3.len
  have m1 := pt.ge; have m2 := pt.lt
  have q8 : V.bin .quo (.int .i64 ((b - a : Nat) : Int)) (.int .i64 8) = some (.int .i64 (((b - a) / 8 : Nat) : Int)) := by
   rw [V.zoo _ _ _ (by omega), show ((b - a : Nat) : Int).tdiv 8 = (((b - a) / 8 : Nat) : Int) from rfl, wrap_i64 (by omega) (by omega)]
  simp -dsimp only [V.zq2, List.getElem?_cons_zero, List.getElem?_cons_succ, B.zg, zif m1 (show m < 4611686018427387904 by omega), zif (show m ≤ b by omega) (show b < 4611686018427387904 by omega), q8, lssN, geqN, add1 (show m < 4611686018427387904 by omega)]
  refine B.zm (fun hd => ?_) (fun hd => ?_)
  ·simp -dsimp only [geqN, add1 (show m < 4611686018427387904 by omega), B.zg]
   refine rcs a m lim _ G3 _ (by omega) m1 (by omega) (by omega) (p3.pre.sub (by omega)) o3 fun h4 G4 W4 s4 o4 => ?_
   have pt4 := pt.left W W4
   have cut4 := (p3.cut.within (W4.mono (Nat.le_refl _) (by omega)) hA hB).left W pt4 s4
   simp -dsimp only [add1 (show m < 4611686018427387904 by omega), B.zg]
   exact hY (m + 1) b lim _ _ G4 h4 (by omega) ⟨by omega, by omega, hB, p3.W.trans (W4.mono hA (by omega)), cut4, cut4.pre (by omega) hB, o4⟩
  ·have c3 : Pre c (m + 1) b G3 := fun h0 i k1 k2 k3 k4 => pt.pair W (p := m + 1 - 1) (q := i) (by omega) (by omega) k2 (by omega) (by omega) k4 k3
   simp -dsimp only [geqN, add1 (show m < 4611686018427387904 by omega), B.zg]
   refine rcs (m + 1) b lim _ G3 _ (by omega) (by omega) (by omega) (by omega) c3 o3 fun h4 G4 W4 s4 o4 => ?_
   have pt4 := pt.right W W4
   have W4' : zc9 a b G3 G4 := W4.mono (by omega) (Nat.le_refl _)
   have cut4 := (p3.cut.within W4' hA hB).right W pt4 s4
   exact hY a m lim _ _ G4 h4 (by omega) ⟨hA, m1, by omega, p3.W.trans (W4.mono (by omega) hB), cut4, (p3.pre.within W4').sub (by omega), o4⟩
 simp -dsimp only [zbh.k1]
 have g0 : V.bin .gtr (.int .i64 (a : Int)) (.int .i64 0) = some (.bool (decide (0 < a))) := gtrN (b := 0)
 simp -dsimp only [g0, B.zg]
 by_cases ha : 0 < a
 ·have la : a - 1 < G.length := by omega
  simp -dsimp only [ha, decide_true, B.gd_t, B.zea, sub1 (show 1 ≤ a by omega) (show a < 4611686018427387904 by omega), o.idx la, o.idx lp, B.zg]
  refine o.ld S (List.getElem?_eq_getElem la) ?_
  refine o.ld S (List.getElem?_eq_getElem lp) ?_
  refine hc.call _ _ _ _ o.le ?_
  simp -dsimp only [ha, decide_true, B.gd_t, B.zea, V.zfm, V.zkh, B.zh0, B.zg]
  refine B.zm (fun he => ?_) (fun he => part)
  have hd : ¬ c G[a - 1] G[pv] < 0 := by simpa using he
  refine J.eq _ _ _ _ _ _ _ (zl9 S hc o (by omega) h1 h2 (by omega) fun h3 i j G3 pe hji W3 e3 o3 => zbi ?_)
  have p3 := p.turn W3 o3
  have l3 := W3.len
  have k1 := pe.hi; have k2 := pe.hij; have k3 := pe.hj
  have cut4 := p3.cut.equal W pe hji ha p3.pre (by omega) fun q1 q2 => by
   rw [e3 q2 lp, W3.same (.inl (by omega)) q1 la]; exact hd
  exact hY i b lim _ _ G3 h3 (by omega) ⟨by omega, by omega, hB, p3.W, cut4, cut4.pre (by omega) hB, o3⟩
 ·simp -dsimp only [ha, decide_false, B.gd_t, B.ze9, B.zii, B.cond_false]
  exact part
theorem pdq_spec (J : PdqI C E C0 fL f1 f2 f3 f4 f5 f6 f7 f8 f9 g1 g2 g3 g4 g5 g6) (S : zd7 E cs v) (W : Weak (zeu c)) (hc : zer C0 v c fL h0) : ∀ (n : Nat) (A0 Z0 : Nat) (lim : Int) (h : zb) (G : List X) (Q : AVal → zb → Prop), Z0 - A0 = n → A0 ≤ Z0 → Z0 ≤ G.length → G.length ≤ 100000000 → Pre c A0 Z0 G → Rw E cs h0 h x G R →
  (∀ h' G', zc9 A0 Z0 G G' → Srt c A0 Z0 G' → Rw E cs h0 h' x G' R → Q (.tup []) h') → zbh.cps C E C0 fL f1 f2 f3 f4 f5 f6 f7 f8 f9 x (.int .i64 (A0 : Int)) (.int .i64 (Z0 : Int)) (.int .i64 lim) f h Q := by
 intro n
 induction n using Nat.strongRecOn with
 | ind n ih =>
 intro A0 Z0 lim h G0 Q hn hAB hBl hl hpre ho hq
 simp -dsimp only [zbh.cps]
 refine zd.intro (fun t vs hh => ∃ (a b : Nat) (lim : Int) (w1 w2 : Bool) (G : List X), t = b - a ∧ vs = [.int .i64 (a : Int), .int .i64 (b : Int), .int .i64 lim, .bool w1, .bool w2] ∧ PS E cs h0 x R c A0 Z0 G0 a b G hh) (Z0 - A0) ?_
  ⟨A0, Z0, lim, true, true, G0, rfl, rfl, ⟨Nat.le_refl _, hAB, Nat.le_refl _, zc9.refl _ _ _, fun p q _ _ _ k => by omega, hpre, ho⟩⟩
 rintro Y t vs hh ⟨a, b, lim, w1, w2, G, rfl, rfl, p⟩ hY'
 have hY : Go1 E cs h0 x R c A0 Z0 G0 (b - a) Y := fun a' b' lim' w1' w2' G' h' hlt p' => hY' (b' - a') _ _ hlt ⟨a', b', lim', w1', w2', G', rfl, rfl, p'⟩
 clear hY'
 have hA := p.hA; have hab := p.hab; have hB := p.hB
 have lG := p.W.len
 have rcs : ∀ (a' b' : Nat) (lim : Int) (h : zb) (G : List X) (Q : AVal → zb → Prop), b' - a' < b - a → a' ≤ b' → b' ≤ G.length → G.length ≤ 100000000 → Pre c a' b' G → Rw E cs h0 h x G R → (∀ h' G', zc9 a' b' G G' → Srt c a' b' G' → Rw E cs h0 h' x G' R → Q (.tup []) h') →
   C f3 [x, .int .i64 (a' : Int), .int .i64 (b' : Int), .int .i64 lim, f] h Q := fun a' b' lim h G Q k1 k2 k3 k4 k5 k6 k7 =>
  J.pdq _ _ _ _ _ _ _ (ih (b' - a') (by omega) a' b' lim h G _ rfl k2 k3 k4 k5 k6 fun h' G' w s o => zbi (k7 h' G' w s o))
 have fin : ∀ {hh G G2}, PS E cs h0 x R c A0 Z0 G0 a b G hh → ∀ h', zc9 a b G G2 → Srt c a b G2 → Rw E cs h0 h' x G2 R → Q (.tup []) h' := fun p h' w s o => by
  have p2 := p.turn w o
  exact hq h' _ p2.W (p2.cut.join s) o
 have e12 : V.bin .leq (.int .i64 ((b - a : Nat) : Int)) (.int .i64 12) = some (.bool (decide (b - a ≤ 12))) := leqN (b := 12)
 simp -dsimp only [zbh.l8, zif hab (show b < 4611686018427387904 by omega), B.zg, zbh.k7, e12]
 refine B.zm (fun hd => ?_) (fun hd => ?_)
 ·exact J.ins _ _ _ _ _ _ (insertion_srt S W hc p.o (by omega) hab (by omega) fun h' G' w s o => zbi (fin p h' w s o))
 rw [decide_eq_false_iff_not] at hd
 simp -dsimp only [zbh.k6, V.zje, B.zg]
 refine B.zm (fun _ => ?_) (fun _ => ?_)
 ·exact J.heap _ _ _ _ _ _ (heapSort_spec J.sift S W hc p.o (by omega) (by omega) (by omega) fun h' G' w s o => zbi (fin p h' w s o))
 have k4 : ∀ {hh G} (lim : Int), PS E cs h0 x R c A0 Z0 G0 a b G hh → zbh.k4 C E C0 fL f1 f2 f3 f4 f5 f6 f7 f8 f9 Q Y x (.int .i64 (a : Int)) (.int .i64 (b : Int)) (.int .i64 lim) f (.bool w1) (.bool w2) (.int .i64 ((b - a : Nat) : Int)) hh := fun {hh G} lim p => by
  have lG := p.W.len
  simp -dsimp only [zbh.k4]
  refine J.piv _ _ _ _ _ _ (zpi J.ord J.med J.adj S (Owns.slAt p.o 0 rfl) p.o.le hc (by omega) (by omega) (by omega) fun m hint h2 m1 m2 hle => zbi ?_)
  have p2 : PS E cs h0 x R c A0 Z0 G0 a b G h2 := ⟨p.hA, p.hab, p.hB, p.W, p.cut, p.pre, Owns.grow p.o hle⟩
  simp -dsimp only [V.zq2, List.getElem?_cons_zero, List.getElem?_cons_succ, B.zg, zbh.k3, V.zje]
  have k2 : ∀ {hh G} (pv : Nat) (hint : Int), a ≤ pv → pv < b → PS E cs h0 x R c A0 Z0 G0 a b G hh → zbh.k2 C E C0 fL f1 f2 f3 f4 f5 f6 f7 f8 f9 Q Y x (.int .i64 (a : Int)) (.int .i64 (b : Int)) (.int .i64 lim) f (.bool w1) (.bool w2) (.int .i64 ((b - a : Nat) : Int)) (.int .i64 (pv : Int)) (.int .i64 hint) hh := fun {hh G} pv hint q1 q2 p => by
   have lG := p.W.len
   have go := pdq_k1 (Q := Q) (lim := lim) (w1 := w1) (w2 := w2) J S W hc p (by omega) (by omega) q1 q2 rcs hY
   simp -dsimp only [zbh.k2]
   have two : B.cond (.bool true) (B.call C f4 [x, .int .i64 (a : Int), .int .i64 (b : Int), f] hh fun v80 h =>
     B.cond v80 (Q (.tup []) h) (zbh.k1 C E C0 fL f1 f2 f3 f4 f5 f6 f7 f8 f9 Q Y x (.int .i64 (a : Int)) (.int .i64 (b : Int)) (.int .i64 lim) f (.bool w1) (.bool w2) (.int .i64 ((b - a : Nat) : Int)) (.int .i64 (pv : Int)) h))
     (zbh.k1 C E C0 fL f1 f2 f3 f4 f5 f6 f7 f8 f9 Q Y x (.int .i64 (a : Int)) (.int .i64 (b : Int)) (.int .i64 lim) f (.bool w1) (.bool w2) (.int .i64 ((b - a : Nat) : Int)) (.int .i64 (pv : Int)) hh) := by
    rw [B.cond_true]
    refine J.pis _ _ _ _ _ _ (zja S W hc p.o (by omega) (by omega) (by omega) p.pre fun h' G' t w s o => zbi ?_)
    have p' := p.turn w o
    have lG' := p'.W.len
    refine B.zm (fun ht => fin p h' w (s ht) o) (fun _ => ?_)
    exact pdq_k1 (Q := Q) (lim := lim) (w1 := w1) (w2 := w2) J S W hc p' (by omega) (by omega) q1 q2 rcs hY
   cases w1 <;> cases w2
   ·simp -dsimp only [B.gd_t, B.ze9, B.zii, B.cond_false]; exact go
   ·simp -dsimp only [B.gd_t, B.ze9, B.zii, B.cond_false]; exact go
   ·simp -dsimp only [B.gd_t, B.zea, B.ze9, B.zh0, B.zii, B.cond_false]; exact go
   ·by_cases hh1 : hint = 1
    ·simp -dsimp only [B.gd_t, B.zea, V.zje, hh1, decide_true, B.zg, B.zh0]; exact two
    ·simp -dsimp only [B.gd_t, B.zea, V.zje, hh1, decide_false, B.zg, B.zh0, B.cond_false]; exact go
  refine B.zm (fun _ => ?_) (fun _ => k2 m hint m1 m2 p2)
  refine J.rev _ _ _ _ _ _ (zn3 S (by omega) p2.o (by omega) (by omega) fun h3 G3 w3 o3 => zbi ?_)
  simp -dsimp only [sub1 (show 1 ≤ b by omega) (show b < 4611686018427387904 by omega), zif m1 (show m < 4611686018427387904 by omega), zif (show m - a ≤ b - 1 by omega) (show b - 1 < 4611686018427387904 by omega), B.zg]
  exact k2 (b - 1 - (m - a)) 1 (by omega) (by omega) (p2.turn w3 o3)
 simp -dsimp only [zbh.k5, V.zkh, B.zg]
 refine B.zm (fun _ => ?_) (fun _ => k4 lim p)
 refine J.brk _ _ _ _ _ _ (znv J.next J.pow S p.o (by omega) hab (by omega) fun h' G' w o => zbi ?_)
 simp -dsimp only [V.zff, B.zg]
 exact k4 _ (p.turn w o)
end
end Go.Ab.Ord
set_option maxRecDepth 100000
namespace Go.Ab
def Cst (C : CSem) : CSem := fun f args h Q => C f args.dropLast h Q
abbrev J4 (F : AVal → AVal → AVal → AVal → zb → (AVal → zb → Prop) → Prop) (C : CSem) (n : Nat) : Prop := ∀ (v0 v1 v2 v3 : AVal) (h : zb) (Q : AVal → zb → Prop), F v0 v1 v2 v3 h (dn Q) → C n [v0, v1, v2, v3] h Q
abbrev J3 (F : AVal → AVal → AVal → zb → (AVal → zb → Prop) → Prop) (C : CSem) (n : Nat) : Prop := ∀ (v0 v1 v2 : AVal) (h : zb) (Q : AVal → zb → Prop), F v0 v1 v2 h (dn Q) → C n [v0, v1, v2] h Q
structure OrdI (C : CSem) (E : z4) (fL e p q s r v b k n ad md o2 sd nx pw : Nat) : Prop where
 eq : J4 (zo.cps C E fL) C e
 part : J4 (zi.cps C E fL) C p
 pdq : J4 (zr.cps C E fL e p q s r v b k n) C q
 pis : J3 (zf.cps C E fL) C s
 rev : J3 (zcu.cps C E) C r
 piv : J3 (z5.cps C E ad md) C v
 brk : J3 (zn.cps C E nx pw) C b
 heap : J3 (zbp.cps C E sd) C k
 ins : J3 (zb2.cps C E fL) C n
 adj : J3 (ze1.cps C E md) C ad
 med : ∀ (v0 v1 v2 v3 v4 : AVal) (h : zb) (Q : AVal → zb → Prop), zew.cps C E o2 v0 v1 v2 v3 v4 h (dn Q) → C md [v0, v1, v2, v3, v4] h Q
 ord : J4 (zev.cps C E fL) C o2
 sift : J4 (zb5.cps C E fL) C sd
 next : NextI C nx
 pow : PowI C pw
theorem e4 {F : AVal → AVal → AVal → AVal → AVal → zb → (AVal → zb → Prop) → Prop} {G : AVal → AVal → AVal → AVal → zb → (AVal → zb → Prop) → Prop} {C : CSem} {f : Nat} (i : J4 G C f) (e : ∀ v0 v1 v2 v3 v4 h Q, F v0 v1 v2 v3 v4 h Q = G v0 v1 v2 v3 h Q) : I5 F (Cst C) f :=
 fun v0 v1 v2 v3 v4 h Q x => i v0 v1 v2 v3 h Q (by rw [← e v0 v1 v2 v3 v4]; exact x)
theorem e3 {F : AVal → AVal → AVal → AVal → zb → (AVal → zb → Prop) → Prop} {G : AVal → AVal → AVal → zb → (AVal → zb → Prop) → Prop} {C : CSem} {f : Nat} (i : J3 G C f) (e : ∀ v0 v1 v2 v3 h Q, F v0 v1 v2 v3 h Q = G v0 v1 v2 h Q) : I4 F (Cst C) f :=
 fun v0 v1 v2 v3 h Q x => i v0 v1 v2 h Q (by rw [← e v0 v1 v2 v3]; exact x)
section
variable {C : CSem} {E : z4} {fL e p q s r v b k n ad md o2 sd nx pw : Nat}
theorem t_eq : ∀ v0 v1 v2 v3 v4 h Q, zt.cps (Cst C) E C fL v0 v1 v2 v3 v4 h Q = zo.cps C E fL v0 v1 v2 v3 h Q := by intros; kernel_rfl
theorem t_part : ∀ v0 v1 v2 v3 v4 h Q, zl.cps (Cst C) E C fL v0 v1 v2 v3 v4 h Q = zi.cps C E fL v0 v1 v2 v3 h Q := by intros; kernel_rfl
theorem t_pdq : ∀ v0 v1 v2 v3 v4 h Q, zbh.cps (Cst C) E C fL e p q s r v b k n v0 v1 v2 v3 v4 h Q = zr.cps C E fL e p q s r v b k n v0 v1 v2 v3 h Q := by intros; kernel_rfl
theorem t_pis : ∀ v0 v1 v2 v3 h Q, zh.cps (Cst C) E C fL v0 v1 v2 v3 h Q = zf.cps C E fL v0 v1 v2 h Q := by intros; kernel_rfl
theorem t_rev : ∀ v0 v1 v2 v3 h Q, zdt.cps (Cst C) E C fL v0 v1 v2 v3 h Q = zcu.cps C E v0 v1 v2 h Q := by intros; kernel_rfl
theorem t_piv : ∀ v0 v1 v2 v3 h Q, zbj.cps (Cst C) E C fL md ad v0 v1 v2 v3 h Q = z5.cps C E ad md v0 v1 v2 h Q := by intros; kernel_rfl
theorem t_brk : ∀ v0 v1 v2 v3 h Q, zz.cps (Cst C) E C fL nx pw v0 v1 v2 v3 h Q = zn.cps C E nx pw v0 v1 v2 h Q := by intros; kernel_rfl
theorem t_heap : ∀ v0 v1 v2 v3 h Q, zcx.cps (Cst C) E C fL sd v0 v1 v2 v3 h Q = zbp.cps C E sd v0 v1 v2 h Q := by intros; kernel_rfl
theorem t_ins : ∀ v0 v1 v2 v3 h Q, zcr.cps (Cst C) E C fL v0 v1 v2 v3 h Q = zb2.cps C E fL v0 v1 v2 h Q := by intros; kernel_rfl
theorem t_adj : ∀ v0 v1 v2 v3 h Q, zd9.cps (Cst C) E C fL md v0 v1 v2 v3 h Q = ze1.cps C E md v0 v1 v2 h Q := by intros; kernel_rfl
theorem t_med : ∀ v0 v1 v2 v3 v4 v5 h Q, zfl.cps (Cst C) E C fL o2 v0 v1 v2 v3 v4 v5 h Q = zew.cps C E o2 v0 v1 v2 v3 v4 h Q := by intros; kernel_rfl
theorem t_ord : ∀ v0 v1 v2 v3 v4 h Q, zfk.cps (Cst C) E C fL v0 v1 v2 v3 v4 h Q = zev.cps C E fL v0 v1 v2 v3 h Q := by intros; kernel_rfl
theorem t_sift : ∀ v0 v1 v2 v3 v4 h Q, zcw.cps (Cst C) E C fL v0 v1 v2 v3 v4 h Q = zb5.cps C E fL v0 v1 v2 v3 h Q := by intros; kernel_rfl
theorem OrdI.toT (J : OrdI C E fL e p q s r v b k n ad md o2 sd nx pw) : Ord.PdqI (Cst C) E C fL e p q s r v b k n o2 md ad sd nx pw where
 eq := e4 J.eq t_eq
 part := e4 J.part t_part
 pdq := e4 J.pdq t_pdq
 pis := e3 J.pis t_pis
 rev := e3 J.rev t_rev
 piv := e3 J.piv t_piv
 brk := e3 J.brk t_brk
 heap := e3 J.heap t_heap
 ins := e3 J.ins t_ins
 ord := e4 J.ord t_ord
 med := fun v0 v1 v2 v3 v4 v5 h Q x => J.med v0 v1 v2 v3 v4 h Q (by rw [← t_med (C := C) (fL := fL) v0 v1 v2 v3 v4 v5]; exact x)
 adj := e3 J.adj t_adj
 sift := e4 J.sift t_sift
 next := J.next
 pow := J.pow
theorem Sort_spec {X : Type} {cs : X → List AVal} {v' : X → AVal} {h0 h : zb} {x : AVal} {G : List X} {R : List (List AVal)} {c : X → X → Int} {Q : AVal → zb → Prop} {fl : Nat} (J : OrdI C E fL e p q s r v b k n ad md o2 sd nx pw) (hlen : LenI C fl) (S : zd7 E cs v') (W : Weak (zeu c))
  (hc : Ord.zer C v' c fL h0) (hl : G.length ≤ 100000000) (ho : Rw E cs h0 h x G R) (hq : ∀ h' G', G'.Perm G → G'.Pairwise (fun s t => ¬ c t s < 0) → Rw E cs h0 h' x G' R → Q (.tup []) h') : zgy.cps C E fl q x h Q := by
 simp -dsimp only [zgy.cps, zgy.k1, ho.lenE, toUN (show G.length < 18446744073709551616 by omega), B.zg]
 refine hlen _ _ _ hl fun r hr _ => ?_
 refine J.pdq _ _ _ _ _ _ ?_
 rw [← t_pdq (C := C) _ _ _ _ .nilf]
 refine Ord.pdq_spec J.toT S W hc _ 0 G.length r h G _ rfl (by omega) (Nat.le_refl _) hl (fun h => by omega) ho fun h' G' w s o => zbi ?_
 refine hq h' G' w.perm ?_ o
 rw [List.pairwise_iff_getElem]
 intro i j hi hj hij
 have := w.len
 exact s i j (by omega) hij (by omega) hi hj
end
end Go.Ab
namespace Go.Ab
variable {C : CSem} {N : Nat → Nat}
theorem zok {α : Type} {p : α → Bool} {L : List α} {k : Nat} (hk : k < L.length) (h : ∀ i, i < k → ∀ a, L[i]? = some a → p a = false) (hp : p L[k] = true) : L.findIdx? p = some k := by
 rw [List.findIdx?_eq_some_iff_getElem]
 exact ⟨hk, hp, fun j hj => by simp [h j hj _ (List.getElem?_eq_getElem (by omega))]⟩
theorem Owns.cutTo {h0 h : zb} {es : Nat} {x : AVal} {L R : List (List AVal)} (ho : Owns h0 h [.sl es x L R]) (hes : 0 < es) {k : Nat} (hk : k ≤ L.length) : ∃ y, V.zfj es x none (some (.int .i64 (k : Int))) = some y ∧ Owns h0 h [.sl es y (L.take k) (L.drop k ++ R)] := by
 obtain ⟨y, h1, h2, h3⟩ := (ho.slAt 0 rfl).slice hes (a := none) (b := some (.int .i64 (k : Int))) (lo := 0) (hi := k) (.inl ⟨rfl, rfl⟩) (.inr ⟨_, rfl⟩) (by omega) (by omega)
 rw [List.drop_zero, List.take_append_of_le_length hk, List.drop_append_of_le_length hk] at h2
 refine ⟨y, h1, ?_⟩
 have := ho.turn (h' := h) 0 rfl (o' := .sl es y (L.take k) (L.drop k ++ R)) h2 (fun id b hf hb => ho.zng 0 rfl id b (by rw [show Ob.foot (.sl es x L R) = foot x from rfl, ← h3]; exact hf) hb) (fun _ _ h _ => h) (.inl (by rw [show Ob.foot (.sl es y _ _) = foot y from rfl, h3]; rfl))
 simpa using this
end Go.Ab
namespace Go.Ab
variable {C : CSem} {N : Nat → Nat}
section
variable {α : Type} [DecidableEq α]
def zeg : List α → List α
 | [] => []
 | [a] => [a]
 | a :: b :: r => if a = b then zeg (b :: r) else a :: zeg (b :: r)
theorem znr (a b : α) : ∀ P : List α, zeg (P ++ [a, b]) = if a = b then zeg (P ++ [a]) else zeg (P ++ [a]) ++ [b]
 | [] => by simp only [List.nil_append, zeg]; split <;> simp_all
 | [p] => by
  simp only [List.cons_append, List.nil_append, zeg]
  split <;> split <;> simp_all
 | p :: q :: P => by
  have ih := znr a b (q :: P)
  simp only [List.cons_append] at ih ⊢
  simp only [zeg]
  rw [ih]
  split <;> split <;> simp_all
theorem znq {L : List α} {k : Nat} (h1 : 0 < k) (h2 : k < L.length) : zeg (L.take (k + 1)) = if L[k] = L[k - 1] then zeg (L.take k) else zeg (L.take k) ++ [L[k]] := by
 have e1 : L.take (k + 1) = L.take k ++ [L[k]] := by rw [List.take_add_one, List.getElem?_eq_getElem h2]; rfl
 have e2 : L.take k = L.take (k - 1) ++ [L[k - 1]] := by
  conv => lhs; rw [show k = (k - 1) + 1 by omega]
  rw [List.take_add_one, List.getElem?_eq_getElem (by omega)]; rfl
 have := znr L[k - 1] L[k] (L.take (k - 1))
 rw [e1, e2, List.append_assoc]
 simp only [List.cons_append, List.nil_append]
 rw [this]
 simp only [eq_comm]
theorem zo6 : ∀ L : List α, (zeg L).length ≤ L.length
 | [] => Nat.le_refl _
 | [a] => Nat.le_refl _
 | a :: b :: r => by
  have := zo6 (b :: r)
  simp only [zeg]
  split <;> simp_all <;> omega
theorem compactG_spec {bytes f : Nat} {z : AVal} {v : α → AVal} (hb : bytes ≤ 1000) (hv : ∀ t, (v t).zdz = true) (heq : ∀ a b, V.bin .eql (v a) (v b) = some (.bool (decide (a = b)))) (hne' : ∀ a b, V.bin .neq (v a) (v b) = some (.bool (!decide (a = b))))
  {h0 h : zb} {x : AVal} {L : List α} {R : List (List AVal)} {Q : AVal → zb → Prop} (ho : Owns h0 h [.sl 1 x (L.map fun a => [v a]) R]) (hlen : L.length ≤ 100000000) (hq : ∀ y h' R', Owns h0 h' [.sl 1 y ((zeg L).map fun a => [v a]) R'] → Q y h') : zcd.cps C (opsS bytes z f) x h Q := by
 have S : zd7 (opsS bytes z f) (fun a : α => [v a]) v := seqS hb hv
 have o : Rw (opsS bytes z f) (fun a : α => [v a]) h0 h x L R := ho
 have l2 : V.bin .lss (.int .i64 (L.length : Int)) (.int .i64 2) = some (.bool (decide (L.length < 2))) := lssN (b := 2)
 simp -dsimp only [zcd.cps, zcd.k5, o.lenE, l2, B.zg]
 refine B.zm (fun hd => ?_) (fun hd => ?_)
 ·rw [decide_eq_true_eq] at hd
  have : zeg L = L := by
   match L, hd with
   | [], _ => rfl
   | [a], _ => rfl
  exact hq x h R (by rw [this]; exact ho)
 rw [decide_eq_false_iff_not] at hd
 refine zd.intro (fun t vs hh => hh = h ∧ ∃ k : Nat, k + t = L.length ∧ vs = [.int .i64 (k : Int)] ∧ 0 < k ∧ zeg (L.take k) = L.take k) (L.length - 1) ?_ ⟨rfl, 1, by omega, rfl, by omega, ?_⟩
 rotate_left
 ·cases L with
  | nil => rfl
  | cons a r => rfl
 rintro Y t vs hh ⟨rfl, k, hkt, rfl, hk0, hck⟩ hY
 simp -dsimp only [zcd.l4, o.lenE, lssN, B.zg]
 refine B.zm (fun hk => ?_) (fun hk => ?_)
 rotate_left
 ·rw [decide_eq_false_iff_not] at hk
  have : k = L.length := by omega
  rw [this, List.take_length] at hck
  exact hq x hh R (by rw [hck]; exact ho)
 rw [decide_eq_true_eq] at hk
 have e1 : V.bin .sub (.int .i64 (k : Int)) (.int .i64 1) = some (.int .i64 ((k - 1 : Nat) : Int)) := zif (b := 1) (by omega) (by omega)
 have ik := o.idx hk
 have ik1 := o.idx (show k - 1 < L.length by omega)
 simp -dsimp only [zcd.k3, ik, B.zg]
 refine o.ld S (List.getElem?_eq_getElem hk) ?_
 simp -dsimp only [e1, ik1, B.zg]
 refine o.ld S (List.getElem?_eq_getElem (show k - 1 < L.length by omega)) ?_
 simp -dsimp only [heq, B.zg]
 have hct := znq hk0 hk
 refine B.zm (fun he => ?_) (fun he => ?_)
 rotate_left
 ·rw [decide_eq_false_iff_not] at he
  rw [if_neg he, hck] at hct
  simp -dsimp only [add1 (show k < 4611686018427387904 by omega), B.zg]
  refine hY (t - 1) _ _ (by omega) ⟨rfl, k + 1, by omega, rfl, by omega, ?_⟩
  rw [hct, List.take_add_one, List.getElem?_eq_getElem hk]; rfl
 rw [decide_eq_true_eq] at he
 rw [if_pos he, hck] at hct
 have cut : ∀ {h' : zb} {G : List α} {R' : List (List AVal)}, Rw (opsS bytes z f) (fun a => [v a]) h0 h' x G R' → G.length = L.length → ∃ y R2, V.zfj 1 x (some (.int .i64 (k : Int))) none = some y ∧ SlX h' 1 y ((G.drop k).map (fun a => [v a])) R2 := fun {h' G R'} o' hG => by
  obtain ⟨y, R2, h1, h2, _⟩ := (Owns.slAt o' 0 rfl).sliceIn (Nat.one_pos) (a := some (.int .i64 (k : Int))) (b := none) (lo := k) (hi := G.length) (.inr ⟨_, rfl⟩) (.inl ⟨rfl, rfl⟩) (by omega) (Nat.le_refl _)
  rw [List.take_length] at h2
  exact ⟨y, R2, h1, h2⟩
 obtain ⟨s2, _, hs2, _⟩ := cut o rfl
 have cut2 : ∀ {h' : zb} {G : List α}, Rw (opsS bytes z f) (fun a => [v a]) h0 h' x G R → G.length = L.length → ∃ R2, SlX h' 1 s2 ((G.drop k).map (fun a => [v a])) R2 := fun {h' G} o' hG => by
  obtain ⟨y, R2, e1, e2⟩ := cut o' hG
  rw [hs2] at e1
  cases e1
  exact ⟨R2, e2⟩
 have hs2' : V.zfj (opsS bytes z f).es x (some (.int .i64 (k : Int))) none = some s2 := hs2
 simp -dsimp only [hs2', B.zg]
 refine zd.intro (fun t vs h2 => ∃ (i j : Nat) (G : List α), k + j + t = L.length ∧ vs = [.int .i64 (i : Int), .int .i64 (j : Int)] ∧ k ≤ i ∧ i + 1 ≤ k + j ∧ 0 < j ∧ G.length = L.length ∧ G.take i = zeg (L.take (k + j)) ∧ (∀ q, k + j ≤ q + 1 → G[q]? = L[q]?) ∧ Rw (opsS bytes z f) (fun a => [v a]) h0 h2 x G R) (L.length - (k + 1)) ?_
  ⟨k, 1, L, by omega, rfl, Nat.le_refl _, Nat.le_refl _, Nat.one_pos, rfl, hct.symm, fun _ _ => rfl, o⟩
 rintro Z t2 vs h2 ⟨i, j, G, hjt, rfl, hki, hij, hj0, hGl, hGt, hGq, o2⟩ hZ
 obtain ⟨R2, x2⟩ := cut2 o2 hGl
 have ln2 : V.zx s2 = some (.int .i64 ((L.length - k : Nat) : Int)) := by have := x2.zx; simpa [hGl] using this
 simp -dsimp only [zcd.l2, zcd.k1, ln2, lssN, B.zg]
 refine B.zm (fun hlt => ?_) (fun hlt => ?_)
 ·rw [decide_eq_true_eq] at hlt
  have dl : ∀ q, q < L.length - k → (G.drop k)[q]? = G[k + q]? := fun q _ => by rw [List.getElem?_drop]
  have lj : j < ((G.drop k).map (fun a => [v a])).length := by simp; omega
  have lj1 : j - 1 < ((G.drop k).map (fun a => [v a])).length := by simp; omega
  have gj : ((G.drop k).map (fun a => [v a]))[j]? = some ((fun a => [v a]) L[k + j]) := by
   rw [List.getElem?_map, dl j hlt, hGq (k + j) (by omega), List.getElem?_eq_getElem (by omega)]; rfl
  have gj1 : ((G.drop k).map (fun a => [v a]))[j - 1]? = some ((fun a => [v a]) L[k + j - 1]) := by
   rw [List.getElem?_map, dl (j - 1) (by omega), show k + (j - 1) = k + j - 1 by omega, hGq (k + j - 1) (by omega), List.getElem?_eq_getElem (by omega)]; rfl
  have ij : V.idxS (opsS bytes z f).es s2 (.int .i64 (j : Int)) = some (elp 1 s2 j 0) := x2.idxN lj
  have ij1 : V.idxS (opsS bytes z f).es s2 (.int .i64 ((j - 1 : Nat) : Int)) = some (elp 1 s2 (j - 1) 0) := x2.idxN lj1
  have e2 : V.bin .sub (.int .i64 (j : Int)) (.int .i64 1) = some (.int .i64 ((j - 1 : Nat) : Int)) := zif (b := 1) (by omega) (by omega)
  simp -dsimp only [ij, B.zg]
  refine S.ld x2 gj ?_
  simp -dsimp only [e2, ij1, B.zg]
  refine S.ld x2 gj1 ?_
  simp -dsimp only [hne', B.zg]
  have hst := znq (L := L) (k := k + j) (by omega) (by omega)
  refine B.zm (fun hne => ?_) (fun hne => ?_)
  ·have hne : L[k + j] ≠ L[k + j - 1] := by simpa using hne
   rw [if_neg hne] at hst
   simp -dsimp only [ij, B.zg]
   refine S.ld x2 gj ?_
   simp -dsimp only [o2.idx (show i < G.length by omega), B.zg]
   refine o2.st S (t := L[k + j]) (by omega) fun h3 o3 => ?_
   simp -dsimp only [add1 (show i < 4611686018427387904 by omega), add1 (show j < 4611686018427387904 by omega), B.zg]
   refine hZ (t2 - 1) _ _ (by omega) ⟨i + 1, j + 1, _, by omega, rfl, by omega, by omega, by omega, by simpa using hGl, ?_, fun q hq' => ?_, o3⟩
   ·rw [← Nat.add_assoc, hst, ← hGt, List.take_add_one]
    rw [List.getElem?_set_self (by omega), List.take_set_of_le (Nat.le_refl _)]; rfl
   ·rw [List.getElem?_set_ne (by omega)]; exact hGq q (by omega)
  ·have hne : L[k + j] = L[k + j - 1] := by simpa using hne
   rw [if_pos hne] at hst
   simp -dsimp only [add1 (show j < 4611686018427387904 by omega), B.zg]
   exact hZ (t2 - 1) _ _ (by omega) ⟨i, j + 1, G, by omega, rfl, hki, by omega, by omega, hGl, by rw [← Nat.add_assoc, hst]; exact hGt, fun q hq' => hGq q (by omega), o2⟩
 ·rw [decide_eq_false_iff_not] at hlt
  have : k + j = L.length := by omega
  rw [this, List.take_length] at hGt
  obtain ⟨y, y1, y2⟩ := Owns.clrTail (z := [z]) (lo := i) (K := fun v h => B.pv (V.zfj 1 x none (some (.int .i64 (i : Int)))) fun v59 => Q v59 h) o2 0 rfl rfl (by simp; omega) fun h3 o3 _ => by
   have o3 : Owns h0 h3 [.sl 1 x ((G.map (fun a => [v a])).take i ++ List.replicate ((G.map (fun a => [v a])).length - i) [z]) R] := o3
   obtain ⟨z', z1, z2⟩ := o3.cutTo Nat.one_pos (k := i) (by simp; omega)
   simp -dsimp only [z1, B.zg]
   have e3 : ((G.map (fun a => [v a])).take i ++ List.replicate ((G.map (fun a => [v a])).length - i) [z]).take i = (zeg L).map (fun a => [v a]) := by
    rw [List.take_append_of_le_length (by simp; omega), List.take_take, Nat.min_self, ← List.map_take, hGt]
   rw [e3] at z2
   exact hq z' h3 _ z2
  have y1' : V.zfj (opsS bytes z f).es x (some (.int .i64 (i : Int))) none = some y := y1
  simp -dsimp only [y1', B.zg]
  exact y2
end
end Go.Ab
namespace Go.Ab
variable {C : CSem} {N : Nat → Nat}
theorem V.bin_slss (a b : List UInt8) : V.bin .lss (.str a) (.str b) = some (.bool (zgm a b)) := rfl
theorem weakB : Weak (zeu cmpB) := by
 constructor <;> simp only [zeu, decide_eq_true_eq, decide_eq_false_iff_not, cmpB_neg]
 ·intro a b h; rw [lessB_asym h]; simp
 ·intro a b c h1 h2 h3
  have h1 : zgm a b = false := by simpa using h1
  have h2 : zgm b c = false := by simpa using h2
  by_cases e : a = b
  ·subst e; rw [h2] at h3; cases h3
  ·have := zjy (lessB_or h1 e) h3
   rw [h2] at this; cases this
def zc5.Spec (C : CSem) (N : Nat → Nat) : Prop := ∀ (a : List UInt8) (h : zb) (Q : AVal → zb → Prop), Q (.bool false) h → C (N 389) [.str a] h Q
theorem zc5.spec (i : zc5.Imp C N) : zc5.Spec C N := by
 intro a h Q hq
 apply i
 simp -dsimp
 exact zbi hq
def zc3.Spec (C : CSem) (N : Nat → Nat) : Prop := ∀ (a b : List UInt8) (h : zb) (Q : AVal → zb → Prop), Q (.bool (zgm a b)) h → C (N 377) [.str a, .str b] h Q
theorem zc3.spec (i : zc3.Imp C N) (s1 : zc5.Spec C N) : zc3.Spec C N := by
 intro a b h Q hq
 apply i
 simp -dsimp
 refine s1 _ _ _ ?_
 simp -dsimp [V.bin_slss]
 exact zbi hq
def SortedB (L : List (List UInt8)) : Prop := L.Pairwise fun s t => zgm t s = false
def zbx.Spec (C : CSem) (N : Nat → Nat) : Prop := ∀ (h0 h : zb) (x : AVal) (L : List (List UInt8)) (R : List (List AVal)) (Q : AVal → zb → Prop), Owns h0 h [.sl 1 x (L.map tc) R] → L.length ≤ 100000000 →
 (∀ h' (L' : List (List UInt8)), L'.Perm L → SortedB L' → Owns h0 h' [.sl 1 x (L'.map tc) R] → Q (.tup []) h') → C (N 364) [x] h Q
theorem seqT : zd7 (opsS 16 (.str []) 0) tc (fun a : List UInt8 => AVal.str a) := seqS (by omega) fun _ => rfl
theorem zbx.spec (i : zbx.Imp C N) (j1 : zbz.Imp C N) (j2 : zce.Imp C N) (j3 : zcm.Imp C N) (j4 : zbk.Imp C N)
  (j5 : zb6.Imp C N) (j6 : zb9.Imp C N) (j7 : zb4.Imp C N) (j8 : zci.Imp C N) (j9 : zb3.Imp C N) (k1 : zb0.Imp C N)
  (k2 : zcq.Imp C N) (k3 : zcp.Imp C N) (k4 : zch.Imp C N) (k5 : NextI C (N 298)) (k6 : PowI C (N 299)) (hl : LenI C (N 287)) (s1 : zc3.Spec C N) : zbx.Spec C N := by
 intro h0 h x L R Q ho hlen hq
 have J : OrdI C (opsS 16 (.str []) 0) (N 377) (N 378) (N 379) (N 375) (N 380) (N 381) (N 382) (N 383) (N 384) (N 385) (N 387) (N 388) (N 390) (N 386) (N 298) (N 299) := ⟨j1, j2, j3, j4, j5, j6, j7, j8, j9, k1, k2, k3, k4, k5, k6⟩
 have hc : Ord.zer C (fun a : List UInt8 => AVal.str a) cmpB (N 377) h0 := ⟨fun h' a b K _ hk => s1 _ _ _ _ (by
  rw [show zgm a b = decide (cmpB a b < 0) by rw [Bool.eq_iff_iff, decide_eq_true_eq]; exact cmpB_neg.symm]; exact hk)⟩
 refine i _ _ _ (Sort_spec J hl seqT weakB hc hlen (show Rw _ _ _ _ _ _ _ from ho) fun h' G' hp hs o' => zbi (hq h' G' hp (hs.imp fun {a b} hab => ?_) o'))
 rw [cmpB_neg] at hab
 simpa using hab
def zbm.Spec (C : CSem) (N : Nat → Nat) : Prop := ∀ (h0 h : zb) (x : AVal) (L : List (List UInt8)) (R : List (List AVal)) (Q : AVal → zb → Prop), Owns h0 h [.sl 1 x (L.map tc) R] → L.length ≤ 100000000 →
 (∀ y h' R', Owns h0 h' [.sl 1 y ((zeg L).map tc) R'] → Q y h') → C (N 365) [x] h Q
theorem zbm.spec (i : zbm.Imp C N) : zbm.Spec C N := fun h0 h x L R Q ho hlen hq =>
 i x h Q (compactG_spec (v := fun a : List UInt8 => AVal.str a) (by omega) (fun _ => rfl) V.znx V.bin_sneq ho hlen fun y h' R' o => zbi (hq y h' R' o))
theorem repL_one : ∀ (n : Nat) (v : AVal), repL n [v] = List.replicate n v
 | 0, _ => rfl
 | n + 1, v => (congrArg (v :: ·) (repL_one n v)).trans rfl
def zbt.Spec (C : CSem) (N : Nat → Nat) : Prop := ∀ (n : Nat) (h : zb) (Q : AVal → zb → Prop), n ≤ 100000000 → (∀ x h' R, Owns h h' [.sl 1 x [] R] → Q x h') → C (N 376) [.nils, .int .i64 (n : Int)] h Q
theorem zbt.spec (i : zbt.Imp C N) : zbt.Spec C N := by
 intro n h Q hn hq
 apply i
 have e0 : V.bin .lss (.int .i64 (n : Int)) (.int .i64 0) = some (.bool (decide (n < 0))) := lssN (b := 0)
 have e1 : V.bin .sub (.int .i64 0) (.int .i64 0) = some (.int .i64 0) := rfl
 have e2 : V.bin .sub (.int .i64 (n : Int)) (.int .i64 0) = some (.int .i64 (n : Int)) := zif (b := 0) (by omega) (by omega)
 simp -dsimp only [zbt.cps, zf7.cps, zf7.k1, e0, e1, e2, V.capSl, V.zx, V.zop, B.zg, Nat.not_lt_zero, decide_false, B.cond_false]
 refine B.zm (fun hb => ?_) (fun hb => ?_)
 ·have hb : 0 < n := by simpa using hb
  have e3 : V.zfj (opsS 16 (.str []) 0).es .nils none (some (.int .i64 0)) = some .nils := rfl
  have ec : V.capSl .nils = some (.int .i64 0) := rfl
  have el : V.zx .nils = some (.int .i64 0) := rfl
  simp -dsimp only [ec, e3, B.zg]
  refine ⟨⟨rfl, by omega, by simp [opsS]; omega, by simp [maxLen]; omega⟩, fun id hid => ?_⟩
  have hr : repL (n : Int).toNat (opsS 16 (.str []) 0).z = List.replicate n (.str []) := by rw [Int.toNat_natCast]; exact repL_one n _
  rw [hr]
  have o := (Owns.start h).newSl (id := id) (n := n) (cp := n) (es := 1) (cs := List.replicate n (.str [])) (L := List.replicate n [.str []]) (R := []) hid (by simp) (by simp) (by simp) (by simp)
  obtain ⟨y, e4, e5⟩ := Owns.cutTo (x := .sl id 0 0 n 1 n) o Nat.one_pos (k := 0) (by omega)
  rw [Int.toNat_natCast]
  simp -dsimp only [el, B.zg]
  have e4' : V.zfj (opsS 16 (.str []) 0).es (.sl id 0 0 n (opsS 16 (.str []) 0).es n) none (some (.int .i64 0)) = some y := e4
  simp -dsimp only [e4', B.zg]
  exact zbi (hq y _ _ e5)
 ·exact zbi (hq _ _ _ ((Owns.start h).nils 1))
theorem zp0 {α : Type} {L : List (List α)} {k : Nat} (hk : k < L.length) : ((L.take (k + 1)).flatten).length = (L.take k).flatten.length + L[k].length := by
 rw [List.take_add_one, List.getElem?_eq_getElem hk]; simp only [Option.toList_some, List.flatten_append, List.length_append, List.flatten_singleton]
theorem sumLen_le {α : Type} (L : List (List α)) (k : Nat) : ((L.take k).flatten).length ≤ L.flatten.length := by
 conv => rhs; rw [← List.take_append_drop k L]
 simp only [List.flatten_append, List.length_append]; omega
def zbl.Spec (C : CSem) (N : Nat → Nat) : Prop := ∀ (x : AVal) (xs : List AVal) (L : List (List (List UInt8))) (R : List (List AVal)) (h : zb) (Q : AVal → zb → Prop), SlX h 1 x (xs.map fun y => [y]) R → xs.length = L.length → (∀ (i : Nat) (y : AVal) (l : List (List UInt8)), xs[i]? = some y → L[i]? = some l → ∃ R, SlX h 1 y (l.map tc) R) → L.length ≤ 1000 → L.flatten.length ≤ 100000000 →
 (∀ x' h' R', Owns h h' [.sl 1 x' (L.flatten.map tc) R'] → Q x' h') → C (N 373) [x] h Q
theorem zbl.spec (i : zbl.Imp C N) (s1 : zbt.Spec C N) : zbl.Spec C N := by
 intro x xs L R h Q hx hxl hin hl1 hl2 hq
 apply i
 have hlen := hx.zx
 rw [List.length_map, hxl] at hlen
 simp -dsimp only [zbl.cps, zcz.cps, hlen, B.zg]
 have cell : ∀ {hh : zb} (hle : h.le hh) {k : Nat} (hk : k < L.length) {K : AVal → Prop}, (∀ y R2, SlX hh 1 y (L[k].map tc) R2 → K y) → B.pv (V.idxS (opsS 24 .nils 0).es x (.int .i64 (k : Int))) (fun v => (opsS 24 .nils 0).ld hh v K) := fun {hh} hle {k} hk {K} hK => by
  have hg : (xs.map fun y => [y])[k]? = some [xs[k]'(by omega)] := by rw [List.getElem?_map, List.getElem?_eq_getElem (by omega)]; rfl
  have hidx : V.idxS (opsS 24 .nils 0).es x (.int .i64 (k : Int)) = some (elp 1 x k 0) := hx.idxN (by simp; omega)
  rw [hidx, B.zg]
  simp only [opsS, B.zg7]
  rw [(hx.mono hle).cell hg, B.zg]
  obtain ⟨R2, h2⟩ := hin k _ _ (List.getElem?_eq_getElem (by omega)) (List.getElem?_eq_getElem hk)
  exact hK _ _ (h2.mono hle)
 refine zd.intro (fun t vs hh => hh = h ∧ ∃ k : Nat, k + t = L.length ∧ vs = [.int .i64 ((L.take k).flatten.length : Int), .int .i64 (k : Int)]) L.length ?_ ⟨rfl, 0, by omega, rfl⟩
 rintro Y t vs hh ⟨rfl, k, ht, rfl⟩ hY
 simp -dsimp only [zcz.l4, zcz.k3, lssN, B.zg]
 refine B.zm (fun hb => ?_) (fun hb => ?_)
 ·rw [decide_eq_true_eq] at hb
  have hs := zp0 hb
  have hle := sumLen_le L (k + 1)
  refine cell (zb.le_refl _) hb fun y R2 hy => ?_
  have e1 := hy.zx
  rw [List.length_map] at e1
  have e2 : V.bin .lss (.int .i64 (((L.take k).flatten.length + L[k].length : Nat) : Int)) (.int .i64 0) = some (.bool false) := by
   exact (lssN (b := 0)).trans (by simp)
  simp -dsimp only [e1, zj7 (a := (L.take k).flatten.length) (b := L[k].length) (by omega), e2, B.zg, B.cond_false, add1 (show k < 4611686018427387904 by omega)]
  exact hY (t - 1) _ _ (by omega) ⟨rfl, k + 1, by omega, by rw [hs]⟩
 ·rw [decide_eq_false_iff_not] at hb
  have hk : k = L.length := by omega
  subst hk
  rw [List.take_length]
  refine s1 _ _ _ hl2 fun y0 h1 R1 o1 => ?_
  simp -dsimp only [hlen, B.zg]
  refine zd.intro (fun t vs h2 => ∃ (k : Nat) (y : AVal) (R2 : List (List AVal)), k + t = L.length ∧ vs = [y, .int .i64 (k : Int)] ∧ Owns hh h2 [.sl 1 y ((L.take k).flatten.map tc) R2]) L.length ?_ ⟨0, y0, R1, by omega, rfl, o1⟩
  rintro Z t2 vs h2 ⟨k, y, R2, ht2, rfl, o2⟩ hZ
  simp -dsimp only [zcz.l2, zcz.k1, lssN, B.zg]
  refine B.zm (fun hc => ?_) (fun hc => ?_)
  ·rw [decide_eq_true_eq] at hc
   have hs := zp0 hc
   have hle := sumLen_le L (k + 1)
   refine cell o2.le hc fun z R3 hz => ?_
   refine o2.appW 0 rfl hz Nat.one_pos (by simp only [List.length_map]; omega) (by simp only [List.length_map, maxLen]; omega) fun x' h' o3 _ => ?_
   simp -dsimp only [add1 (show k < 4611686018427387904 by omega), B.zg]
   refine hZ (t2 - 1) _ _ (by omega) ⟨k + 1, x', [], by omega, rfl, ?_⟩
   rw [List.take_add_one, List.getElem?_eq_getElem hc, Option.toList_some, List.flatten_append, List.flatten_singleton, List.map_append]
   exact o3
  ·rw [decide_eq_false_iff_not] at hc
   have hk : k = L.length := by omega
   subst hk
   rw [List.take_length] at o2
   exact zbi (hq _ _ _ o2)
end Go.Ab
