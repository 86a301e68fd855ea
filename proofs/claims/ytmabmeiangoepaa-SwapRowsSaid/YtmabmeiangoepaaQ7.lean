/- What is proved: a part of the way to the statement: DiA, DbB, Pdelta, Rref03, Ccode, Pkit, AcP, AcQ, AcS, SrtA, SrtB, SrtC, SrtD, SrtE, SrtF, SrtG, SrtH, SrtI, SrtJ, SrtK, SrtP, SrtT, SrtP2, SrtP3, SrtP4, SrtP5, SrtP6, SrtP7, SrtP8, Rwindow, C01, Rlot, Rref04, Rtell, Rref14, Rref13, Ctell, Ctell2, Ctell3, SrtP9, SrtP10. No conditions. -/
import Derived.Test.YtmabmeiangoepaaQ6
import Derived.Lib.Bytealg
import Derived.Test.YtmabmeiangoepaaQ3
set_option linter.unusedVariables false
set_option linter.unusedSimpArgs false
namespace Go.Ab
variable {C : CSem} {N : Nat → Nat}
structure Itm where
 Code : List UInt8
 Life : Int
 Parts : List Part
 Others : List (List UInt8)
 deriving DecidableEq
def few : Nat := 100000000
abbrev Itm.ok (t : Itm) : Prop := t.Parts.length ≤ few ∧ t.Others.length ≤ few
def partsOb (b : Bool) (x : AVal) (l : List Part) : Ob := .sl 2 x (l.map Part.cs) (bif b then marksPart else [])
def textsOb (b : Bool) (x : AVal) (l : List (List UInt8)) : Ob := .sl 1 x (l.map tc) (bif b then marksText else [])
def itemK : DK Itm (AVal × AVal) where
 n := 4
 bytes := 72
 z := [.str [], .int .i64 0, .nils, .nils]
 pos := by omega
 small := by omega
 zlen := rfl
 cells t a := [.str t.Code, .int .i64 t.Life, a.1, a.2]
 len _ _ := rfl
 at_ h t a := (∃ R, SlX h 2 a.1 (t.Parts.map Part.cs) R) ∧ (∃ R, SlX h 1 a.2 (t.Others.map tc) R) ∧ t.ok
 mono hle ha := ⟨ha.1.imp fun _ r => r.mono hle, ha.2.1.imp fun _ r => r.mono hle, ha.2.2⟩
 ok := Itm.ok
 at_ok ha := ha.2.2
 obs b t a := [partsOb b a.1 t.Parts, textsOb b a.2 t.Others]
 ofObs {b h t a} hk ha := ⟨⟨_, show SlX h 2 a.1 (t.Parts.map Part.cs) (bif b then marksPart else []) from ha (partsOb b a.1 t.Parts) (by simp)⟩, ⟨_, show SlX h 1 a.2 (t.Others.map tc) (bif b then marksText else []) from ha (textsOb b a.2 t.Others) (by simp)⟩, hk⟩
abbrev iCells (t : Itm) (a : AVal × AVal) : List AVal := [.str t.Code, .int .i64 t.Life, a.1, a.2]
def kit_CopyItem.Spec (C : CSem) (N : Nat → Nat) : Prop := OneE itemK false C (N 361)
theorem kit_CopyItem.spec (i : kit_CopyItem.Imp C N) (s1 : kit_CopyParts.Spec C N) (s2 : kit_CopyTexts.Spec C N) : kit_CopyItem.Spec C N := by
 intro t a h Q ha hq
 obtain ⟨⟨R1, a1⟩, ⟨R2, a2⟩, a3, a4⟩ : (∃ R, SlX h 2 a.1 (t.Parts.map Part.cs) R) ∧ (∃ R, SlX h 1 a.2 (t.Others.map tc) R) ∧ t.ok := ha
 apply i
 simp -dsimp [itemK]
 refine s1 _ _ _ _ _ a1 a3 fun x1 h1 o1 => ?_
 have c1 := (o1.slAt 0 rfl).isCell
 simp -dsimp [c1]
 refine s2 _ _ _ _ _ (a2.mono o1.le) a4 fun x2 h2 o2 => ?_
 have c2 := (o2.slAt 0 rfl).isCell
 simp -dsimp [c2]
 exact dn_same (hq (x1, x2) h2 (o1.join o2))
def kit_CopyItems.Spec (C : CSem) (N : Nat → Nat) : Prop := ∀ (x : AVal) (L : List Itm) (h : AHeap) (Q : AVal → AHeap → Prop), Dl itemK h x L → L.length ≤ 100000000 →
 (∀ x' P h', P.map (·.1) = L → Df itemK h h' x' P → Q x' h') → C (N 354) [x] h Q
theorem kit_CopyItems.spec (i : kit_CopyItems.Imp C N) (s1 : kit_CopyItem.Spec C N) : kit_CopyItems.Spec C N := fun x L h Q hx hl hq =>
 i x h Q (copyD_spec (K := itemK) s1 hx hl fun x' P h' e o => dn_same (hq x' P h' e o))
end Go.Ab
namespace Go.Ab
abbrev lessB : List UInt8 → List UInt8 → Bool := Op.bytesLess
theorem lessB_nil (a : List UInt8) : lessB a [] = false := by cases a <;> rfl
theorem lessB_cc (a b : UInt8) (as1 bs : List UInt8) : lessB (a :: as1) (b :: bs) = (decide (a < b) || (a == b && lessB as1 bs)) := rfl
theorem u8_tri (a b : UInt8) : a < b ∨ a = b ∨ b < a := by
 simp only [UInt8.lt_iff_toNat_lt, ← UInt8.toNat_inj]; omega
theorem lessB_irr : ∀ a : List UInt8, lessB a a = false
 | [] => rfl
 | a :: as1 => by rw [lessB_cc, lessB_irr as1]; simp
theorem lessB_trans : ∀ {a b c : List UInt8}, lessB a b = true → lessB b c = true → lessB a c = true
 | _, [], _, h, _ => by rw [lessB_nil] at h; cases h
 | _, _ :: _, [], _, h => by rw [lessB_nil] at h; cases h
 | [], _ :: _, _ :: _, _, _ => rfl
 | a :: as1, b :: bs, c :: cs, h1, h2 => by
  rw [lessB_cc] at h1 h2 ⊢
  simp only [Bool.or_eq_true, decide_eq_true_eq, Bool.and_eq_true, beq_iff_eq] at h1 h2 ⊢
  rcases h1 with h1 | ⟨rfl, h1⟩
  ·rcases h2 with h2 | ⟨rfl, h2⟩
   ·left; simp only [UInt8.lt_iff_toNat_lt] at *; omega
   ·exact .inl h1
  ·rcases h2 with h2 | ⟨rfl, h2⟩
   ·exact .inl h2
   ·exact .inr ⟨rfl, lessB_trans h1 h2⟩
theorem lessB_total : ∀ {a b : List UInt8}, lessB a b = false → lessB b a = false → a = b
 | [], [], _, _ => rfl
 | [], _ :: _, h, _ => by cases h
 | _ :: _, [], _, h => by cases h
 | a :: as1, b :: bs, h1, h2 => by
  rw [lessB_cc] at h1 h2
  simp only [Bool.or_eq_false_iff, decide_eq_false_iff_not, Bool.and_eq_false_iff, beq_eq_false_iff_ne] at h1 h2
  obtain rfl : a = b := by rcases u8_tri a b with h | h | h <;> simp_all
  rw [lessB_total (h1.2.resolve_left fun h => h rfl) (h2.2.resolve_left fun h => h rfl)]
theorem lessB_asym {a b : List UInt8} (h : lessB a b = true) : lessB b a = false := by
 cases e : lessB b a with
 | false => rfl
 | true => have := lessB_trans h e; rw [lessB_irr] at this; cases this
theorem lessB_ne {a b : List UInt8} (h : lessB a b = true) : a ≠ b := fun e => by subst e; rw [lessB_irr] at h; cases h
theorem lessB_or {a b : List UInt8} (h : lessB a b = false) (hne : a ≠ b) : lessB b a = true := by
 cases e : lessB b a with
 | true => rfl
 | false => exact absurd (lessB_total h e) hne
abbrev cmpB := Lib.compareBytes
theorem cmpB_spec : ∀ a b : List UInt8, cmpB a b = if lessB a b then -1 else if lessB b a then 1 else 0
 | [], [] => rfl
 | [], _ :: _ => rfl
 | _ :: _, [] => rfl
 | a :: as1, b :: bs => by
  have ih := cmpB_spec as1 bs
  show (if a < b then -1 else if b < a then 1 else cmpB as1 bs) = _
  rw [ih, lessB_cc, lessB_cc]
  rcases u8_tri a b with h | rfl | h
  ·simp [h]
  ·have hi : ¬ a < a := by simp only [UInt8.lt_iff_toNat_lt]; omega
   simp
  ·have h1 : ¬ a < b := by simp only [UInt8.lt_iff_toNat_lt] at *; omega
   have h2 : a ≠ b := fun e => by subst e; exact h1 h
   have h3 : (a == b) = false := by simp [h2]
   simp [h, h1, h3]
theorem cmpB_neg {a b : List UInt8} : cmpB a b < 0 ↔ lessB a b = true := by
 rw [cmpB_spec]; split
 ·simp [*]
 ·split <;> simp [*]
end Go.Ab
namespace Go.Ab
variable {C : CSem} {N : Nat → Nat}
theorem nextStr_at {h : AHeap} {id : Nat} {b : Blk} {s : List UInt8} {pos : Nat} {K : AVal → AHeap → Prop} (hb : h id = some b) (ho : b.obj = some (.iter s pos)) :
  (B.nextStr h (.ptr id 0 0) K : Prop) = if pos < s.length then K (.tup [.bool true, .int .i64 pos, .int .i32 (A.rune s pos).1]) (upd h id { b with obj := some (.iter s (pos + (A.rune s pos).2)) }) else K (.tup [.bool false]) h := by
 simp only [B.nextStr, A.nextStr, hb, ho]
theorem get_bang {s : List UInt8} {pos : Nat} {b : UInt8} (hb : s[pos]? = some b) : ((⟨s.toArray⟩ : ByteArray).get! pos) = b := by
 simp [ByteArray.get!, hb]
theorem rune_ascii {s : List UInt8} {pos : Nat} {b : UInt8} (hb : s[pos]? = some b) (h : b.toNat < 128) : A.rune s pos = (b.toNat, 1) := by
 unfold A.rune Utf8.decode
 simp only [Nat.add_zero, get_bang hb]
 rw [if_pos h]
theorem rune_high {s : List UInt8} {pos : Nat} {b : UInt8} (hb : s[pos]? = some b) (h : 128 ≤ b.toNat) : 128 ≤ (A.rune s pos).1 := by
 unfold A.rune Utf8.decode
 simp only [Nat.add_zero, get_bang hb]
 rw [if_neg (by omega)]
 split
 ·split <;> simp_all [Utf8.runeError]
 ·split
  ·split <;> simp_all [Utf8.runeError]; omega
  ·split
   ·split <;> simp_all [Utf8.runeError]; omega
   ·simp [Utf8.runeError]
def codeCh (i : Nat) (b : UInt8) : Bool := (decide (65 ≤ b.toNat) && decide (b.toNat ≤ 90)) || (decide (0 < i) && ((decide (48 ≤ b.toNat) && decide (b.toNat ≤ 57)) || decide (b.toNat = 45)))
def codeTo (s : List UInt8) : Nat → Bool
 | 0 => true
 | n + 1 => codeTo s n && codeCh n (s.getD n 0)
def codeRight (s : List UInt8) : Bool := !s.isEmpty && decide (s.length ≤ 12) && codeTo s s.length
theorem codeTo_bad {s : List UInt8} {k : Nat} (h : codeTo s k = true) {b : UInt8} (hb : s[k]? = some b) (hc : codeCh k b = false) : ∀ n, k < n → codeTo s n = false
 | 0, h => by omega
 | n + 1, hn => by
  by_cases e : n = k
  ·subst e; simp [codeTo, List.getD, hb, hc]
  ·rw [codeTo, codeTo_bad h hb hc n (by omega)]; rfl
theorem codeTo_step {s : List UInt8} {k : Nat} (h : codeTo s k = true) {b : UInt8} (hb : s[k]? = some b) (hc : codeCh k b = true) : codeTo s (k + 1) = true := by
 simp [codeTo, List.getD, hb, hc, h]
theorem codeRight_bad {s : List UInt8} {k : Nat} (h : codeTo s k = true) {b : UInt8} (hb : s[k]? = some b) (hc : codeCh k b = false) : codeRight s = false := by
 have := codeTo_bad h hb hc s.length (List.getElem?_eq_some_iff.1 hb).1
 simp [codeRight, this]
def code_Right.Spec (C : CSem) (N : Nat → Nat) : Prop := ∀ (s : List UInt8) (h : AHeap) (Q : AVal → AHeap → Prop), Q (.bool (codeRight s)) h → C (N 53) [.str s] h Q
def itB (s : List UInt8) (k : Nat) : Blk := { cells := [], gens := [], next := 1, own := true, obj := some (.iter s k) }
theorem code_Right.spec (i : code_Right.Imp C N) : code_Right.Spec C N := by
 intro s h Q hq
 apply i
 simp only [code_Right.cps]
 intro id hid
 refine LoopR.intro (fun n vs hh => ∃ k, k + n = s.length ∧ vs = [] ∧ hh = upd h id (itB s k) ∧ codeTo s k = true) s.length ?_ ⟨0, by simp, rfl, rfl, rfl⟩
 rintro Y n vs hh ⟨k, hn, rfl, rfl, hc⟩ hY
 simp only [code_Right.l3, code_Right.k2]
 rw [nextStr_at (upd_same ..) rfl]
 have hle : h.le (upd h id (itB s k)) := le_upd _ hid
 split
 ·rename_i hk
  obtain ⟨b, hb⟩ := get_lt hk
  by_cases hlt : b.toNat < 128
  ·rw [rune_ascii hb hlt, upd_upd]
   have next : codeCh k b = true → Y [] (upd h id { cells := (itB s k).cells, gens := (itB s k).gens, next := (itB s k).next, own := (itB s k).own, obj := some (.iter s (k + 1)) }) := fun hcc =>
    hY (n - 1) _ _ (by omega) ⟨k + 1, by omega, rfl, rfl, codeTo_step hc hb hcc⟩
   simp +contextual -dsimp
   refine B.cond_bool (fun h1 => ?_) (fun h1 => ?_)
   ·exact next (by simp at h1; simp [codeCh]; omega)
   ·simp +contextual -dsimp
    refine B.cond_bool (fun h2 => ?_) (fun h2 => ?_)
    ·exact next (by simp at h2; simp [codeCh]; omega)
    ·have := codeRight_bad hc hb (by simp at h1 h2; simp [codeCh]; omega)
     rw [this] at hq
     exact dn_le (le_upd _ hid) hq
  ·have hr := rune_high hb (by omega)
   have := codeRight_bad hc hb (by simp [codeCh]; omega)
   rw [this] at hq
   simp +contextual -dsimp
   refine B.cond_bool (fun h1 => ?_) (fun h1 => ?_)
   ·simp at h1; omega
   ·simp +contextual -dsimp
    refine B.cond_bool (fun h2 => ?_) (fun h2 => ?_)
    ·simp at h2; omega
    ·exact dn_le (le_upd _ hid) hq
 ·have hk : k = s.length := by omega
  subst hk
  have : codeRight s = (!decide (s = []) && decide ((s.length : Int) ≤ 12)) := by
   unfold codeRight
   rw [hc, Bool.and_true]
   cases s with
   | nil => rfl
   | cons a r => simp; omega
  rw [this] at hq
  simp +contextual -dsimp
  exact dn_le hle hq
theorem SlX.sliceIn {T : Type} {h : AHeap} {es : Nat} {x : AVal} {f : T → List AVal} {L : List T} {R : List (List AVal)} (hs : SlX h es x (L.map f) R) (hes : 0 < es) {lo hi : Nat} {a b : Option AVal} (ha : a = none ∧ lo = 0 ∨ ∃ k, a = some (.int k lo)) (hb : b = none ∧ hi = L.length ∨ ∃ k, b = some (.int k hi)) (h1 : lo ≤ hi) (h2 : hi ≤ L.length) :
  ∃ x' R', V.cutSl es x a b = some x' ∧ SlX h es x' (((L.take hi).drop lo).map f) R' ∧ foot x' = foot x := by
 obtain ⟨x', e1, e2, e3⟩ := hs.slice hes ha (by simpa using hb) h1 (by simp; omega)
 refine ⟨x', (L.map f ++ R).drop hi, e1, ?_, e3⟩
 rwa [List.take_append_of_le_length (by simpa using h2), ← List.map_take, ← List.map_drop] at e2
def codeGet : List UInt8 → List UInt8 × Nat × Bool
 | [] => ([], 0, false)
 | c :: r => if r.length < c.toNat ∨ (r.take c.toNat ≠ [] ∧ codeRight (r.take c.toNat) = false) then ([], 0, false) else (r.take c.toNat, 1 + c.toNat, true)
theorem codeGet_cons (c : UInt8) (r : List UInt8) : codeGet (c :: r) = if r.length < c.toNat ∨ (r.take c.toNat ≠ [] ∧ codeRight (r.take c.toNat) = false) then ([], 0, false) else (r.take c.toNat, 1 + c.toNat, true) := rfl
end Go.Ab
namespace Go.Ab
section
variable {V : Type}
def maxD (f : V → Option Nat) : List V → Nat → Option Nat
 | [], m => some m
 | p :: r, m => match f p with
  | some d => maxD f r (max m (1 + d))
  | none => none
theorem maxD_cons {f : V → Option Nat} {p : V} {r : List V} {m : Nat} : maxD f (p :: r) m = (f p).bind fun d => maxD f r (max m (1 + d)) := by
 rw [maxD]; cases f p <;> rfl
theorem maxD_append (f : V → Option Nat) : ∀ (l k : List V) (m : Nat), maxD f (l ++ k) m = (maxD f l m).bind fun a => maxD f k a
 | [], _, _ => rfl
 | p :: r, k, m => by
  rw [List.cons_append, maxD_cons, maxD_cons]
  cases f p with
  | none => rfl
  | some d => exact maxD_append f r k _
theorem maxD_mono {f g : V → Option Nat} : ∀ {l : List V} {m r : Nat}, (∀ p ∈ l, ∀ d, f p = some d → g p = some d) → maxD f l m = some r → maxD g l m = some r
 | [], _, _, _, h => h
 | p :: l, m, r, hfg, h => by
  rw [maxD_cons] at h ⊢
  cases hp : f p with
  | none => rw [hp] at h; cases h
  | some d =>
   rw [hp] at h
   rw [hfg p (by simp) d hp]
   exact maxD_mono (fun q hq => hfg q (List.mem_cons_of_mem _ hq)) h
theorem maxD_ge {f : V → Option Nat} : ∀ {l : List V} {m r : Nat}, maxD f l m = some r → m ≤ r ∧ ∀ p ∈ l, ∃ d, f p = some d ∧ 1 + d ≤ r
 | [], m, r, h => by cases h; exact ⟨Nat.le_refl _, fun _ h => by cases h⟩
 | p :: l, m, r, h => by
  rw [maxD_cons] at h
  cases hp : f p with
  | none => rw [hp] at h; cases h
  | some d =>
   rw [hp] at h
   obtain ⟨h1, h2⟩ := maxD_ge (l := l) h
   refine ⟨by omega, fun q hq => ?_⟩
   rcases List.mem_cons.1 hq with rfl | hq
   ·exact ⟨d, hp, by omega⟩
   ·exact h2 q hq
theorem maxD_top {f : V → Option Nat} : ∀ {l : List V} {m r : Nat}, maxD f l m = some r → r = m ∨ ∃ p ∈ l, ∃ d, f p = some d ∧ r = 1 + d
 | [], m, r, h => by cases h; exact .inl rfl
 | p :: l, m, r, h => by
  rw [maxD_cons] at h
  cases hp : f p with
  | none => rw [hp] at h; cases h
  | some d =>
   rw [hp] at h
   rcases maxD_top (l := l) h with h | ⟨q, hq, e, h1, h2⟩
   ·by_cases hm : m < 1 + d
    ·exact .inr ⟨p, by simp, d, hp, by omega⟩
    ·exact .inl (by omega)
   ·exact .inr ⟨q, List.mem_cons_of_mem _ hq, e, h1, h2⟩
theorem maxD_none {f : V → Option Nat} {l : List V} {m : Nat} {p : V} (hp : p ∈ l) (hf : f p = none) : maxD f l m = none := by
 cases h : maxD f l m with
 | none => rfl
 | some r => obtain ⟨d, h1, _⟩ := (maxD_ge h).2 p hp; rw [hf] at h1; cases h1
variable (E : V → List V)
def depF : Nat → V → Option Nat
 | 0, _ => none
 | n + 1, c => maxD (depF n) (E c) 1
variable {E}
theorem depF_succ : ∀ {n : Nat} {c : V} {d : Nat}, depF E n c = some d → depF E (n + 1) c = some d
 | 0, _, _, h => by cases h
 | n + 1, c, d, h => maxD_mono (fun p _ e he => depF_succ he) h
theorem depF_le {n m : Nat} (hm : n ≤ m) {c : V} {d : Nat} (h : depF E n c = some d) : depF E m c = some d := by
 obtain ⟨k, rfl⟩ := Nat.exists_eq_add_of_le hm
 clear hm
 induction k with
 | zero => exact h
 | succ k ih => exact depF_succ ih
theorem depF_fun {n m : Nat} {c : V} {d e : Nat} (h1 : depF E n c = some d) (h2 : depF E m c = some e) : d = e := by
 have a := depF_le (Nat.le_max_left n m) h1
 rw [depF_le (Nat.le_max_right n m) h2] at a
 exact (Option.some.inj a).symm
theorem depF_pos {n : Nat} {c : V} {d : Nat} (h : depF E n c = some d) : 1 ≤ d := by
 cases n with
 | zero => cases h
 | succ n => exact (maxD_ge h).1
theorem depF_self : ∀ {n : Nat} {c : V} {d : Nat}, depF E n c = some d → depF E d c = some d
 | 0, _, _, h => by cases h
 | n + 1, c, d, h => by
  have h1 := depF_pos h
  obtain ⟨e, rfl⟩ : ∃ e, d = e + 1 := ⟨d - 1, by omega⟩
  refine maxD_mono (fun p hp x hx => ?_) h
  obtain ⟨y, hy, hle⟩ := (maxD_ge h).2 p hp
  rw [hy] at hx
  cases hx
  exact depF_le (by omega) (depF_self hy)
theorem depF_chain {K : List V} (hcl : ∀ c ∈ K, ∀ p ∈ E c, p ∈ K) : ∀ {n : Nat} {c : V} {d : Nat}, depF E n c = some d → c ∈ K → ∀ e, 1 ≤ e → e ≤ d → ∃ c' ∈ K, ∃ m, depF E m c' = some e
 | 0, _, _, h, _, _, _, _ => by cases h
 | n + 1, c, d, h, hc, e, h1, h2 => by
  by_cases he : e = d
  ·subst he; exact ⟨c, hc, _, h⟩
  ·rcases maxD_top h with rfl | ⟨p, hp, x, hx, rfl⟩
   ·omega
   ·exact depF_chain hcl hx (hcl c hc p hp) e h1 (by omega)
theorem depF_bound {K : List V} (hcl : ∀ c ∈ K, ∀ p ∈ E c, p ∈ K) {n : Nat} {c : V} {d : Nat} (h : depF E n c = some d) (hc : c ∈ K) : d ≤ K.length := by
 have : ∀ j, j ≤ d → ∃ l : List V, l.length = j ∧ l.Nodup ∧ ∀ x ∈ l, x ∈ K ∧ ∃ m e, depF E m x = some e ∧ e ≤ j := by
  intro j
  induction j with
  | zero => exact fun _ => ⟨[], rfl, List.Pairwise.nil, fun _ h => by cases h⟩
  | succ j ih =>
   intro hj
   obtain ⟨l, h1, h2, h3⟩ := ih (by omega)
   obtain ⟨c', k1, m, k2⟩ := depF_chain hcl h hc (j + 1) (by omega) hj
   refine ⟨c' :: l, by simp [h1], List.nodup_cons.2 ⟨fun hm => ?_, h2⟩, fun x hx => ?_⟩
   ·obtain ⟨_, m', e, k3, k4⟩ := h3 c' hm
    have := depF_fun k2 k3
    omega
   ·rcases List.mem_cons.1 hx with rfl | hx
    ·exact ⟨k1, m, _, k2, Nat.le_refl _⟩
    ·obtain ⟨a, m', e, b, c⟩ := h3 x hx
     exact ⟨a, m', e, b, by omega⟩
 obtain ⟨l, h1, h2, h3⟩ := this d (Nat.le_refl _)
 have := List.Nodup.length_le_of_subset h2 (fun x hx => (h3 x hx).1)
 omega
structure Deep (E : V → List V) (K : List V) (D : V → Option Nat) : Prop where
 eq : ∀ c ∈ K, D c = maxD D (E c) 1
 cl : ∀ c ∈ K, ∀ p ∈ E c, p ∈ K
 le : ∀ c ∈ K, ∀ d, D c = some d → d ≤ K.length
theorem deep_depF {K : List V} (hcl : ∀ c ∈ K, ∀ p ∈ E c, p ∈ K) : Deep E K (depF E K.length) where
 cl := hcl
 le c hc d h := depF_bound hcl h hc
 eq c hc := by
  cases h : maxD (depF E K.length) (E c) 1 with
  | some r =>
   have h' : depF E (K.length + 1) c = some r := h
   exact depF_le (depF_bound hcl h' hc) (depF_self h')
  | none =>
   cases h2 : depF E K.length c with
   | none => rfl
   | some d =>
    have := depF_succ h2
    rw [show depF E (K.length + 1) c = maxD (depF E K.length) (E c) 1 from rfl, h] at this
    cases this
variable {K : List V} {D : V → Option Nat}
theorem Deep.pos (h : Deep E K D) {c : V} (hc : c ∈ K) {d : Nat} (hd : D c = some d) : 1 ≤ d := by
 rw [h.eq c hc] at hd; exact (maxD_ge hd).1
theorem Deep.step (h : Deep E K D) {c p : V} (hc : c ∈ K) (hp : p ∈ E c) {d : Nat} (hd : D c = some d) : ∃ e, D p = some e ∧ e < d := by
 rw [h.eq c hc] at hd
 obtain ⟨e, h1, h2⟩ := (maxD_ge hd).2 p hp
 exact ⟨e, h1, by omega⟩
inductive Way1 (E : V → List V) : V → V → Prop
 | one {c p : V} : p ∈ E c → Way1 E c p
 | more {c p q : V} : Way1 E c p → q ∈ E p → Way1 E c q
theorem Deep.way (h : Deep E K D) {c p : V} (w : Way1 E c p) : c ∈ K → p ∈ K ∧ ∀ d, D c = some d → ∃ e, D p = some e ∧ e < d := by
 induction w with
 | one hp => exact fun hc => ⟨h.cl _ hc _ hp, fun d hd => h.step hc hp hd⟩
 | more w hq ih =>
  intro hc
  obtain ⟨h1, h2⟩ := ih hc
  refine ⟨h.cl _ h1 _ hq, fun d hd => ?_⟩
  obtain ⟨e, he, hlt⟩ := h2 d hd
  obtain ⟨e', he', hlt'⟩ := h.step h1 hq he
  exact ⟨e', he', by omega⟩
theorem Deep.round (h : Deep E K D) {c : V} (w : Way1 E c c) (hc : c ∈ K) : D c = none := by
 cases hd : D c with
 | none => rfl
 | some d => obtain ⟨e, h1, h2⟩ := (h.way w hc).2 d hd; rw [hd] at h1; cases h1; omega
theorem Deep.no (h : Deep E K D) {c p : V} (hc : c ∈ K) (hp : p ∈ E c) (hd : D p = none) : D c = none := by
 rw [h.eq c hc]; exact maxD_none hp hd
end
def itemOf (L : List Itm) (c : List UInt8) : Option Itm := L.find? fun x => decide (x.Code = c)
def partsIn (x : Itm) : List (List UInt8) := x.Parts.map Part.Item
def partsL (L : List Itm) (c : List UInt8) : List (List UInt8) := match itemOf L c with | some x => partsIn x | none => []
def codesL (L : List Itm) : List (List UInt8) := L.map Itm.Code
def deepL (L : List Itm) (c : List UInt8) : Option Nat := depF (partsL L) L.length c
def kitOne (x : Itm) : Bool := bif decide (x.Parts = []) then decide (0 < x.Life) && decide (x.Life ≤ 2000) else
 (x.Parts.all fun p => decide (1 ≤ p.Qty) && decide (p.Qty ≤ 1073741824)) && (decide (partsIn x).Nodup && (decide (x.Life = 0) && decide (x.Parts.length ≤ 8)))
def ordAt (L : List Itm) (i : Nat) (x : Itm) : Bool := decide (i = 0) || match L[i - 1]? with | some p => lessB p.Code x.Code | none => true
def kitAt (L : List Itm) (i : Nat) : Bool := match L[i]? with
 | some x => codeRight x.Code && (ordAt L i x && kitOne x)
 | none => true
def kitAll (L : List Itm) : Bool := (List.range L.length).all (kitAt L)
def partsThere (L : List Itm) : Bool := L.all fun x => x.Parts.all fun p => (codesL L).contains p.Item
def kitCheck (L : List Itm) : Int :=
 bif decide (60 < L.length) then 3 else bif !kitAll L then 4 else bif !partsThere L then 150 else
 bif L.any (fun x => decide (deepL L x.Code = none)) then 152 else bif L.any (fun x => decide (8 < (deepL L x.Code).getD 0)) then 3 else 0
theorem kitAll_false {L : List Itm} {i : Nat} (hi : i < L.length) (h : kitAt L i = false) : kitAll L = false := by
 unfold kitAll
 rw [List.all_eq_false]
 exact ⟨i, by simpa using hi, by simp [h]⟩
theorem kitAll_true {L : List Itm} (h : ∀ i, i < L.length → kitAt L i = true) : kitAll L = true := by
 unfold kitAll
 rw [List.all_eq_true]
 exact fun i hi => h i (by simpa using hi)
theorem kitAll_at {L : List Itm} (h : kitAll L = true) {i : Nat} (hi : i < L.length) : kitAt L i = true := by
 unfold kitAll at h
 rw [List.all_eq_true] at h
 exact h i (by simpa using hi)
theorem kitAt_some {L : List Itm} {i : Nat} {x : Itm} (h : L[i]? = some x) : kitAt L i = (codeRight x.Code && (ordAt L i x && kitOne x)) := by
 unfold kitAt; rw [h]
theorem ordAt_some {L : List Itm} {i : Nat} {x p : Itm} (hi : i ≠ 0) (hp : L[i - 1]? = some p) : ordAt L i x = lessB p.Code x.Code := by
 unfold ordAt; rw [hp]; simp [hi]
theorem kitAll_asc {L : List Itm} (h : kitAll L = true) : ∀ {j : Nat} {y : Itm}, L[j]? = some y → ∀ {i : Nat} {x : Itm}, i < j → L[i]? = some x → lessB x.Code y.Code = true
 | 0, _, _, i, _, hi, _ => by omega
 | j + 1, y, hy, i, x, hi, hx => by
  have hj : j + 1 < L.length := List.getElem?_eq_some_iff.1 hy |>.1
  have := kitAll_at h hj
  rw [kitAt_some hy] at this
  obtain ⟨z, hz⟩ := get_lt (L := L) (k := j) (by omega)
  rw [ordAt_some (p := z) (by omega) hz, Bool.and_eq_true, Bool.and_eq_true] at this
  have h1 : lessB z.Code y.Code = true := this.2.1
  by_cases e : i = j
  ·subst e; rw [hz] at hx; cases hx; exact h1
  ·exact lessB_trans (kitAll_asc h hz (by omega) hx) h1
theorem kitAll_nodup {L : List Itm} (h : kitAll L = true) : (codesL L).Nodup := by
 unfold codesL List.Nodup
 rw [List.pairwise_map, List.pairwise_iff_getElem]
 intro i j hi hj hij e
 have := kitAll_asc h (List.getElem?_eq_getElem hj) hij (List.getElem?_eq_getElem hi)
 exact lessB_ne this e
theorem itemOf_none {L : List Itm} {c : List UInt8} : itemOf L c = none ↔ c ∉ codesL L := by
 unfold itemOf codesL
 rw [List.find?_eq_none, List.mem_map]
 constructor
 ·rintro h ⟨x, hx, rfl⟩; exact h x hx (by simp)
 ·intro h x hx e; exact h ⟨x, hx, by simpa using e⟩
theorem itemOf_some {L : List Itm} {c : List UInt8} {x : Itm} (h : itemOf L c = some x) : x ∈ L ∧ x.Code = c :=
 ⟨List.mem_of_find?_eq_some h, by simpa using List.find?_some h⟩
theorem itemOf_mem : ∀ {L : List Itm} (hn : (codesL L).Nodup) {x : Itm} (hx : x ∈ L), itemOf L x.Code = some x
 | y :: L, hn, x, hx => by
  have hn : (y.Code :: codesL L).Nodup := hn
  rw [List.nodup_cons] at hn
  unfold itemOf
  rw [List.find?_cons]
  rcases List.mem_cons.1 hx with rfl | hx
  ·simp
  ·have : y.Code ≠ x.Code := fun e => hn.1 (by rw [e]; exact List.mem_map_of_mem hx)
   simp only [this, decide_false]
   exact itemOf_mem hn.2 hx
theorem deepL_deep {L : List Itm} (h : partsThere L = true) : Deep (partsL L) (codesL L) (deepL L) := by
 have hl : (codesL L).length = L.length := by simp [codesL]
 have := deep_depF (E := partsL L) (K := codesL L) (fun c hc p hp => by
  unfold partsL at hp
  cases hi : itemOf L c with
  | none => rw [hi] at hp; cases hp
  | some x =>
   rw [hi] at hp
   obtain ⟨q, hq, rfl⟩ := List.mem_map.1 hp
   unfold partsThere at h
   rw [List.all_eq_true] at h
   have := h x (itemOf_some hi).1
   rw [List.all_eq_true] at this
   simpa using this q hq)
 rw [hl] at this
 exact this
end Go.Ab
namespace Go.Ab
theorem flat_take {α : Type} {n : Nat} : ∀ {css : List (List α)}, (∀ cs ∈ css, cs.length = n) → ∀ k : Nat, (css.take k).flatten = css.flatten.take (k * n)
 | [], _, k => by simp
 | c :: css, hl, 0 => by simp
 | c :: css, hl, k + 1 => by
  have hc : c.length = n := hl c (by simp)
  rw [List.take_succ_cons, List.flatten_cons, List.flatten_cons, flat_take (fun p hp => hl p (by simp [hp])) k, Nat.add_mul, Nat.one_mul, show k * n + n = c.length + k * n by omega, List.take_length_add_append]
theorem flat_drop {α : Type} {n : Nat} : ∀ {css : List (List α)}, (∀ cs ∈ css, cs.length = n) → ∀ k : Nat, (css.drop k).flatten = css.flatten.drop (k * n)
 | [], _, k => by simp
 | c :: css, hl, 0 => by simp
 | c :: css, hl, k + 1 => by
  have hc : c.length = n := hl c (by simp)
  rw [List.drop_succ_cons, List.flatten_cons, flat_drop (fun p hp => hl p (by simp [hp])) k, Nat.add_mul, Nat.one_mul, show k * n + n = c.length + k * n by omega, List.drop_length_add_append]
theorem lay_read {cells Z F : List AVal} {off lo T : Nat} (h5 : (cells.drop off).take T = F) (hF : F.length = T) (hh : off + T ≤ cells.length) (hz : lo + Z.length ≤ T) :
  ((cells.take (off + lo) ++ Z ++ cells.drop (off + lo + Z.length)).drop off).take T = F.take lo ++ Z ++ F.drop (lo + Z.length) := by
 subst h5
 apply List.ext_getElem?
 intro k
 by_cases hk : k < T
 ·rw [List.getElem?_take_of_lt hk, List.getElem?_drop, List.append_assoc, List.append_assoc]
  have l1 : (cells.take (off + lo)).length = off + lo := by simp; omega
  have l2 : (((cells.drop off).take T).take lo).length = lo := by simp; omega
  rw [get_splice _ _ _ l1, get_splice _ _ _ l2, show off + k - (off + lo) = k - lo by omega]
  by_cases k1 : k < lo
  ·rw [if_pos (by omega), if_pos k1, List.getElem?_take_of_lt (by omega), List.getElem?_take_of_lt (by omega), List.getElem?_take_of_lt (by omega), List.getElem?_drop]
  ·rw [if_neg (by omega), if_neg k1]
   split
   ·rfl
   ·rw [List.getElem?_drop, List.getElem?_drop, List.getElem?_take_of_lt (by omega), List.getElem?_drop]
    congr 1
    omega
 ·rw [List.getElem?_take_eq_none (by omega), List.getElem?_eq_none]
  simp
  omega
section
variable {h h0 : AHeap} {es : Nat} {x : AVal} {L R : List (List AVal)} {l : List Ob}
theorem SlX.clrTail {lo : Nat} {z : List AVal} {K : AVal → AHeap → Prop} (ho : SlX h es x L R) (hown : ∀ id b, foot x = some id → h id = some b → b.own = true) (hz : z.length = es) (hlo : lo ≤ L.length)
  (hk : ∀ h', SlX h' es x (L.take lo ++ List.replicate (L.length - lo) z) R → (∀ id b, foot x = some id → h' id = some b → b.own = true) → But x h h' → K (.tup []) h') :
  ∃ y, V.cutSl es x (some (.int .i64 (lo : Int))) none = some y ∧ A.clr h (some z) y K := by
 rcases ho.at_ with ⟨e, e', e''⟩ | ⟨id, g, off, cp, b, hi, h1, h1', h2, h3, h4, hh, h5⟩
 ·subst e e'
  have : lo = 0 := by simpa using hlo
  subst this
  refine ⟨x, ?_, ?_⟩
  ·rcases e'' with rfl | rfl <;> rfl
  ·have := hk h (by simpa using ho) hown (fun _ _ h _ => h)
   rcases e'' with rfl | rfl <;> exact this
 ·subst h1
  refine ⟨.sl id g (off + lo * es) (L.length - lo) es (max L.length cp - lo), ?_, ?_⟩
  ·simp only [V.cutSl, endsC_eq (.inr ⟨_, rfl⟩) (.inl ⟨rfl, rfl⟩)]
   rw [if_pos ⟨hlo, by omega⟩]
   simp
  ·simp only [A.clr]
   split
   ·rename_i h0
    refine hk h ?_ hown (fun _ _ h _ => h)
    rw [h0, List.take_of_length_le (by omega)]
    simpa using ho
   ·rename_i hne
    have hown' := hown id b rfl h2
    generalize hZ : (List.replicate (L.length - lo) z).flatten = Z
    have hzl : Z.length = (L.length - lo) * es := by rw [← hZ]; simp [hz]
    have hTl : (L ++ R).length = L.length + R.length := by simp
    have hmul : lo * es + (L.length - lo) * es = L.length * es := by rw [← Nat.add_mul]; congr 1; omega
    have hmul2 : L.length * es + R.length * es = (L.length + R.length) * es := by rw [← Nat.add_mul]
    have hbl : Nat.ble (0 + (off + lo * es) + (L.length - lo) * es) hi = true := by rw [Nat.ble_eq]; omega
    have hput : V.putN (off + lo * es) ((L.length - lo) * es) (.agg Z) b.cells = some (b.cells.take (off + lo * es) ++ Z ++ b.cells.drop (off + lo * es + (L.length - lo) * es)) := by
     simp only [V.putN]; rw [if_pos ⟨hzl, by omega⟩]
    simp only [A.stv, h2, h3, hown', hbl, Bool.true_and, cond_true, hput, A.ph]
    have rd := lay_read (cells := b.cells) (Z := Z) (off := off) (lo := lo * es) h5 (by rw [flat_len ho.len, hTl]) (by omega) (by rw [hzl]; omega)
    have hnew : (L.take lo ++ List.replicate (L.length - lo) z ++ R).flatten = (L ++ R).flatten.take (lo * es) ++ Z ++ (L ++ R).flatten.drop (lo * es + Z.length) := by
     rw [List.flatten_append, List.flatten_append, hZ, hzl, hmul, ← flat_take ho.len, ← flat_drop ho.len, List.take_append_of_le_length hlo, List.drop_left]
    rw [← hnew, hzl] at rd
    have hll : (L.take lo ++ List.replicate (L.length - lo) z).length = L.length := by simp; omega
    have hlen' : ∀ p ∈ L.take lo ++ List.replicate (L.length - lo) z ++ R, p.length = es := fun p hp => by
     rcases List.mem_append.1 hp with hp | hp
     ·rcases List.mem_append.1 hp with hp | hp
      ·exact ho.len p (List.mem_append_left _ (List.mem_of_mem_take hp))
      ·rw [(List.mem_replicate.1 hp).2]; exact hz
     ·exact ho.len p (List.mem_append_right _ hp)
    refine hk _ ⟨hlen', .inr ⟨id, g, off, cp, _, hi, by rw [hll], by rw [hll]; exact h1', upd_same .., lookup_self .., by rw [hll]; exact h4, ?_, by simp only; rw [hll]; exact rd⟩⟩ (fun j b1 hj hb1 => ?_) (fun j b1 e1 e2 => ?_)
    ·simp; omega
    ·cases hj
     rw [upd_same] at hb1; cases hb1; rfl
    ·rw [upd_other]
     ·exact e1
     ·intro e; subst e; exact e2 rfl
theorem Owns.clrTail {lo : Nat} {z : List AVal} {K : AVal → AHeap → Prop} (ho : Owns h0 h l) (k : Nat) (hk : l[k]? = some (.sl es x L R)) (hz : z.length = es) (hlo : lo ≤ L.length)
  (hK : ∀ h', Owns h0 h' (l.set k (.sl es x (L.take lo ++ List.replicate (L.length - lo) z) R)) → But x h h' → K (.tup []) h') :
  ∃ y, V.cutSl es x (some (.int .i64 (lo : Int))) none = some y ∧ A.clr h (some z) y K :=
 (ho.slAt k hk).clrTail (ho.ownAt k hk) hz hlo fun h' h1 h2 h3 => hK h' (ho.turn k hk h1 h2 h3 (.inl rfl)) h3
end
end Go.Ab
namespace Go.Ab
abbrev Ents (K T : Type) := List (K × T × Nat)
def keysP {K T : Type} (ps : Ents K T) : List K := ps.map (·.1)
theorem keysP_cons {K T : Type} (p : K × T × Nat) (r : Ents K T) : keysP (p :: r) = p.1 :: keysP r := rfl
section
variable {K T : Type} [DecidableEq K]
def getP : Ents K T → K → Option T
 | [], _ => none
 | p :: r, k => if p.1 = k then some p.2.1 else getP r k
def putP : Ents K T → K → T → Nat → Ents K T
 | [], k, t, c => [(k, t, c)]
 | p :: r, k, t, c => if p.1 = k then (k, t, p.2.2) :: r else p :: putP r k t c
def delP : Ents K T → K → Ents K T
 | [], _ => []
 | p :: r, k => if p.1 = k then r else p :: delP r k
def clkP (ps : Ents K T) (k : K) (c : Nat) : Nat := if (getP ps k).isSome then c else c + 1
def idxP : Ents K T → K → Option (Nat × T × Nat)
 | [], _ => none
 | p :: r, k => if p.1 = k then some (0, p.2.1, p.2.2) else (idxP r k).map fun (i, q) => (i + 1, q)
theorem getP_put (k k' : K) (t : T) (c : Nat) : ∀ ps : Ents K T, getP (putP ps k t c) k' = if k' = k then some t else getP ps k'
 | [] => by
  simp only [putP, getP]
  by_cases h : k' = k
  ·rw [if_pos h.symm, if_pos h]
  ·rw [if_neg (Ne.symm h), if_neg h]
 | p :: r => by
  have ih := getP_put k k' t c r
  simp only [putP]
  by_cases hp : p.1 = k
  ·rw [if_pos hp]
   simp only [getP]
   by_cases h : k' = k
   ·rw [if_pos h.symm, if_pos h]
   ·rw [if_neg (Ne.symm h), if_neg h, if_neg (by rw [hp]; exact Ne.symm h)]
  ·rw [if_neg hp]
   simp only [getP, ih]
   by_cases h : k' = k
   ·subst h; rw [if_neg hp, if_pos rfl, if_pos rfl]
   ·rw [if_neg h, if_neg h]
theorem getP_none {k : K} : ∀ {ps : Ents K T}, getP ps k = none ↔ k ∉ keysP ps
 | [] => by simp [getP, keysP]
 | p :: r => by
  have ih := getP_none (k := k) (ps := r)
  simp only [getP, keysP, List.map_cons, List.mem_cons, not_or] at ih ⊢
  by_cases hp : p.1 = k
  ·simp [hp]
  ·simp [hp, ih, Ne.symm hp]
theorem idxP_get (k : K) : ∀ ps : Ents K T, getP ps k = (idxP ps k).map (·.2.1)
 | [] => rfl
 | p :: r => by
  simp only [getP, idxP]
  split
  ·rfl
  ·rw [idxP_get k r]; cases idxP r k <;> rfl
theorem idxP_put {k : K} {t : T} {c i : Nat} {q : T × Nat} : ∀ {ps : Ents K T}, idxP ps k = some (i, q) → putP ps k t c = ps.set i (k, t, q.2) ∧ i < ps.length
 | [], h => by simp [idxP] at h
 | p :: r, h => by
  simp only [idxP] at h
  by_cases hp : p.1 = k
  ·rw [if_pos hp] at h
   simp only [Option.some.injEq, Prod.mk.injEq] at h
   obtain ⟨rfl, rfl⟩ := h
   simp [putP, hp]
  ·rw [if_neg hp] at h
   cases hr : idxP r k with
   | none => simp [hr] at h
   | some x =>
    obtain ⟨j, q'⟩ := x
    simp [hr] at h
    obtain ⟨rfl, rfl⟩ := h
    have := idxP_put (t := t) (c := c) hr
    simp [putP, hp, this.1, this.2]
theorem idxP_put_none {k : K} {t : T} {c : Nat} : ∀ {ps : Ents K T}, idxP ps k = none → putP ps k t c = ps ++ [(k, t, c)]
 | [], _ => rfl
 | p :: r, h => by
  simp only [idxP] at h
  by_cases hp : p.1 = k
  ·rw [if_pos hp] at h; cases h
  ·rw [if_neg hp] at h
   cases hr : idxP r k with
   | none => simp [putP, hp, idxP_put_none hr]
   | some x => simp [hr] at h
theorem keysP_put (k : K) (t : T) (c : Nat) : ∀ ps : Ents K T, keysP (putP ps k t c) = if k ∈ keysP ps then keysP ps else keysP ps ++ [k]
 | [] => by simp [putP, keysP]
 | p :: r => by
  have ih := keysP_put k t c r
  by_cases hp : p.1 = k
  ·rw [putP, if_pos hp, keysP_cons, keysP_cons, if_pos (by simp [hp]), hp]
  ·rw [putP, if_neg hp, keysP_cons, ih, keysP_cons]
   by_cases hm : k ∈ keysP r
   ·rw [if_pos hm, if_pos (by simp [hm])]
   ·rw [if_neg hm, if_neg (by simp [hm, Ne.symm hp])]; rfl
theorem nodup_put {ps : Ents K T} (h : (keysP ps).Nodup) (k : K) (t : T) (c : Nat) : (keysP (putP ps k t c)).Nodup := by
 rw [keysP_put]
 split
 ·exact h
 ·rename_i hk
  rw [List.nodup_append]
  exact ⟨h, List.pairwise_singleton _ _, fun a ha b hb e => hk (by rw [List.mem_singleton.1 hb] at e; rw [← e]; exact ha)⟩
theorem getP_del (k k' : K) : ∀ {ps : Ents K T}, (keysP ps).Nodup → getP (delP ps k) k' = if k' = k then none else getP ps k'
 | [], _ => by simp [delP, getP]
 | p :: r, hn => by
  simp only [keysP, List.map_cons, List.nodup_cons] at hn
  have ih := getP_del k k' (ps := r) hn.2
  simp only [delP]
  by_cases hp : p.1 = k
  ·rw [if_pos hp]
   by_cases h : k' = k
   ·subst h
    rw [if_pos rfl, getP_none]
    rw [← hp]; exact hn.1
   ·rw [if_neg h]; simp only [getP]; rw [if_neg (by rw [hp]; exact Ne.symm h)]
  ·rw [if_neg hp]
   simp only [getP, ih]
   by_cases h : k' = k
   ·subst h; rw [if_neg hp, if_pos rfl, if_pos rfl]
   ·rw [if_neg h, if_neg h]
theorem getP_mem {k : K} {t : T} : ∀ {ps : Ents K T}, getP ps k = some t → ∃ n, (k, t, n) ∈ ps
 | [], h => by simp [getP] at h
 | p :: r, h => by
  simp only [getP] at h
  by_cases hp : p.1 = k
  ·rw [if_pos hp] at h
   cases h
   exact ⟨p.2.2, by rw [← hp]; simp⟩
  ·rw [if_neg hp] at h
   obtain ⟨n, hn⟩ := getP_mem h
   exact ⟨n, by simp [hn]⟩
theorem mem_getP {ps : Ents K T} (hn : (keysP ps).Nodup) {p : K × T × Nat} (hp : p ∈ ps) : getP ps p.1 = some p.2.1 := by
 induction ps with
 | nil => cases hp
 | cons q r ih =>
  simp only [keysP, List.map_cons, List.nodup_cons] at hn
  simp only [getP]
  rcases List.mem_cons.1 hp with rfl | hp
  ·rw [if_pos rfl]
  ·rw [if_neg, ih hn.2 hp]
   intro e
   exact hn.1 (by rw [e]; exact List.mem_map_of_mem hp)
end
structure KeyE (kd : KD) {K : Type} [DecidableEq K] (κ : K → AVal) : Prop where
 same : ∀ a b, V.sameK kd (κ a) (κ b) = some (decide (a = b))
theorem keyS : KeyE .s (fun s : List UInt8 => .str s) := ⟨fun a b => by
 simp only [V.sameK]; congr 1; rw [Bool.eq_iff_iff, beq_iff_eq, decide_eq_true_eq]⟩
def encM {K T : Type} (κ : K → AVal) (v : T → AVal) (ps : Ents K T) : List (AVal × AVal × Nat) := ps.map fun p => (κ p.1, v p.2.1, p.2.2)
section
variable {kd : KD} {K T : Type} [DecidableEq K] {κ : K → AVal} {v : T → AVal}
theorem findK_enc (hκ : KeyE kd κ) (k : K) : ∀ (ps : Ents K T) (i : Nat), V.findK kd (κ k) (encM κ v ps) i = some ((idxP ps k).map fun (j, q) => (i + j, v q.1, q.2))
 | [], i => rfl
 | p :: r, i => by
  simp only [encM, List.map_cons, V.findK, hκ.same, idxP]
  by_cases hp : k = p.1
  ·rw [if_pos hp.symm]; simp [hp]
  ·rw [if_neg (Ne.symm hp)]
   have ih := findK_enc hκ k r (i + 1)
   simp only [encM] at ih
   simp only [hp, decide_false, ih]
   cases idxP r k with
   | none => rfl
   | some x => obtain ⟨j, q⟩ := x; simp only [Option.map_some]; congr 3; omega
theorem fset_enc (hκ : KeyE kd κ) (k : K) (t : T) (ps : Ents K T) (c : Nat) : A.fset (some kd) (κ k) (v t) (encM κ v ps) c = some (encM κ v (putP ps k t c), clkP ps k c, .undef) := by
 simp only [A.fset, findK_enc hκ, clkP, idxP_get]
 cases h : idxP ps k with
 | none => simp [idxP_put_none h, encM]
 | some x =>
  obtain ⟨j, q⟩ := x
  have := idxP_put (t := t) (c := c) h
  simp only [Option.map_some, Option.isSome_some, if_true, Nat.zero_add, this.1, encM, List.map_set]
end
def mapBlk (es : List (AVal × AVal × Nat)) (c : Nat) : Blk := objOf (.map es c)
theorem Owns.newBlk {h0 h : AHeap} {l : List Ob} (ho : Owns h0 h l) {id : Nat} (hid : h id = none) {b : Blk} (hb : b.own = true) : Owns h0 (upd h id b) (l ++ [.blk id b]) :=
 ho.join ⟨le_upd _ hid, fun o hm => by rw [List.mem_singleton.1 hm]; exact upd_same .., fun o hm j hj => by rw [List.mem_singleton.1 hm] at hj; cases hj; exact ⟨hid, fun b hb' => by rw [upd_same] at hb'; cases hb'; exact hb⟩, List.pairwise_singleton _ _⟩
theorem Owns.newMap {h0 h : AHeap} {l : List Ob} {K T : Type} (ho : Owns h0 h l) (κ : K → AVal) (v : T → AVal) {Q : AVal → AHeap → Prop} (hq : ∀ id h', h id = none → Owns h0 h' (l ++ [.blk id (mapBlk (encM κ v []) 0)]) → h.le h' → Q (.mp id) h') : B.newMap h Q :=
 fun id hid => hq id _ hid (ho.newBlk hid rfl) (le_upd _ hid)
section
variable {h0 h : AHeap} {l : List Ob} {kd : KD} {K T : Type} [DecidableEq K] {κ : K → AVal} {v : T → AVal}
theorem Owns.setBlk (ho : Owns h0 h l) (k : Nat) {id : Nat} {b b' : Blk} (hk : l[k]? = some (.blk id b)) (hb : b'.own = true) : Owns h0 (upd h id b') (l.set k (.blk id b')) :=
 ho.turn k hk (upd_same ..) (fun j c hj hc => by cases hj; rw [upd_same] at hc; cases hc; exact hb) (fun j c e1 e2 => by rw [upd_other]; exact e1; intro e; subst e; exact e2 rfl) (.inl rfl)
theorem mapAt_blk {id : Nat} {es : List (AVal × AVal × Nat)} {c : Nat} (hb : h id = some (mapBlk es c)) : A.mapAt h (.mp id) = some (es, c) := by simp [A.mapAt, hb, mapBlk, objOf]
theorem objT_blk {id : Nat} {es es' : List (AVal × AVal × Nat)} {c c' : Nat} {u : AVal} {f : List (AVal × AVal × Nat) → Nat → Option (List (AVal × AVal × Nat) × Nat × AVal)} {Q : AVal → AHeap → Prop} (hb : h id = some (mapBlk es c)) (hf : f es c = some (es', c', u))
  (hq : Q u (upd h id (mapBlk es' c'))) : A.objT h (.mp id) f Q := by
 unfold mapBlk objOf at *
 simp only [A.objT, hb, hf]
 exact hq
theorem lkp_blk {id : Nat} {c : Nat} {ps : Ents K T} (hκ : KeyE kd κ) (hb : h id = some (mapBlk (encM κ v ps) c)) (z : T) (k : K) (ok : Bool) :
  A.lkp h (some kd) (some (v z)) ok (.mp id) (κ k) = some (bif ok then .tup [v ((getP ps k).getD z), .bool (getP ps k).isSome] else v ((getP ps k).getD z)) := by
 simp only [A.lkp, A.entries, mapAt_blk hb, findK_enc hκ, idxP_get]
 cases idxP ps k with
 | none => rfl
 | some x => rfl
theorem Owns.lkp (ho : Owns h0 h l) (i : Nat) {id c : Nat} {ps : Ents K T} (hi : l[i]? = some (.blk id (mapBlk (encM κ v ps) c))) (hκ : KeyE kd κ) (z : T) (k : K) : A.lkp h (some kd) (some (v z)) false (.mp id) (κ k) = some (v ((getP ps k).getD z)) :=
 lkp_blk hκ (ho.at i hi) z k false
theorem Owns.mset (ho : Owns h0 h l) (i : Nat) {id c : Nat} {ps : Ents K T} (hi : l[i]? = some (.blk id (mapBlk (encM κ v ps) c))) (hκ : KeyE kd κ) (k : K) (t : T) {Q : AHeap → Prop}
  (hq : ∀ h', Owns h0 h' (l.set i (.blk id (mapBlk (encM κ v (putP ps k t c)) (clkP ps k c)))) → But (.mp id) h h' → (∀ j, j ≠ id → h' j = h j) → Q h') : B.mset h kd (.mp id) (κ k) (v t) Q :=
 objT_blk (ho.at i hi) (fset_enc hκ k t ps c) (hq _ (ho.setBlk i hi rfl) (fun j b e1 e2 => by rw [upd_other]; exact e1; intro e; subst e; exact e2 rfl) fun j hj => upd_other _ _ hj)
end
end Go.Ab
namespace Go.Ab
def Births {K T : Type} (ps : Ents K T) (c : Nat) : Prop := (∀ p ∈ ps, p.2.2 < c) ∧ (ps.map (·.2.2)).Nodup
section
variable {K T : Type} {ps D : Ents K T} {c : Nat}
theorem Births.nil (c : Nat) : Births ([] : Ents K T) c := ⟨fun _ h => (by cases h), List.Pairwise.nil⟩
theorem Births.put [DecidableEq K] (hb : Births ps c) (k : K) (t : T) : Births (putP ps k t c) (clkP ps k c) := by
 unfold clkP
 rw [idxP_get]
 cases h : idxP ps k with
 | none =>
  rw [idxP_put_none h]
  simp only [Option.map_none, Option.isSome_none, Bool.false_eq_true, if_false]
  refine ⟨fun p hp => ?_, ?_⟩
  ·rcases List.mem_append.1 hp with hp | hp
   ·have := hb.1 p hp; omega
   ·rw [List.mem_singleton.1 hp]; exact Nat.lt_succ_self _
  ·rw [List.map_append, List.nodup_append]
   refine ⟨hb.2, List.pairwise_singleton _ _, fun a ha b hb2 => ?_⟩
   obtain ⟨p, hp, rfl⟩ := List.mem_map.1 ha
   rw [List.map_singleton, List.mem_singleton] at hb2
   have := hb.1 p hp
   subst hb2
   exact Nat.ne_of_lt this
 | some x =>
  obtain ⟨j, q⟩ := x
  have he := idxP_put (t := t) (c := c) h
  simp only [Option.map_some, Option.isSome_some, if_true, he.1]
  have hq : (ps.map (·.2.2))[j]? = some q.2 := by
   have : ∀ (ps : Ents K T) (j : Nat) (q : T × Nat), idxP ps k = some (j, q) → (ps.map (·.2.2))[j]? = some q.2 := by
    intro ps
    induction ps with
    | nil => intro j q h; cases h
    | cons p r ih =>
     intro j q h
     simp only [idxP] at h
     split at h
     ·cases h; rfl
     ·cases e : idxP r k with
      | none => rw [e] at h; cases h
      | some y =>
       obtain ⟨j', q'⟩ := y
       rw [e] at h
       simp only [Option.map_some, Option.some.injEq, Prod.mk.injEq] at h
       obtain ⟨rfl, rfl⟩ := h
       simpa using ih _ _ e
   exact this _ _ _ h
  have hm : (ps.set j (k, t, q.2)).map (·.2.2) = ps.map (·.2.2) := by
   rw [List.map_set]
   apply List.ext_getElem?
   intro i
   rw [List.getElem?_set]
   split
   ·rename_i e; subst e
    split
    ·exact hq.symm
    ·rename_i e2; simp at e2; omega
   ·rfl
  refine ⟨fun p hp => ?_, by rw [hm]; exact hb.2⟩
  have : p.2.2 ∈ (ps.set j (k, t, q.2)).map (·.2.2) := List.mem_map.2 ⟨p, hp, rfl⟩
  rw [hm] at this
  obtain ⟨p', hp', e⟩ := List.mem_map.1 this
  rw [← e]; exact hb.1 p' hp'
theorem Births.inj (hb : Births ps c) {p q : K × T × Nat} (hp : p ∈ ps) (hq : q ∈ ps) (e : p.2.2 = q.2.2) : p = q := by
 obtain ⟨i, hi, rfl⟩ := List.mem_iff_getElem.1 hp
 obtain ⟨j, hj, rfl⟩ := List.mem_iff_getElem.1 hq
 have : i = j := by
  refine (List.getElem_inj (h₀ := by simpa using hi) (h₁ := by simpa using hj) hb.2).1 ?_
  simpa using e
 subst this; rfl
theorem Births.all (hb : Births ps c) (h1 : ∀ p ∈ D, p ∈ ps) (h2 : (D.map (·.2.2)).Nodup) (h3 : ∀ p ∈ ps, p.2.2 ∈ D.map (·.2.2)) : D.Perm ps := by
 have nd : ∀ {l : Ents K T}, (l.map (·.2.2)).Nodup → l.Nodup := fun h => List.Pairwise.of_map (S := (· ≠ ·)) (fun p : K × T × Nat => p.2.2) (fun a b h e => h (by rw [e])) h
 refine (List.perm_ext_iff_of_nodup (nd h2) (nd hb.2)).2 fun p => ⟨h1 p, fun hp => ?_⟩
 obtain ⟨q, hq, e⟩ := List.mem_map.1 (h3 p hp)
 rwa [hb.inj (h1 q hq) hp e] at hq
end
def iterBlk (m since : Nat) (seen : List Nat) (last : Nat) : Blk := objOf (.mapIter (some m) since seen last)
section
variable {h0 h : AHeap} {l : List Ob} {K T : Type} {κ : K → AVal} {v : T → AVal} {ps : Ents K T} {m c : Nat} {Q : AVal → AHeap → Prop}
theorem Owns.nextMapB (ho : Owns h0 h l) (j : Nat) {it since last : Nat} {seen : List Nat} (hbm : h m = some (mapBlk (encM κ v ps) c)) (hj : l[j]? = some (.blk it (iterBlk m since seen last))) (hb : Births ps c) (hs : c ≤ since) (hsl : since ≤ last)
  (hdone : (∀ p ∈ ps, p.2.2 ∈ seen) → Q (.tup [.bool false]) h)
  (hstep : ∀ p ∈ ps, p.2.2 ∉ seen → ∀ h', Owns h0 h' (l.set j (.blk it (iterBlk m since (seen ++ [p.2.2]) c))) → (∀ k, k ≠ it → h' k = h k) → A.entryAt h' (.ptr it 0 0) = some (.tup [κ p.1, v p.2.1]) → Q (.tup [.bool true, κ p.1, v p.2.1]) h') :
  B.nextMap h (.ptr it 0 0) Q := by
 have hbi : h it = some (iterBlk m since seen last) := ho.at j hj
 have hne : m ≠ it := fun e => by
  subst e
  rw [hbm] at hbi
  have := Option.some.inj hbi
  unfold mapBlk iterBlk objOf at this
  cases this
 show A.nextMap h (.ptr it 0 0) Q
 have hall : ((encM κ v ps).all fun e => Nat.blt e.2.2 since) = true := by
  rw [List.all_eq_true]
  intro e he
  obtain ⟨p, hp, rfl⟩ := List.mem_map.1 he
  have := hb.1 p hp
  rw [Nat.blt_eq]; show p.2.2 < since; omega
 have hle : Nat.ble since last = true := by rw [Nat.ble_eq]; exact hsl
 have hst : A.steps h (.ptr it 0 0) = some (it, match (encM κ v ps).filter (fun e => !seen.contains e.2.2) with
   | [] => [(iterBlk m since seen last, .tup [.bool false])]
   | l => l.map fun e => ({ iterBlk m since seen last with obj := some (.mapIter (some m) since (seen ++ [e.2.2]) c) }, .tup [.bool true, e.1, e.2.1])) := by
  simp only [A.steps, hbi]
  unfold iterBlk objOf
  simp only [mapAt_blk hbm, hall, hle, Bool.and_self, cond_true]
  rfl
 simp only [A.nextMap, hst]
 intro p hp
 have hf : ∀ e, e ∈ (encM κ v ps).filter (fun e => !seen.contains e.2.2) ↔ ∃ q ∈ ps, q.2.2 ∉ seen ∧ e = (κ q.1, v q.2.1, q.2.2) := fun e => by
  rw [List.mem_filter]
  constructor
  ·rintro ⟨he, hc⟩
   obtain ⟨q, hq, rfl⟩ := List.mem_map.1 he
   refine ⟨q, hq, ?_, rfl⟩
   simpa using hc
  ·rintro ⟨q, hq, hn, rfl⟩
   exact ⟨List.mem_map.2 ⟨q, hq, rfl⟩, by simpa using hn⟩
 cases hfl : (encM κ v ps).filter (fun e => !seen.contains e.2.2) with
 | nil =>
  rw [hfl] at hp
  rw [List.mem_singleton.1 hp]
  have : upd h it (iterBlk m since seen last) = h := upd_self hbi
  rw [this]
  refine hdone fun q hq => ?_
  by_cases hn : q.2.2 ∈ seen
  ·exact hn
  ·have := (hf _).2 ⟨q, hq, hn, rfl⟩
   rw [hfl] at this; cases this
 | cons e0 es0 =>
  rw [hfl] at hp
  obtain ⟨e, he, rfl⟩ := List.mem_map.1 hp
  rw [← hfl] at he
  obtain ⟨q, hq, hn, rfl⟩ := (hf _).1 he
  have hblk : ({ iterBlk m since seen last with obj := some (.mapIter (some m) since (seen ++ [q.2.2]) c) } : Blk) = iterBlk m since (seen ++ [q.2.2]) c := rfl
  show Q _ (upd h it { iterBlk m since seen last with obj := some (.mapIter (some m) since (seen ++ [q.2.2]) c) })
  rw [hblk]
  refine hstep q hq hn _ (ho.setBlk j hj rfl) (fun k hk => upd_other _ _ hk) ?_
  have hbm' : upd h it (iterBlk m since (seen ++ [q.2.2]) c) m = some (mapBlk (encM κ v ps) c) := by rw [upd_other _ _ hne]; exact hbm
  have hfind : (encM κ v ps).find? (fun e => Nat.beq e.2.2 q.2.2) = some (κ q.1, v q.2.1, q.2.2) := by
   have key : ∀ (ps : Ents K T), (ps.map (·.2.2)).Nodup → q ∈ ps → (encM κ v ps).find? (fun e => Nat.beq e.2.2 q.2.2) = some (κ q.1, v q.2.1, q.2.2) := by
    intro ps
    induction ps with
    | nil => intro _ h; cases h
    | cons a r ih =>
     intro hnd hm
     simp only [List.map_cons, List.nodup_cons] at hnd
     simp only [encM, List.map_cons, List.find?_cons]
     rcases List.mem_cons.1 hm with rfl | hm
     ·simp [Nat.beq_refl]
     ·have hne : a.2.2 ≠ q.2.2 := fun e => hnd.1 (by rw [e]; exact List.mem_map.2 ⟨q, hm, rfl⟩)
      have : Nat.beq a.2.2 q.2.2 = false := by
       cases e : Nat.beq a.2.2 q.2.2 with
       | false => rfl
       | true => exact absurd (Nat.eq_of_beq_eq_true e) hne
      rw [this]
      exact ih hnd.2 hm
   exact key ps hb.2 hq
  simp only [A.entryAt, upd_get]
  unfold iterBlk objOf
  have hbm'' := hbm'
  unfold iterBlk objOf at hbm''
  simp only [mapAt_blk hbm'', List.getLast?_append, List.getLast?_singleton, Option.some_or, Nat.beq_refl, cond_true, hfind]
theorem Owns.rangeLoop {J : Ents K T → List Ob → Prop} {Lp : AVal → List AVal → AHeap → (List AVal → AHeap → Prop) → Prop} {REST : AVal → AVal → AHeap → (List AVal → AHeap → Prop) → Prop} (ho : Owns h0 h l) (hbm : h0 m = some (mapBlk (encM κ v ps) c)) (hb : Births ps c) (hJ : J [] l)
  (heq : ∀ it hh Y, B.nextMap hh it (fun v h2 => REST it v h2 Y) → Lp it [] hh Y)
  (hdone : ∀ it hh D l b Y, J D l → D.Perm ps → Owns h0 hh (l ++ [.blk it b]) → REST (.ptr it 0 0) (.tup [.bool false]) hh Y)
  (hstep : ∀ it hh D l b Y, ∀ p ∈ ps, J D l → (∀ q ∈ D, q ∈ ps) → p ∉ D → Owns h0 hh (l ++ [.blk it b]) → A.entryAt hh (.ptr it 0 0) = some (.tup [κ p.1, v p.2.1]) →
   (∀ h' l', J (D ++ [p]) l' → Owns h0 h' (l' ++ [.blk it b]) → Y [] h') → REST (.ptr it 0 0) (.tup [.bool true, κ p.1, v p.2.1]) hh Y) :
  B.rangeMap h (.mp m) fun v h => LoopR (Lp v) [] h := by
 show A.rangeMap h (.mp m) _
 simp only [A.rangeMap, mapAt_blk (ho.le _ _ hbm)]
 intro it hit
 have ho : Owns h0 (upd h it (objOf (.mapIter (some m) c [] c))) (l ++ [.blk it (iterBlk m c (([] : Ents K T).map (·.2.2)) c)]) := ho.newBlk (b := iterBlk m c [] c) hit rfl
 refine LoopR.intro (fun t vs hh => vs = [] ∧ ∃ (D : Ents K T) (l' : List Ob), D.length + t = ps.length ∧ J D l' ∧ (∀ q ∈ D, q ∈ ps) ∧ (D.map (·.2.2)).Nodup ∧ Owns h0 hh (l' ++ [.blk it (iterBlk m c (D.map (·.2.2)) c)])) ps.length ?_ ⟨rfl, [], l, by simp, hJ, by simp, List.Pairwise.nil, ho⟩
 rintro Y t vs hh ⟨rfl, D, l', ht, hJ', hD, hnd, o⟩ hY
 refine heq _ _ _ ?_
 refine o.nextMapB l'.length (seen := D.map (·.2.2)) (since := c) (last := c) (o.le _ _ hbm) (by simp) hb (Nat.le_refl _) (Nat.le_refl _) (fun hall => ?_) fun p hp hns h' o' hk he => ?_
 ·exact hdone it hh D l' _ Y hJ' (hb.all hD hnd hall) o
 ·have o'' : Owns h0 h' (l' ++ [.blk it (iterBlk m c ((D ++ [p]).map (·.2.2)) c)]) := by
   have := o'
   rw [List.set_append_right _ _ (Nat.le_refl _), Nat.sub_self] at this
   simpa using this
  have hpD : p ∉ D := fun hm => hns (List.mem_map.2 ⟨p, hm, rfl⟩)
  have nd2 : ((D ++ [p]).map (·.2.2)).Nodup := by
   rw [List.map_append, List.nodup_append]
   exact ⟨hnd, by simp, fun x hx y hy e => hns (by rw [List.map_cons, List.map_nil, List.mem_singleton] at hy; rw [← hy, ← e]; exact hx)⟩
  have sub : ∀ q ∈ D ++ [p], q ∈ ps := fun q hq => by
   rcases List.mem_append.1 hq with h | h
   ·exact hD q h
   ·rw [List.mem_singleton.1 h]; exact hp
  have hl : (D ++ [p]).length ≤ ps.length := List.Nodup.length_le_of_subset (List.Pairwise.of_map (S := (· ≠ ·)) (fun p : K × T × Nat => p.2.2) (fun a b h e => h (by rw [e])) nd2) sub
  rw [List.length_append] at hl
  have hl : D.length + 1 ≤ ps.length := hl
  exact hstep it h' D l' _ Y p hp hJ' hD hpD o'' he fun h2 l2 hJ2 o2 => hY (t - 1) _ _ (by omega) ⟨rfl, D ++ [p], l2, by rw [List.length_append, List.length_singleton]; omega, hJ2, sub, nd2, o2⟩
end
end Go.Ab
namespace Go.Ab
structure Weak {T : Type} (less : T → T → Bool) : Prop where
 asym : ∀ {a b}, less a b = true → less b a = false
 ntrans : ∀ {a b c}, less a b = false → less b c = false → less a c = false
section
variable {T : Type} {less : T → T → Bool}
theorem Weak.irr (W : Weak less) (a : T) : less a a = false := by
 cases h : less a a with
 | false => rfl
 | true => have := W.asym h; rw [h] at this; cases this
theorem Weak.trans (W : Weak less) {a b c : T} (h1 : less a b = true) (h2 : less b c = true) : less a c = true := by
 cases h : less a c with
 | true => rfl
 | false => have := W.ntrans h (W.asym h2); rw [h1] at this; cases this
def lt' (less : T → T → Bool) (x y : T × Nat) : Prop := less x.1 y.1 = true ∨ (less y.1 x.1 = false ∧ x.2 < y.2)
theorem lt'_trans (W : Weak less) {x y z : T × Nat} (h1 : lt' less x y) (h2 : lt' less y z) : lt' less x z := by
 unfold lt' at *
 rcases h1 with h1 | ⟨h1, n1⟩ <;> rcases h2 with h2 | ⟨h2, n2⟩
 ·exact .inl (W.trans h1 h2)
 ·left
  cases h : less x.1 z.1 with
  | true => rfl
  | false => have := W.ntrans h h2; rw [h1] at this; cases this
 ·left
  cases h : less x.1 z.1 with
  | true => rfl
  | false => have := W.ntrans h1 h; rw [h2] at this; cases this
 ·exact .inr ⟨W.ntrans h2 h1, by omega⟩
theorem lt'_gt {x y : T × Nat} (hn : y.2 < x.2) : lt' less x y ↔ less x.1 y.1 = true := ⟨fun h => h.elim id fun ⟨_, h⟩ => by omega, .inl⟩
theorem lt'_le (W : Weak less) {x y : T × Nat} (hn : x.2 < y.2) : lt' less x y ↔ less y.1 x.1 = false :=
 ⟨fun h => h.elim (fun h => W.asym h) fun ⟨h, _⟩ => h, fun h => .inr ⟨h, hn⟩⟩
end
end Go.Ab
namespace Go.Ab
variable {C : CSem} {N : Nat → Nat}
theorem add1 {a : Nat} (h : a < 4611686018427387904) : V.bin .add (.int .i64 (a : Int)) (.int .i64 1) = some (.int .i64 ((a + 1 : Nat) : Int)) := by
 rw [V.bin_add, wrap_i64 (by omega) (by omega)]; simp
theorem sub1 {a : Nat} (h : 1 ≤ a) (ha : a < 4611686018427387904) : V.bin .sub (.int .i64 (a : Int)) (.int .i64 1) = some (.int .i64 ((a - 1 : Nat) : Int)) := by
 rw [V.bin_sub, wrap_i64 (by omega) (by omega)]; congr 2; omega
theorem lssN {a b : Nat} : V.bin .lss (.int .i64 (a : Int)) (.int .i64 (b : Int)) = some (.bool (decide (a < b))) := by rw [V.bin_lss]; congr 3; exact propext (by omega)
theorem leqN {a b : Nat} : V.bin .leq (.int .i64 (a : Int)) (.int .i64 (b : Int)) = some (.bool (decide (a ≤ b))) := by rw [V.bin_leq]; congr 3; exact propext (by omega)
theorem gtrN {a b : Nat} : V.bin .gtr (.int .i64 (a : Int)) (.int .i64 (b : Int)) = some (.bool (decide (b < a))) := by rw [V.bin_gtr]; congr 3; exact propext (by omega)
structure SeqSpec (E : ElOps) {X : Type} (cs : X → List AVal) (v : X → AVal) : Prop where
 pos : 0 < E.es
 small : E.bytes ≤ 1000
 zlen : E.z.length = E.es
 len : ∀ t, (cs t).length = E.es
 new : ∀ t, fillL [(0, E.kp, v t)] (repL 1 E.z) = some (cs t)
 ld : ∀ {h : AHeap} {x : AVal} {L R : List (List AVal)} {i : Nat} {t : X} {K : AVal → Prop}, SlX h E.es x L R → L[i]? = some (cs t) → K (v t) → E.ld h (elp E.es x i 0) K
 kpt : ∀ {h : AHeap} {x : AVal} {L R : List (List AVal)} {i : Nat} {t : X}, SlX h E.es x L R → L[i]? = some (cs t) → Kp h (elp E.es x i 0) E.kp
 st : ∀ {h0 h : AHeap} {x : AVal} {L R : List (List AVal)} {i : Nat} {c : List AVal} {t : X} {K : AHeap → Prop}, Owns h0 h [.sl E.es x L R] → L[i]? = some c →
  (∀ h', Owns h0 h' [.sl E.es x (L.set i (cs t)) R] → K h') → E.st h (elp E.es x i 0) (v t) K
theorem SeqSpec.comp {E : ElOps} {X Y : Type} {cs : X → List AVal} {v : X → AVal} (S : SeqSpec E cs v) (f : Y → X) : SeqSpec E (fun y => cs (f y)) (fun y => v (f y)) :=
 ⟨S.pos, S.small, S.zlen, fun t => S.len _, fun t => S.new _, fun h1 h2 h3 => S.ld h1 h2 h3, fun h1 h2 => S.kpt h1 h2, fun h1 h2 h3 => S.st h1 h2 h3⟩
theorem seqS {X : Type} {bytes f : Nat} {z : AVal} {v : X → AVal} (hb : bytes ≤ 1000) (hc : ∀ t, (v t).isCell = true) : SeqSpec (opsS bytes z f) (fun t => [v t]) v where
 pos := Nat.one_pos
 small := hb
 zlen := rfl
 len _ := rfl
 new t := by simp [opsS, hc, repL]
 ld hs hcc hk := by
  simp only [opsS, B.ld_eq] at hs ⊢
  rw [hs.cell hcc]; exact hk
 kpt hs hcc := ⟨_, hs.cell hcc⟩
 st {h0 h x L R i c t K} ho hcc hk := by
  have hs : SlX h 1 x L R := ho.slAt 0 rfl
  have hcl : c.length = 1 := hs.len c (List.mem_append_left _ (List.mem_of_getElem? hcc))
  obtain ⟨u, rfl⟩ := List.length_eq_one_iff.1 hcl
  exact ho.st 0 rfl hcc (by show 0 < 1; omega) (hc _) fun h' h1 _ => hk h' h1
def Rw (E : ElOps) {X : Type} (cs : X → List AVal) (h0 h : AHeap) (x : AVal) (G : List X) (R : List (List AVal)) : Prop := Owns h0 h [.sl E.es x (G.map cs) R]
section
variable {E : ElOps} {X : Type} {cs : X → List AVal} {v : X → AVal} {h0 h : AHeap} {x : AVal} {G : List X} {R : List (List AVal)}
theorem Rw.idx (ho : Rw E cs h0 h x G R) {i : Nat} (hi : i < G.length) : V.idxS E.es x (.int .i64 (i : Int)) = some (elp E.es x i 0) := (Owns.slAt ho 0 rfl).idxN (by simpa using hi)
theorem Rw.lenE (ho : Rw E cs h0 h x G R) : V.lenSl x = some (.int .i64 G.length) := by have := (Owns.slAt ho 0 rfl).lenSl; simpa using this
theorem Rw.le (ho : Rw E cs h0 h x G R) : h0.le h := Owns.le ho
theorem Rw.ld (ho : Rw E cs h0 h x G R) (S : SeqSpec E cs v) {i : Nat} {t : X} (hg : G[i]? = some t) {K : AVal → Prop} (hk : K (v t)) : E.ld h (elp E.es x i 0) K :=
 S.ld (Owns.slAt ho 0 rfl) (by rw [List.getElem?_map, hg]; rfl) hk
theorem Rw.st (ho : Rw E cs h0 h x G R) (S : SeqSpec E cs v) {i : Nat} {t : X} (hi : i < G.length) {K : AHeap → Prop} (hk : ∀ h', Rw E cs h0 h' x (G.set i t) R → K h') : E.st h (elp E.es x i 0) (v t) K :=
 S.st ho (c := cs G[i]) (by rw [List.getElem?_map, List.getElem?_eq_getElem hi]; rfl) fun h' h1 => hk h' (by unfold Rw; rwa [List.map_set])
theorem set_mid {P Q : List X} {a b : X} {i : Nat} (hi : i = P.length) : (P ++ a :: Q).set i b = P ++ b :: Q := by subst hi; simp
theorem get_mid {P Q : List X} {a : X} {i : Nat} (hi : i = P.length) : (P ++ a :: Q)[i]? = some a := by subst hi; simp
theorem set_mid2 {P Q T : List X} {a b c : X} {j : Nat} (hj : j = P.length + 1 + Q.length) : (P ++ a :: (Q ++ b :: T)).set j c = P ++ a :: (Q ++ c :: T) := by
 have := set_mid (P := P ++ a :: Q) (Q := T) (a := b) (b := c) (i := j) (by simp; omega)
 simpa using this
theorem get_mid2 {P Q T : List X} {a b : X} {j : Nat} (hj : j = P.length + 1 + Q.length) : (P ++ a :: (Q ++ b :: T))[j]? = some b := by
 have := get_mid (P := P ++ a :: Q) (Q := T) (a := b) (i := j) (by simp; omega)
 simpa using this
theorem Rw.swapUp {P Q T : List X} {a b : X} {i j : Nat} (ho : Rw E cs h0 h x (P ++ a :: (Q ++ b :: T)) R) (S : SeqSpec E cs v) (hi : i = P.length) (hj : j = P.length + 1 + Q.length) {K : AHeap → Prop}
  (hk : ∀ h', Rw E cs h0 h' x (P ++ b :: (Q ++ a :: T)) R → K h') : E.st h (elp E.es x i 0) (v b) fun h => E.st h (elp E.es x j 0) (v a) K := by
 refine ho.st S (by simp; omega) fun h1 o1 => ?_
 rw [set_mid hi] at o1
 refine o1.st S (by simp; omega) fun h2 o2 => hk h2 ?_
 rwa [set_mid2 hj] at o2
theorem Rw.swapDn {P Q T : List X} {a b : X} {i j : Nat} (ho : Rw E cs h0 h x (P ++ a :: (Q ++ b :: T)) R) (S : SeqSpec E cs v) (hi : i = P.length) (hj : j = P.length + 1 + Q.length) {K : AHeap → Prop}
  (hk : ∀ h', Rw E cs h0 h' x (P ++ b :: (Q ++ a :: T)) R → K h') : E.st h (elp E.es x j 0) (v a) fun h => E.st h (elp E.es x i 0) (v b) K := by
 refine ho.st S (by simp; omega) fun h1 o1 => ?_
 rw [set_mid2 hj] at o1
 refine o1.st S (by simp; omega) fun h2 o2 => hk h2 ?_
 rwa [set_mid hi] at o2
end
section
variable {E : ElOps} {T : Type} {cs : T → List AVal} {v : T → AVal} {c : T → T → Int} {h0 h : AHeap} {x f : AVal} {R : List (List AVal)} {Q : AVal → AHeap → Prop}
def lessC (c : T → T → Int) (a b : T) : Bool := decide (c a b < 0)
theorem nil_or_snoc {X : Type} (L : List X) : L = [] ∨ ∃ L0 y, L = L0 ++ [y] := by
 rcases List.eq_nil_or_concat L with h | ⟨A, b, h⟩
 ·exact .inl h
 ·exact .inr ⟨A, b, by rw [h, List.concat_eq_append]⟩
end
end Go.Ab
namespace Go.Ab
variable {C : CSem}
structure Within {X : Type} (a b : Nat) (G G' : List X) : Prop where
 perm : G'.Perm G
 out : ∀ i, i < a ∨ b ≤ i → G'[i]? = G[i]?
theorem Within.refl {X : Type} (a b : Nat) (G : List X) : Within a b G G := ⟨.refl _, fun _ _ => rfl⟩
theorem Within.trans {X : Type} {a b : Nat} {G G' G'' : List X} (x : Within a b G G') (y : Within a b G' G'') : Within a b G G'' := ⟨y.perm.trans x.perm, fun i hi => (y.out i hi).trans (x.out i hi)⟩
theorem Within.mono {X : Type} {a b a' b' : Nat} {G G' : List X} (x : Within a b G G') (ha : a' ≤ a) (hb : b ≤ b') : Within a' b' G G' := ⟨x.perm, fun i hi => x.out i (by omega)⟩
theorem Within.len {X : Type} {a b : Nat} {G G' : List X} (x : Within a b G G') : G'.length = G.length := x.perm.length_eq
theorem Within.same {X : Type} {a b : Nat} {G G' : List X} (w : Within a b G G') {k : Nat} (hk : k < a ∨ b ≤ k) (h1 : k < G'.length) (h2 : k < G.length) : G'[k] = G[k] := by
 have := w.out k hk
 rw [List.getElem?_eq_getElem h1, List.getElem?_eq_getElem h2] at this
 exact Option.some.inj this
def swp {X : Type} (G : List X) (i j : Nat) (hi : i < G.length) (hj : j < G.length) : List X := (G.set i G[j]).set j G[i]
theorem swp_perm {X : Type} {G : List X} {i j : Nat} (hi : i < G.length) (hj : j < G.length) : (swp G i j hi hj).Perm G := by
 unfold swp
 exact List.set_set_perm hi hj
theorem swp_get {X : Type} {G : List X} {i j : Nat} (hi : i < G.length) (hj : j < G.length) (k : Nat) : (swp G i j hi hj)[k]? = if k = j then some G[i] else if k = i then some G[j] else G[k]? := by
 unfold swp
 rw [List.getElem?_set]
 by_cases e : j = k
 ·subst e; simp [hj]
 ·rw [if_neg e, if_neg (Ne.symm e), List.getElem?_set]
  by_cases e2 : i = k
  ·subst e2; simp [hi]
  ·rw [if_neg e2, if_neg (Ne.symm e2)]
theorem swp_within {X : Type} {G : List X} {i j a b : Nat} (hi : i < G.length) (hj : j < G.length) (h1 : a ≤ i) (h2 : i < b) (h3 : a ≤ j) (h4 : j < b) : Within a b G (swp G i j hi hj) := ⟨swp_perm hi hj, fun k hk => by
 rw [swp_get, if_neg (by omega), if_neg (by omega)]⟩
section
variable {E : ElOps} {X : Type} {cs : X → List AVal} {v : X → AVal} {h0 h : AHeap} {x f : AVal} {G : List X} {R : List (List AVal)} {c : X → X → Int}
theorem Rw.swap (ho : Rw E cs h0 h x G R) (S : SeqSpec E cs v) {i j : Nat} (hi : i < G.length) (hj : j < G.length) {K : AHeap → Prop} (hk : ∀ h', Rw E cs h0 h' x (swp G i j hi hj) R → K h') :
  E.st h (elp E.es x i 0) (v G[j]) fun h => E.st h (elp E.es x j 0) (v G[i]) K := by
 refine ho.st S (t := G[j]) hi fun h1 o1 => ?_
 exact o1.st S (t := G[i]) (by simpa using hj) fun h2 o2 => hk h2 o2
theorem quo4 {a : Nat} (h : a < 4611686018427387904) : V.bin .quo (.int .i64 (a : Int)) (.int .i64 4) = some (.int .i64 ((a / 4 : Nat) : Int)) := by
 rw [V.bin_quo _ _ _ (by omega), show (a : Int).tdiv 4 = ((a / 4 : Nat) : Int) from rfl, wrap_i64 (by omega) (by omega)]
theorem mulN {a b : Nat} (h : a * b < 4611686018427387904) : V.bin .mul (.int .i64 (a : Int)) (.int .i64 (b : Int)) = some (.int .i64 ((a * b : Nat) : Int)) := by
 rw [V.bin_mul, show (a : Int) * (b : Int) = ((a * b : Nat) : Int) by simp, wrap_i64 (by omega) (by omega)]
theorem addNN {a b : Nat} (h : a + b < 4611686018427387904) : V.bin .add (.int .i64 (a : Int)) (.int .i64 (b : Int)) = some (.int .i64 ((a + b : Nat) : Int)) := by
 rw [V.bin_add, show (a : Int) + (b : Int) = ((a + b : Nat) : Int) by simp, wrap_i64 (by omega) (by omega)]
theorem subNN {a b : Nat} (h : b ≤ a) (h2 : a < 4611686018427387904) : V.bin .sub (.int .i64 (a : Int)) (.int .i64 (b : Int)) = some (.int .i64 ((a - b : Nat) : Int)) := by
 rw [V.bin_sub, show (a : Int) - (b : Int) = ((a - b : Nat) : Int) by omega, wrap_i64 (by omega) (by omega)]
theorem geqN {a b : Nat} : V.bin .geq (.int .i64 (a : Int)) (.int .i64 (b : Int)) = some (.bool (decide (b ≤ a))) := by rw [V.bin_geq]; congr 3; exact propext (by omega)
end
end Go.Ab
namespace Go.Ab
@[simp] def slices_insertionSortT.k1 (C : CSem) (E : ElOps) (C0 : CSem) (fL : Nat) (Q : AVal → AHeap → Prop) (Y1 : List AVal → AHeap → Prop) (Y2 : List AVal → AHeap → Prop) (v0 v1 v2 v3 v8 v9 : AVal) (h : AHeap) : Prop :=
 B.pv (V.bin .gtr v9 v1) fun v20 =>
  B.gd h v20 true (fun K => K v0 h) fun v23 h =>
  B.gd h v20 true (fun K => K v9 h) fun v24 h =>
  B.gd h v20 true (fun K => B.pv (V.idxS E.es v23 v24) fun v => K v h) fun v25 h =>
  B.gd h v20 true (fun K => E.ld h v25 fun v => K v h) fun v26 h =>
  B.gd h v20 true (fun K => K v0 h) fun v27 h =>
  B.gd h v20 true (fun K => K v9 h) fun v28 h =>
  B.gd h v20 true (fun K => B.pv (V.bin .sub v28 (.int .i64 1)) fun v => K v h) fun v29 h =>
  B.gd h v20 true (fun K => B.pv (V.idxS E.es v27 v29) fun v => K v h) fun v30 h =>
  B.gd h v20 true (fun K => E.ld h v30 fun v => K v h) fun v31 h =>
  B.gd h v20 true (fun K => B.call C0 fL [v26, v31] h K) fun v33 h =>
  B.pick v20 v33 (.bool false) fun v34 =>
  B.cond v34
  (B.pv (V.bin .sub v9 (.int .i64 1)) fun v41 =>
  B.pv (V.bin .sub v9 (.int .i64 1)) fun v44 =>
  B.pv (V.idxS E.es v0 v44) fun v45 =>
  E.ld h v45 fun v46 =>
  B.pv (V.idxS E.es v0 v9) fun v49 =>
  E.ld h v49 fun v50 =>
  B.pv (V.idxS E.es v0 v9) fun v51 =>
  E.st h v51 v46 fun h =>
  B.pv (V.idxS E.es v0 v41) fun v52 =>
  E.st h v52 v50 fun h =>
  B.pv (V.bin .sub v9 (.int .i64 1)) fun v36 =>
  Y2 [v36] h)
  (B.pv (V.bin .add v8 (.int .i64 1)) fun v16 =>
  Y1 [v16] h)
@[simp] def slices_insertionSortT.l2 (C : CSem) (E : ElOps) (C0 : CSem) (fL : Nat) (Q : AVal → AHeap → Prop) (Y1 : List AVal → AHeap → Prop) (v0 v1 v2 v3 v8 : AVal) : List AVal → AHeap → (List AVal → AHeap → Prop) → Prop
 | [v9], h, Y2 => slices_insertionSortT.k1 C E C0 fL Q Y1 Y2 v0 v1 v2 v3 v8 v9 h
 | _, _, _ => False
@[simp] def slices_insertionSortT.l3 (C : CSem) (E : ElOps) (C0 : CSem) (fL : Nat) (Q : AVal → AHeap → Prop) (v0 v1 v2 v3 : AVal) : List AVal → AHeap → (List AVal → AHeap → Prop) → Prop
 | [v8], h, Y1 => B.pv (V.bin .lss v8 v2) fun v14 =>
  B.cond v14
  (LoopR (slices_insertionSortT.l2 C E C0 fL Q Y1 v0 v1 v2 v3 v8) [v8] h)
  (Q (.tup []) h)
 | _, _, _ => False
@[simp] def slices_insertionSortT.cps (C : CSem) (E : ElOps) (C0 : CSem) (fL : Nat) (v0 v1 v2 v3 : AVal) (h : AHeap) (Q : AVal → AHeap → Prop) : Prop :=
 B.pv (V.bin .add v1 (.int .i64 1)) fun v11 =>
  LoopR (slices_insertionSortT.l3 C E C0 fL Q v0 v1 v2 v3) [v11] h
@[simp] def slices_pdqsortT.k1 (C : CSem) (E : ElOps) (C0 : CSem) (fL : Nat) (f1 f2 f3 f4 f5 f6 f7 f8 f9 : Nat) (Q : AVal → AHeap → Prop) (Y1 : List AVal → AHeap → Prop) (v0 v1 v2 v3 v4 v10 v11 v12 v13 : AVal) (h : AHeap) : Prop :=
 B.pv (V.bin .gtr v1 (.int .i64 0)) fun v82 =>
  B.gd h v82 true (fun K => K v0 h) fun v85 h =>
  B.gd h v82 true (fun K => K v1 h) fun v86 h =>
  B.gd h v82 true (fun K => B.pv (V.bin .sub v86 (.int .i64 1)) fun v => K v h) fun v87 h =>
  B.gd h v82 true (fun K => B.pv (V.idxS E.es v85 v87) fun v => K v h) fun v88 h =>
  B.gd h v82 true (fun K => E.ld h v88 fun v => K v h) fun v89 h =>
  B.gd h v82 true (fun K => K v0 h) fun v90 h =>
  B.gd h v82 true (fun K => K v13 h) fun v91 h =>
  B.gd h v82 true (fun K => B.pv (V.idxS E.es v90 v91) fun v => K v h) fun v92 h =>
  B.gd h v82 true (fun K => E.ld h v92 fun v => K v h) fun v93 h =>
  B.gd h v82 true (fun K => B.call C0 fL [v89, v93] h K) fun v95 h =>
  B.gd h v82 true (fun K => B.pv (V.un .not v95) fun v => K v h) fun v96 h =>
  B.pick v82 v96 (.bool false) fun v97 =>
  B.cond v97
  (B.call C f1 [v0, v1, v2, v13, v4] h fun v103 h =>
  Y1 [v103, v2, v3, v10, v11] h)
  (B.call C f2 [v0, v1, v2, v13, v4] h fun v111 h =>
  B.pv (V.ext 0 v111) fun v112 =>
  B.pv (V.ext 1 v111) fun v113 =>
  B.pv (V.bin .sub v112 v1) fun v117 =>
  B.pv (V.bin .sub v2 v112) fun v120 =>
  B.pv (V.bin .quo v12 (.int .i64 8)) fun v122 =>
  B.pv (V.bin .lss v117 v120) fun v125 =>
  B.cond v125
  (B.pv (V.bin .geq v117 v122) fun v128 =>
  B.call C f3 [v0, v1, v112, v3, v4] h fun v134 h =>
  B.pv (V.bin .add v112 (.int .i64 1)) fun v136 =>
  Y1 [v136, v2, v3, v128, v113] h)
  (B.pv (V.bin .geq v120 v122) fun v139 =>
  B.pv (V.bin .add v112 (.int .i64 1)) fun v142 =>
  B.call C f3 [v0, v142, v2, v3, v4] h fun v146 h =>
  Y1 [v1, v112, v3, v139, v113] h))
@[simp] def slices_pdqsortT.k2 (C : CSem) (E : ElOps) (C0 : CSem) (fL : Nat) (f1 f2 f3 f4 f5 f6 f7 f8 f9 : Nat) (Q : AVal → AHeap → Prop) (Y1 : List AVal → AHeap → Prop) (v0 v1 v2 v3 v4 v10 v11 v12 v13 v14 : AVal) (h : AHeap) : Prop :=
 B.gd h v10 true (fun K => K v11 h) fun v70 h =>
  B.pick v10 v70 (.bool false) fun v71 =>
  B.gd h v71 true (fun K => K v14 h) fun v73 h =>
  B.gd h v71 true (fun K => B.pv (V.bin .eql v73 (.int .i64 1)) fun v => K v h) fun v74 h =>
  B.pick v71 v74 (.bool false) fun v75 =>
  B.cond v75
  (B.call C f4 [v0, v1, v2, v4] h fun v80 h =>
  B.cond v80
  (Q (.tup []) h)
  (slices_pdqsortT.k1 C E C0 fL f1 f2 f3 f4 f5 f6 f7 f8 f9 Q Y1 v0 v1 v2 v3 v4 v10 v11 v12 v13 h))
  (slices_pdqsortT.k1 C E C0 fL f1 f2 f3 f4 f5 f6 f7 f8 f9 Q Y1 v0 v1 v2 v3 v4 v10 v11 v12 v13 h)
@[simp] def slices_pdqsortT.k3 (C : CSem) (E : ElOps) (C0 : CSem) (fL : Nat) (f1 f2 f3 f4 f5 f6 f7 f8 f9 : Nat) (Q : AVal → AHeap → Prop) (Y1 : List AVal → AHeap → Prop) (v0 v1 v2 v3 v4 v10 v11 v12 v13 v14 : AVal) (h : AHeap) : Prop :=
 B.pv (V.bin .eql v14 (.int .i64 2)) fun v56 =>
  B.cond v56
  (B.call C f5 [v0, v1, v2, v4] h fun v61 h =>
  B.pv (V.bin .sub v2 (.int .i64 1)) fun v63 =>
  B.pv (V.bin .sub v13 v1) fun v66 =>
  B.pv (V.bin .sub v63 v66) fun v67 =>
  slices_pdqsortT.k2 C E C0 fL f1 f2 f3 f4 f5 f6 f7 f8 f9 Q Y1 v0 v1 v2 v3 v4 v10 v11 v12 v67 (.int .i64 1) h)
  (slices_pdqsortT.k2 C E C0 fL f1 f2 f3 f4 f5 f6 f7 f8 f9 Q Y1 v0 v1 v2 v3 v4 v10 v11 v12 v13 v14 h)
@[simp] def slices_pdqsortT.k4 (C : CSem) (E : ElOps) (C0 : CSem) (fL : Nat) (f1 f2 f3 f4 f5 f6 f7 f8 f9 : Nat) (Q : AVal → AHeap → Prop) (Y1 : List AVal → AHeap → Prop) (v0 v1 v2 v3 v4 v10 v11 v12 : AVal) (h : AHeap) : Prop :=
 B.call C f6 [v0, v1, v2, v4] h fun v52 h =>
  B.pv (V.ext 0 v52) fun v53 =>
  B.pv (V.ext 1 v52) fun v54 =>
  slices_pdqsortT.k3 C E C0 fL f1 f2 f3 f4 f5 f6 f7 f8 f9 Q Y1 v0 v1 v2 v3 v4 v10 v11 v12 v53 v54 h
@[simp] def slices_pdqsortT.k5 (C : CSem) (E : ElOps) (C0 : CSem) (fL : Nat) (f1 f2 f3 f4 f5 f6 f7 f8 f9 : Nat) (Q : AVal → AHeap → Prop) (Y1 : List AVal → AHeap → Prop) (v0 v1 v2 v3 v4 v10 v11 v12 : AVal) (h : AHeap) : Prop :=
 B.pv (V.un .not v10) fun v39 =>
  B.cond v39
  (B.call C f7 [v0, v1, v2, v4] h fun v44 h =>
  B.pv (V.bin .sub v3 (.int .i64 1)) fun v46 =>
  slices_pdqsortT.k4 C E C0 fL f1 f2 f3 f4 f5 f6 f7 f8 f9 Q Y1 v0 v1 v2 v46 v4 v10 v11 v12 h)
  (slices_pdqsortT.k4 C E C0 fL f1 f2 f3 f4 f5 f6 f7 f8 f9 Q Y1 v0 v1 v2 v3 v4 v10 v11 v12 h)
@[simp] def slices_pdqsortT.k6 (C : CSem) (E : ElOps) (C0 : CSem) (fL : Nat) (f1 f2 f3 f4 f5 f6 f7 f8 f9 : Nat) (Q : AVal → AHeap → Prop) (Y1 : List AVal → AHeap → Prop) (v0 v1 v2 v3 v4 v10 v11 v12 : AVal) (h : AHeap) : Prop :=
 B.pv (V.bin .eql v3 (.int .i64 0)) fun v32 =>
  B.cond v32
  (B.call C f8 [v0, v1, v2, v4] h fun v37 h =>
  Q (.tup []) h)
  (slices_pdqsortT.k5 C E C0 fL f1 f2 f3 f4 f5 f6 f7 f8 f9 Q Y1 v0 v1 v2 v3 v4 v10 v11 v12 h)
@[simp] def slices_pdqsortT.k7 (C : CSem) (E : ElOps) (C0 : CSem) (fL : Nat) (f1 f2 f3 f4 f5 f6 f7 f8 f9 : Nat) (Q : AVal → AHeap → Prop) (Y1 : List AVal → AHeap → Prop) (v0 v1 v2 v3 v4 v10 v11 v12 : AVal) (h : AHeap) : Prop :=
 B.pv (V.bin .leq v12 (.int .i64 12)) fun v25 =>
  B.cond v25
  (B.call C f9 [v0, v1, v2, v4] h fun v30 h =>
  Q (.tup []) h)
  (slices_pdqsortT.k6 C E C0 fL f1 f2 f3 f4 f5 f6 f7 f8 f9 Q Y1 v0 v1 v2 v3 v4 v10 v11 v12 h)
@[simp] def slices_pdqsortT.l8 (C : CSem) (E : ElOps) (C0 : CSem) (fL : Nat) (f1 f2 f3 f4 f5 f6 f7 f8 f9 : Nat) (Q : AVal → AHeap → Prop) (v0 v4 : AVal) : List AVal → AHeap → (List AVal → AHeap → Prop) → Prop
 | [v1, v2, v3, v10, v11], h, Y1 => B.pv (V.bin .sub v2 v1) fun v23 =>
  slices_pdqsortT.k7 C E C0 fL f1 f2 f3 f4 f5 f6 f7 f8 f9 Q Y1 v0 v1 v2 v3 v4 v10 v11 v23 h
 | _, _, _ => False
@[simp] def slices_pdqsortT.cps (C : CSem) (E : ElOps) (C0 : CSem) (fL : Nat) (f1 f2 f3 f4 f5 f6 f7 f8 f9 : Nat) (v0 v1 v2 v3 v4 : AVal) (h : AHeap) (Q : AVal → AHeap → Prop) : Prop :=
 LoopR (slices_pdqsortT.l8 C E C0 fL f1 f2 f3 f4 f5 f6 f7 f8 f9 Q v0 v4) [v1, v2, v3, (.bool true), (.bool true)] h
@[simp] def slices_heapSortT.k1 (C : CSem) (E : ElOps) (C0 : CSem) (fL : Nat) (f1 : Nat) (Q : AVal → AHeap → Prop) (Y1 : List AVal → AHeap → Prop) (v0 v3 v8 v9 v12 : AVal) (h : AHeap) : Prop :=
 B.pv (V.bin .geq v12 (.int .i64 0)) fun v33 =>
  B.cond v33
  (B.pv (V.bin .add v8 v12) fun v41 =>
  B.pv (V.bin .add v8 v12) fun v45 =>
  B.pv (V.idxS E.es v0 v45) fun v46 =>
  E.ld h v46 fun v47 =>
  B.pv (V.idxS E.es v0 v8) fun v50 =>
  E.ld h v50 fun v51 =>
  B.pv (V.idxS E.es v0 v8) fun v52 =>
  E.st h v52 v47 fun h =>
  B.pv (V.idxS E.es v0 v41) fun v53 =>
  E.st h v53 v51 fun h =>
  B.call C f1 [v0, v9, v12, v8, v3] h fun v59 h =>
  B.pv (V.bin .sub v12 (.int .i64 1)) fun v35 =>
  Y1 [v35] h)
  (Q (.tup []) h)
@[simp] def slices_heapSortT.l2 (C : CSem) (E : ElOps) (C0 : CSem) (fL : Nat) (f1 : Nat) (Q : AVal → AHeap → Prop) (v0 v3 v8 v9 : AVal) : List AVal → AHeap → (List AVal → AHeap → Prop) → Prop
 | [v12], h, Y1 => slices_heapSortT.k1 C E C0 fL f1 Q Y1 v0 v3 v8 v9 v12 h
 | _, _, _ => False
@[simp] def slices_heapSortT.k3 (C : CSem) (E : ElOps) (C0 : CSem) (fL : Nat) (f1 : Nat) (Q : AVal → AHeap → Prop) (Y2 : List AVal → AHeap → Prop) (v0 v3 v8 v9 v10 v11 : AVal) (h : AHeap) : Prop :=
 B.pv (V.bin .geq v11 (.int .i64 0)) fun v21 =>
  B.cond v21
  (B.call C f1 [v0, v11, v10, v8, v3] h fun v29 h =>
  B.pv (V.bin .sub v11 (.int .i64 1)) fun v23 =>
  Y2 [v23] h)
  (B.pv (V.bin .sub v10 (.int .i64 1)) fun v31 =>
  LoopR (slices_heapSortT.l2 C E C0 fL f1 Q v0 v3 v8 v9) [v31] h)
@[simp] def slices_heapSortT.l4 (C : CSem) (E : ElOps) (C0 : CSem) (fL : Nat) (f1 : Nat) (Q : AVal → AHeap → Prop) (v0 v3 v8 v9 v10 : AVal) : List AVal → AHeap → (List AVal → AHeap → Prop) → Prop
 | [v11], h, Y2 => slices_heapSortT.k3 C E C0 fL f1 Q Y2 v0 v3 v8 v9 v10 v11 h
 | _, _, _ => False
@[simp] def slices_heapSortT.k5 (C : CSem) (E : ElOps) (C0 : CSem) (fL : Nat) (f1 : Nat) (Q : AVal → AHeap → Prop) (v0 v3 v8 v9 v10 : AVal) (h : AHeap) : Prop :=
 B.pv (V.bin .sub v10 (.int .i64 1)) fun v18 =>
  B.pv (V.bin .quo v18 (.int .i64 2)) fun v19 =>
  LoopR (slices_heapSortT.l4 C E C0 fL f1 Q v0 v3 v8 v9 v10) [v19] h
@[simp] def slices_heapSortT.cps (C : CSem) (E : ElOps) (C0 : CSem) (fL : Nat) (f1 : Nat) (v0 v1 v2 v3 : AVal) (h : AHeap) (Q : AVal → AHeap → Prop) : Prop :=
 B.pv (V.bin .sub v2 v1) fun v16 =>
  slices_heapSortT.k5 C E C0 fL f1 Q v0 v3 v1 (.int .i64 0) v16 h
@[simp] def slices_breakPatternsT.k1 (C : CSem) (E : ElOps) (C0 : CSem) (fL : Nat) (f1 f2 : Nat) (Q : AVal → AHeap → Prop) (Y1 : List AVal → AHeap → Prop) (v0 v1 v8 v9 v10 v11 v12 : AVal) (h : AHeap) : Prop :=
 B.pv (V.bin .add v1 v12) fun v54 =>
  B.pv (V.bin .add v1 v12) fun v58 =>
  B.pv (V.idxS E.es v0 v58) fun v59 =>
  E.ld h v59 fun v60 =>
  B.pv (V.idxS E.es v0 v11) fun v63 =>
  E.ld h v63 fun v64 =>
  B.pv (V.idxS E.es v0 v11) fun v65 =>
  E.st h v65 v60 fun h =>
  B.pv (V.idxS E.es v0 v54) fun v66 =>
  E.st h v66 v64 fun h =>
  B.pv (V.bin .add v11 (.int .i64 1)) fun v37 =>
  Y1 [v37] h
@[simp] def slices_breakPatternsT.k2 (C : CSem) (E : ElOps) (C0 : CSem) (fL : Nat) (f1 f2 : Nat) (Q : AVal → AHeap → Prop) (Y1 : List AVal → AHeap → Prop) (v0 v1 v8 v9 v10 v11 v12 : AVal) (h : AHeap) : Prop :=
 B.pv (V.bin .geq v12 v8) fun v45 =>
  B.cond v45
  (B.pv (V.bin .sub v12 v8) fun v48 =>
  slices_breakPatternsT.k1 C E C0 fL f1 f2 Q Y1 v0 v1 v8 v9 v10 v11 v48 h)
  (slices_breakPatternsT.k1 C E C0 fL f1 f2 Q Y1 v0 v1 v8 v9 v10 v11 v12 h)
@[simp] def slices_breakPatternsT.k3 (C : CSem) (E : ElOps) (C0 : CSem) (fL : Nat) (f1 f2 : Nat) (Q : AVal → AHeap → Prop) (Y1 : List AVal → AHeap → Prop) (v0 v1 v8 v9 v10 v11 : AVal) (h : AHeap) : Prop :=
 B.call C0 f1 [v9] h fun v38 h =>
  B.pv (V.bin .sub v10 (.int .u64 1)) fun v40 =>
  B.pv (V.bin .and v38 v40) fun v41 =>
  B.pv (V.toInt .i64 v41) fun v42 =>
  slices_breakPatternsT.k2 C E C0 fL f1 f2 Q Y1 v0 v1 v8 v9 v10 v11 v42 h
@[simp] def slices_breakPatternsT.k4 (C : CSem) (E : ElOps) (C0 : CSem) (fL : Nat) (f1 f2 : Nat) (Q : AVal → AHeap → Prop) (Y1 : List AVal → AHeap → Prop) (v0 v1 v8 v9 v10 v11 : AVal) (h : AHeap) : Prop :=
 B.pv (V.bin .quo v8 (.int .i64 4)) fun v31 =>
  B.pv (V.bin .mul v31 (.int .i64 2)) fun v32 =>
  B.pv (V.bin .add v1 v32) fun v33 =>
  B.pv (V.bin .add v33 (.int .i64 1)) fun v34 =>
  B.pv (V.bin .leq v11 v34) fun v35 =>
  B.cond v35
  (slices_breakPatternsT.k3 C E C0 fL f1 f2 Q Y1 v0 v1 v8 v9 v10 v11 h)
  (Q (.tup []) h)
@[simp] def slices_breakPatternsT.l5 (C : CSem) (E : ElOps) (C0 : CSem) (fL : Nat) (f1 f2 : Nat) (Q : AVal → AHeap → Prop) (v0 v1 v8 v9 v10 : AVal) : List AVal → AHeap → (List AVal → AHeap → Prop) → Prop
 | [v11], h, Y1 => slices_breakPatternsT.k4 C E C0 fL f1 f2 Q Y1 v0 v1 v8 v9 v10 v11 h
 | _, _, _ => False
@[simp] def slices_breakPatternsT.k6 (C : CSem) (E : ElOps) (C0 : CSem) (fL : Nat) (f1 f2 : Nat) (Q : AVal → AHeap → Prop) (v0 v1 v8 v9 v10 : AVal) (h : AHeap) : Prop :=
 B.pv (V.bin .quo v8 (.int .i64 4)) fun v24 =>
  B.pv (V.bin .mul v24 (.int .i64 2)) fun v25 =>
  B.pv (V.bin .add v1 v25) fun v26 =>
  B.pv (V.bin .sub v26 (.int .i64 1)) fun v27 =>
  LoopR (slices_breakPatternsT.l5 C E C0 fL f1 f2 Q v0 v1 v8 v9 v10) [v27] h
@[simp] def slices_breakPatternsT.k7 (C : CSem) (E : ElOps) (C0 : CSem) (fL : Nat) (f1 f2 : Nat) (Q : AVal → AHeap → Prop) (v0 v1 v8 : AVal) (h : AHeap) : Prop :=
 B.pv (V.toInt .u64 v8) fun v19 =>
  B.newO h (some [.int .u64 0]) fun i9 h =>
  B.st h (.ptr i9 0 0) v19 fun h =>
  B.call C0 f2 [v8] h fun v21 h =>
  slices_breakPatternsT.k6 C E C0 fL f1 f2 Q v0 v1 v8 (.ptr i9 0 0) v21 h
@[simp] def slices_breakPatternsT.k8 (C : CSem) (E : ElOps) (C0 : CSem) (fL : Nat) (f1 f2 : Nat) (Q : AVal → AHeap → Prop) (v0 v1 v2 : AVal) (h : AHeap) : Prop :=
 B.pv (V.bin .sub v2 v1) fun v15 =>
  B.pv (V.bin .geq v15 (.int .i64 8)) fun v17 =>
  B.cond v17 (slices_breakPatternsT.k7 C E C0 fL f1 f2 Q v0 v1 v15 h) (Q (.tup []) h)
@[simp] def slices_breakPatternsT.cps (C : CSem) (E : ElOps) (C0 : CSem) (fL : Nat) (f1 f2 : Nat) (v0 v1 v2 v3 : AVal) (h : AHeap) (Q : AVal → AHeap → Prop) : Prop :=
 slices_breakPatternsT.k8 C E C0 fL f1 f2 Q v0 v1 v2 h
@[simp] def slices_choosePivotT.k1 (C : CSem) (E : ElOps) (C0 : CSem) (fL : Nat) (f1 f2 : Nat) (Q : AVal → AHeap → Prop) (v11 v13 : AVal) (h : AHeap) : Prop :=
 B.ld h v11 fun v55 =>
  B.pv (V.bin .eql v55 (.int .i64 0)) fun v58 =>
  B.cond v58
  (Q (.tup [v13, (.int .i64 1)]) h)
  (B.pv (V.bin .eql v55 (.int .i64 12)) fun v61 =>
  B.cond v61
  (Q (.tup [v13, (.int .i64 2)]) h)
  (Q (.tup [v13, (.int .i64 0)]) h))
@[simp] def slices_choosePivotT.k2 (C : CSem) (E : ElOps) (C0 : CSem) (fL : Nat) (f1 f2 : Nat) (Q : AVal → AHeap → Prop) (v0 v3 v10 v11 v12 v13 v14 : AVal) (h : AHeap) : Prop :=
 B.pv (V.bin .geq v10 (.int .i64 50)) fun v36 =>
  B.cond v36
  (B.call C f2 [v0, v12, v11, v3] h fun v40 h =>
  B.call C f2 [v0, v13, v11, v3] h fun v44 h =>
  B.call C f2 [v0, v14, v11, v3] h fun v48 h =>
  B.call C f1 [v0, v40, v44, v48, v11, v3] h fun v54 h =>
  slices_choosePivotT.k1 C E C0 fL f1 f2 Q v11 v54 h)
  (B.call C f1 [v0, v12, v13, v14, v11, v3] h fun v54 h =>
  slices_choosePivotT.k1 C E C0 fL f1 f2 Q v11 v54 h)
@[simp] def slices_choosePivotT.k3 (C : CSem) (E : ElOps) (C0 : CSem) (fL : Nat) (f1 f2 : Nat) (Q : AVal → AHeap → Prop) (v0 v3 v10 v11 v12 v13 v14 : AVal) (h : AHeap) : Prop :=
 B.pv (V.bin .geq v10 (.int .i64 8)) fun v34 =>
  B.cond v34 (slices_choosePivotT.k2 C E C0 fL f1 f2 Q v0 v3 v10 v11 v12 v13 v14 h) (slices_choosePivotT.k1 C E C0 fL f1 f2 Q v11 v13 h)
@[simp] def slices_choosePivotT.k4 (C : CSem) (E : ElOps) (C0 : CSem) (fL : Nat) (f1 f2 : Nat) (Q : AVal → AHeap → Prop) (v0 v1 v3 v10 v11 v12 v13 : AVal) (h : AHeap) : Prop :=
 B.pv (V.bin .quo v10 (.int .i64 4)) fun v30 =>
  B.pv (V.bin .mul v30 (.int .i64 3)) fun v31 =>
  B.pv (V.bin .add v1 v31) fun v32 =>
  slices_choosePivotT.k3 C E C0 fL f1 f2 Q v0 v3 v10 v11 v12 v13 v32 h
@[simp] def slices_choosePivotT.k5 (C : CSem) (E : ElOps) (C0 : CSem) (fL : Nat) (f1 f2 : Nat) (Q : AVal → AHeap → Prop) (v0 v1 v3 v10 v11 v12 : AVal) (h : AHeap) : Prop :=
 B.pv (V.bin .quo v10 (.int .i64 4)) fun v25 =>
  B.pv (V.bin .mul v25 (.int .i64 2)) fun v26 =>
  B.pv (V.bin .add v1 v26) fun v27 =>
  slices_choosePivotT.k4 C E C0 fL f1 f2 Q v0 v1 v3 v10 v11 v12 v27 h
@[simp] def slices_choosePivotT.k6 (C : CSem) (E : ElOps) (C0 : CSem) (fL : Nat) (f1 f2 : Nat) (Q : AVal → AHeap → Prop) (v0 v1 v3 v10 v11 : AVal) (h : AHeap) : Prop :=
 B.pv (V.bin .quo v10 (.int .i64 4)) fun v20 =>
  B.pv (V.bin .mul v20 (.int .i64 1)) fun v21 =>
  B.pv (V.bin .add v1 v21) fun v22 =>
  slices_choosePivotT.k5 C E C0 fL f1 f2 Q v0 v1 v3 v10 v11 v22 h
@[simp] def slices_choosePivotT.cps (C : CSem) (E : ElOps) (C0 : CSem) (fL : Nat) (f1 f2 : Nat) (v0 v1 v2 v3 : AVal) (h : AHeap) (Q : AVal → AHeap → Prop) : Prop :=
 B.pv (V.bin .sub v2 v1) fun v17 =>
  B.newO h (some [.int .i64 0]) fun i11 h =>
  slices_choosePivotT.k6 C E C0 fL f1 f2 Q v0 v1 v3 v17 (.ptr i11 0 0) h
@[simp] def slices_reverseRangeT.k1 (C : CSem) (E : ElOps) (C0 : CSem) (fL : Nat) (Q : AVal → AHeap → Prop) (Y1 : List AVal → AHeap → Prop) (v0 v8 v9 : AVal) (h : AHeap) : Prop :=
 B.pv (V.bin .lss v8 v9) fun v15 =>
  B.cond v15
  (B.pv (V.idxS E.es v0 v9) fun v22 =>
  E.ld h v22 fun v23 =>
  B.pv (V.idxS E.es v0 v8) fun v26 =>
  E.ld h v26 fun v27 =>
  B.pv (V.idxS E.es v0 v8) fun v28 =>
  E.st h v28 v23 fun h =>
  B.pv (V.idxS E.es v0 v9) fun v29 =>
  E.st h v29 v27 fun h =>
  B.pv (V.bin .add v8 (.int .i64 1)) fun v31 =>
  B.pv (V.bin .sub v9 (.int .i64 1)) fun v33 =>
  Y1 [v31, v33] h)
  (Q (.tup []) h)
@[simp] def slices_reverseRangeT.l2 (C : CSem) (E : ElOps) (C0 : CSem) (fL : Nat) (Q : AVal → AHeap → Prop) (v0 : AVal) : List AVal → AHeap → (List AVal → AHeap → Prop) → Prop
 | [v8, v9], h, Y1 => slices_reverseRangeT.k1 C E C0 fL Q Y1 v0 v8 v9 h
 | _, _, _ => False
@[simp] def slices_reverseRangeT.cps (C : CSem) (E : ElOps) (C0 : CSem) (fL : Nat) (v0 v1 v2 v3 : AVal) (h : AHeap) (Q : AVal → AHeap → Prop) : Prop :=
 B.pv (V.bin .sub v2 (.int .i64 1)) fun v12 =>
  LoopR (slices_reverseRangeT.l2 C E C0 fL Q v0) [v1, v12] h
@[simp] def slices_partialInsertionSortT.k1 (C : CSem) (E : ElOps) (C0 : CSem) (fL : Nat) (Q : AVal → AHeap → Prop) (Y1 : List AVal → AHeap → Prop) (Y2 : List AVal → AHeap → Prop) (v0 v1 v2 v3 v9 v10 v12 : AVal) (h : AHeap) : Prop :=
 B.pv (V.bin .lss v12 v2) fun v109 =>
  B.cond v109
  (B.pv (V.idxS E.es v0 v12) fun v115 =>
  E.ld h v115 fun v116 =>
  B.pv (V.bin .sub v12 (.int .i64 1)) fun v119 =>
  B.pv (V.idxS E.es v0 v119) fun v120 =>
  E.ld h v120 fun v121 =>
  B.call C0 fL [v116, v121] h fun v123 h =>
  B.pv (V.un .not v123) fun v124 =>
  B.cond v124
  (B.pv (V.bin .add v10 (.int .i64 1)) fun v18 =>
  Y1 [v9, v18] h)
  (B.pv (V.bin .sub v12 (.int .i64 1)) fun v129 =>
  B.pv (V.bin .sub v12 (.int .i64 1)) fun v132 =>
  B.pv (V.idxS E.es v0 v132) fun v133 =>
  E.ld h v133 fun v134 =>
  B.pv (V.idxS E.es v0 v12) fun v137 =>
  E.ld h v137 fun v138 =>
  B.pv (V.idxS E.es v0 v12) fun v139 =>
  E.st h v139 v134 fun h =>
  B.pv (V.idxS E.es v0 v129) fun v140 =>
  E.st h v140 v138 fun h =>
  B.pv (V.bin .add v12 (.int .i64 1)) fun v111 =>
  Y2 [v111] h))
  (B.pv (V.bin .add v10 (.int .i64 1)) fun v18 =>
  Y1 [v9, v18] h)
@[simp] def slices_partialInsertionSortT.l2 (C : CSem) (E : ElOps) (C0 : CSem) (fL : Nat) (Q : AVal → AHeap → Prop) (Y1 : List AVal → AHeap → Prop) (v0 v1 v2 v3 v9 v10 : AVal) : List AVal → AHeap → (List AVal → AHeap → Prop) → Prop
 | [v12], h, Y2 => slices_partialInsertionSortT.k1 C E C0 fL Q Y1 Y2 v0 v1 v2 v3 v9 v10 v12 h
 | _, _, _ => False
@[simp] def slices_partialInsertionSortT.k3 (C : CSem) (E : ElOps) (C0 : CSem) (fL : Nat) (Q : AVal → AHeap → Prop) (Y1 : List AVal → AHeap → Prop) (v0 v1 v2 v3 v9 v10 : AVal) (h : AHeap) : Prop :=
 B.pv (V.bin .sub v2 v9) fun v103 =>
  B.pv (V.bin .geq v103 (.int .i64 2)) fun v104 =>
  B.cond v104 (B.pv (V.bin .add v9 (.int .i64 1)) fun v106 =>
  LoopR (slices_partialInsertionSortT.l2 C E C0 fL Q Y1 v0 v1 v2 v3 v9 v10) [v106] h) (B.pv (V.bin .add v10 (.int .i64 1)) fun v18 =>
  Y1 [v9, v18] h)
@[simp] def slices_partialInsertionSortT.k4 (C : CSem) (E : ElOps) (C0 : CSem) (fL : Nat) (Q : AVal → AHeap → Prop) (Y1 : List AVal → AHeap → Prop) (Y3 : List AVal → AHeap → Prop) (v0 v1 v2 v3 v9 v10 v11 : AVal) (h : AHeap) : Prop :=
 B.pv (V.bin .geq v11 (.int .i64 1)) fun v69 =>
  B.cond v69
  (B.pv (V.idxS E.es v0 v11) fun v75 =>
  E.ld h v75 fun v76 =>
  B.pv (V.bin .sub v11 (.int .i64 1)) fun v79 =>
  B.pv (V.idxS E.es v0 v79) fun v80 =>
  E.ld h v80 fun v81 =>
  B.call C0 fL [v76, v81] h fun v83 h =>
  B.pv (V.un .not v83) fun v84 =>
  B.cond v84
  (slices_partialInsertionSortT.k3 C E C0 fL Q Y1 v0 v1 v2 v3 v9 v10 h)
  (B.pv (V.bin .sub v11 (.int .i64 1)) fun v89 =>
  B.pv (V.bin .sub v11 (.int .i64 1)) fun v92 =>
  B.pv (V.idxS E.es v0 v92) fun v93 =>
  E.ld h v93 fun v94 =>
  B.pv (V.idxS E.es v0 v11) fun v97 =>
  E.ld h v97 fun v98 =>
  B.pv (V.idxS E.es v0 v11) fun v99 =>
  E.st h v99 v94 fun h =>
  B.pv (V.idxS E.es v0 v89) fun v100 =>
  E.st h v100 v98 fun h =>
  B.pv (V.bin .sub v11 (.int .i64 1)) fun v71 =>
  Y3 [v71] h))
  (slices_partialInsertionSortT.k3 C E C0 fL Q Y1 v0 v1 v2 v3 v9 v10 h)
@[simp] def slices_partialInsertionSortT.l5 (C : CSem) (E : ElOps) (C0 : CSem) (fL : Nat) (Q : AVal → AHeap → Prop) (Y1 : List AVal → AHeap → Prop) (v0 v1 v2 v3 v9 v10 : AVal) : List AVal → AHeap → (List AVal → AHeap → Prop) → Prop
 | [v11], h, Y3 => slices_partialInsertionSortT.k4 C E C0 fL Q Y1 Y3 v0 v1 v2 v3 v9 v10 v11 h
 | _, _, _ => False
@[simp] def slices_partialInsertionSortT.k6 (C : CSem) (E : ElOps) (C0 : CSem) (fL : Nat) (Q : AVal → AHeap → Prop) (Y1 : List AVal → AHeap → Prop) (v0 v1 v2 v3 v9 v10 : AVal) (h : AHeap) : Prop :=
 B.pv (V.bin .sub v9 v1) fun v64 =>
  B.pv (V.bin .geq v64 (.int .i64 2)) fun v65 =>
  B.cond v65 (B.pv (V.bin .sub v9 (.int .i64 1)) fun v67 =>
  LoopR (slices_partialInsertionSortT.l5 C E C0 fL Q Y1 v0 v1 v2 v3 v9 v10) [v67] h) (slices_partialInsertionSortT.k3 C E C0 fL Q Y1 v0 v1 v2 v3 v9 v10 h)
@[simp] def slices_partialInsertionSortT.k7 (C : CSem) (E : ElOps) (C0 : CSem) (fL : Nat) (Q : AVal → AHeap → Prop) (Y1 : List AVal → AHeap → Prop) (v0 v1 v2 v3 v9 v10 : AVal) (h : AHeap) : Prop :=
 B.pv (V.bin .sub v9 (.int .i64 1)) fun v50 =>
  B.pv (V.bin .sub v9 (.int .i64 1)) fun v53 =>
  B.pv (V.idxS E.es v0 v53) fun v54 =>
  E.ld h v54 fun v55 =>
  B.pv (V.idxS E.es v0 v9) fun v58 =>
  E.ld h v58 fun v59 =>
  B.pv (V.idxS E.es v0 v9) fun v60 =>
  E.st h v60 v55 fun h =>
  B.pv (V.idxS E.es v0 v50) fun v61 =>
  E.st h v61 v59 fun h =>
  slices_partialInsertionSortT.k6 C E C0 fL Q Y1 v0 v1 v2 v3 v9 v10 h
@[simp] def slices_partialInsertionSortT.k8 (C : CSem) (E : ElOps) (C0 : CSem) (fL : Nat) (Q : AVal → AHeap → Prop) (Y1 : List AVal → AHeap → Prop) (v0 v1 v2 v3 v9 v10 : AVal) (h : AHeap) : Prop :=
 B.pv (V.bin .sub v2 v1) fun v44 =>
  B.pv (V.bin .lss v44 (.int .i64 50)) fun v45 =>
  B.cond v45
  (Q (.bool false) h)
  (slices_partialInsertionSortT.k7 C E C0 fL Q Y1 v0 v1 v2 v3 v9 v10 h)
@[simp] def slices_partialInsertionSortT.k9 (C : CSem) (E : ElOps) (C0 : CSem) (fL : Nat) (Q : AVal → AHeap → Prop) (Y1 : List AVal → AHeap → Prop) (Y4 : List AVal → AHeap → Prop) (v0 v1 v2 v3 v9 v10 : AVal) (h : AHeap) : Prop :=
 B.pv (V.bin .lss v9 v2) fun v21 =>
  B.gd h v21 true (fun K => K v0 h) fun v24 h =>
  B.gd h v21 true (fun K => K v9 h) fun v25 h =>
  B.gd h v21 true (fun K => B.pv (V.idxS E.es v24 v25) fun v => K v h) fun v26 h =>
  B.gd h v21 true (fun K => E.ld h v26 fun v => K v h) fun v27 h =>
  B.gd h v21 true (fun K => K v0 h) fun v28 h =>
  B.gd h v21 true (fun K => K v9 h) fun v29 h =>
  B.gd h v21 true (fun K => B.pv (V.bin .sub v29 (.int .i64 1)) fun v => K v h) fun v30 h =>
  B.gd h v21 true (fun K => B.pv (V.idxS E.es v28 v30) fun v => K v h) fun v31 h =>
  B.gd h v21 true (fun K => E.ld h v31 fun v => K v h) fun v32 h =>
  B.gd h v21 true (fun K => B.call C0 fL [v27, v32] h K) fun v34 h =>
  B.gd h v21 true (fun K => B.pv (V.un .not v34) fun v => K v h) fun v35 h =>
  B.pick v21 v35 (.bool false) fun v36 =>
  B.cond v36
  (B.pv (V.bin .add v9 (.int .i64 1)) fun v38 =>
  Y4 [v38] h)
  (B.pv (V.bin .eql v9 v2) fun v41 =>
  B.cond v41
  (Q (.bool true) h)
  (slices_partialInsertionSortT.k8 C E C0 fL Q Y1 v0 v1 v2 v3 v9 v10 h))
@[simp] def slices_partialInsertionSortT.l10 (C : CSem) (E : ElOps) (C0 : CSem) (fL : Nat) (Q : AVal → AHeap → Prop) (Y1 : List AVal → AHeap → Prop) (v0 v1 v2 v3 v10 : AVal) : List AVal → AHeap → (List AVal → AHeap → Prop) → Prop
 | [v9], h, Y4 => slices_partialInsertionSortT.k9 C E C0 fL Q Y1 Y4 v0 v1 v2 v3 v9 v10 h
 | _, _, _ => False
@[simp] def slices_partialInsertionSortT.k11 (C : CSem) (E : ElOps) (C0 : CSem) (fL : Nat) (Q : AVal → AHeap → Prop) (Y1 : List AVal → AHeap → Prop) (v0 v1 v2 v3 v9 v10 : AVal) (h : AHeap) : Prop :=
 B.pv (V.bin .lss v10 (.int .i64 5)) fun v16 =>
  B.cond v16
  (LoopR (slices_partialInsertionSortT.l10 C E C0 fL Q Y1 v0 v1 v2 v3 v10) [v9] h)
  (Q (.bool false) h)
@[simp] def slices_partialInsertionSortT.l12 (C : CSem) (E : ElOps) (C0 : CSem) (fL : Nat) (Q : AVal → AHeap → Prop) (v0 v1 v2 v3 : AVal) : List AVal → AHeap → (List AVal → AHeap → Prop) → Prop
 | [v9, v10], h, Y1 => slices_partialInsertionSortT.k11 C E C0 fL Q Y1 v0 v1 v2 v3 v9 v10 h
 | _, _, _ => False
@[simp] def slices_partialInsertionSortT.cps (C : CSem) (E : ElOps) (C0 : CSem) (fL : Nat) (v0 v1 v2 v3 : AVal) (h : AHeap) (Q : AVal → AHeap → Prop) : Prop :=
 B.pv (V.bin .add v1 (.int .i64 1)) fun v14 =>
  LoopR (slices_partialInsertionSortT.l12 C E C0 fL Q v0 v1 v2 v3) [v14, (.int .i64 0)] h
@[simp] def slices_partitionEqualT.k1 (C : CSem) (E : ElOps) (C0 : CSem) (fL : Nat) (Q : AVal → AHeap → Prop) (Y1 : List AVal → AHeap → Prop) (v0 v1 v4 v11 v12 : AVal) (h : AHeap) : Prop :=
 B.pv (V.bin .gtr v11 v12) fun v70 =>
  B.cond v70
  (Q v11 h)
  (B.pv (V.idxS E.es v0 v12) fun v77 =>
  E.ld h v77 fun v78 =>
  B.pv (V.idxS E.es v0 v11) fun v81 =>
  E.ld h v81 fun v82 =>
  B.pv (V.idxS E.es v0 v11) fun v83 =>
  E.st h v83 v78 fun h =>
  B.pv (V.idxS E.es v0 v12) fun v84 =>
  E.st h v84 v82 fun h =>
  B.pv (V.bin .add v11 (.int .i64 1)) fun v86 =>
  B.pv (V.bin .sub v12 (.int .i64 1)) fun v88 =>
  Y1 [v86, v88] h)
@[simp] def slices_partitionEqualT.k2 (C : CSem) (E : ElOps) (C0 : CSem) (fL : Nat) (Q : AVal → AHeap → Prop) (Y1 : List AVal → AHeap → Prop) (Y2 : List AVal → AHeap → Prop) (v0 v1 v4 v11 v12 : AVal) (h : AHeap) : Prop :=
 B.pv (V.bin .leq v11 v12) fun v52 =>
  B.gd h v52 true (fun K => K v0 h) fun v55 h =>
  B.gd h v52 true (fun K => K v1 h) fun v56 h =>
  B.gd h v52 true (fun K => B.pv (V.idxS E.es v55 v56) fun v => K v h) fun v57 h =>
  B.gd h v52 true (fun K => E.ld h v57 fun v => K v h) fun v58 h =>
  B.gd h v52 true (fun K => K v0 h) fun v59 h =>
  B.gd h v52 true (fun K => K v12 h) fun v60 h =>
  B.gd h v52 true (fun K => B.pv (V.idxS E.es v59 v60) fun v => K v h) fun v61 h =>
  B.gd h v52 true (fun K => E.ld h v61 fun v => K v h) fun v62 h =>
  B.gd h v52 true (fun K => B.call C0 fL [v58, v62] h K) fun v64 h =>
  B.pick v52 v64 (.bool false) fun v65 =>
  B.cond v65
  (B.pv (V.bin .sub v12 (.int .i64 1)) fun v67 =>
  Y2 [v67] h)
  (slices_partitionEqualT.k1 C E C0 fL Q Y1 v0 v1 v4 v11 v12 h)
@[simp] def slices_partitionEqualT.l3 (C : CSem) (E : ElOps) (C0 : CSem) (fL : Nat) (Q : AVal → AHeap → Prop) (Y1 : List AVal → AHeap → Prop) (v0 v1 v4 v11 : AVal) : List AVal → AHeap → (List AVal → AHeap → Prop) → Prop
 | [v12], h, Y2 => slices_partitionEqualT.k2 C E C0 fL Q Y1 Y2 v0 v1 v4 v11 v12 h
 | _, _, _ => False
@[simp] def slices_partitionEqualT.k4 (C : CSem) (E : ElOps) (C0 : CSem) (fL : Nat) (Q : AVal → AHeap → Prop) (Y1 : List AVal → AHeap → Prop) (Y3 : List AVal → AHeap → Prop) (v0 v1 v4 v11 v12 : AVal) (h : AHeap) : Prop :=
 B.pv (V.bin .leq v11 v12) fun v33 =>
  B.gd h v33 true (fun K => K v0 h) fun v36 h =>
  B.gd h v33 true (fun K => K v1 h) fun v37 h =>
  B.gd h v33 true (fun K => B.pv (V.idxS E.es v36 v37) fun v => K v h) fun v38 h =>
  B.gd h v33 true (fun K => E.ld h v38 fun v => K v h) fun v39 h =>
  B.gd h v33 true (fun K => K v0 h) fun v40 h =>
  B.gd h v33 true (fun K => K v11 h) fun v41 h =>
  B.gd h v33 true (fun K => B.pv (V.idxS E.es v40 v41) fun v => K v h) fun v42 h =>
  B.gd h v33 true (fun K => E.ld h v42 fun v => K v h) fun v43 h =>
  B.gd h v33 true (fun K => B.call C0 fL [v39, v43] h K) fun v45 h =>
  B.gd h v33 true (fun K => B.pv (V.un .not v45) fun v => K v h) fun v46 h =>
  B.pick v33 v46 (.bool false) fun v47 =>
  B.cond v47
  (B.pv (V.bin .add v11 (.int .i64 1)) fun v49 =>
  Y3 [v49] h)
  (LoopR (slices_partitionEqualT.l3 C E C0 fL Q Y1 v0 v1 v4 v11) [v12] h)
@[simp] def slices_partitionEqualT.l5 (C : CSem) (E : ElOps) (C0 : CSem) (fL : Nat) (Q : AVal → AHeap → Prop) (Y1 : List AVal → AHeap → Prop) (v0 v1 v4 v12 : AVal) : List AVal → AHeap → (List AVal → AHeap → Prop) → Prop
 | [v11], h, Y3 => slices_partitionEqualT.k4 C E C0 fL Q Y1 Y3 v0 v1 v4 v11 v12 h
 | _, _, _ => False
@[simp] def slices_partitionEqualT.l6 (C : CSem) (E : ElOps) (C0 : CSem) (fL : Nat) (Q : AVal → AHeap → Prop) (v0 v1 v4 : AVal) : List AVal → AHeap → (List AVal → AHeap → Prop) → Prop
 | [v11, v12], h, Y1 => LoopR (slices_partitionEqualT.l5 C E C0 fL Q Y1 v0 v1 v4 v12) [v11] h
 | _, _, _ => False
@[simp] def slices_partitionEqualT.k7 (C : CSem) (E : ElOps) (C0 : CSem) (fL : Nat) (Q : AVal → AHeap → Prop) (v0 v1 v2 v4 : AVal) (h : AHeap) : Prop :=
 B.pv (V.bin .add v1 (.int .i64 1)) fun v28 =>
  B.pv (V.bin .sub v2 (.int .i64 1)) fun v30 =>
  LoopR (slices_partitionEqualT.l6 C E C0 fL Q v0 v1 v4) [v28, v30] h
@[simp] def slices_partitionEqualT.k8 (C : CSem) (E : ElOps) (C0 : CSem) (fL : Nat) (Q : AVal → AHeap → Prop) (v0 v1 v2 v3 v4 : AVal) (h : AHeap) : Prop :=
 B.pv (V.idxS E.es v0 v3) fun v19 =>
  E.ld h v19 fun v20 =>
  B.pv (V.idxS E.es v0 v1) fun v23 =>
  E.ld h v23 fun v24 =>
  B.pv (V.idxS E.es v0 v1) fun v25 =>
  E.st h v25 v20 fun h =>
  B.pv (V.idxS E.es v0 v3) fun v26 =>
  E.st h v26 v24 fun h =>
  slices_partitionEqualT.k7 C E C0 fL Q v0 v1 v2 v4 h
@[simp] def slices_partitionEqualT.cps (C : CSem) (E : ElOps) (C0 : CSem) (fL : Nat) (v0 v1 v2 v3 v4 : AVal) (h : AHeap) (Q : AVal → AHeap → Prop) : Prop :=
 slices_partitionEqualT.k8 C E C0 fL Q v0 v1 v2 v3 v4 h
@[simp] def slices_partitionT.k1 (C : CSem) (E : ElOps) (C0 : CSem) (fL : Nat) (Q : AVal → AHeap → Prop) (v0 v1 v13 : AVal) (h : AHeap) : Prop :=
 B.pv (V.idxS E.es v0 v1) fun v169 =>
  E.ld h v169 fun v170 =>
  B.pv (V.idxS E.es v0 v13) fun v173 =>
  E.ld h v173 fun v174 =>
  B.pv (V.idxS E.es v0 v13) fun v175 =>
  E.st h v175 v170 fun h =>
  B.pv (V.idxS E.es v0 v1) fun v176 =>
  E.st h v176 v174 fun h =>
  Q (.tup [v13, (.bool false)]) h
@[simp] def slices_partitionT.k2 (C : CSem) (E : ElOps) (C0 : CSem) (fL : Nat) (Q : AVal → AHeap → Prop) (Y1 : List AVal → AHeap → Prop) (v0 v1 v4 v12 v13 : AVal) (h : AHeap) : Prop :=
 B.pv (V.bin .gtr v12 v13) fun v144 =>
  B.cond v144
  (slices_partitionT.k1 C E C0 fL Q v0 v1 v13 h)
  (B.pv (V.idxS E.es v0 v13) fun v151 =>
  E.ld h v151 fun v152 =>
  B.pv (V.idxS E.es v0 v12) fun v155 =>
  E.ld h v155 fun v156 =>
  B.pv (V.idxS E.es v0 v12) fun v157 =>
  E.st h v157 v152 fun h =>
  B.pv (V.idxS E.es v0 v13) fun v158 =>
  E.st h v158 v156 fun h =>
  B.pv (V.bin .add v12 (.int .i64 1)) fun v160 =>
  B.pv (V.bin .sub v13 (.int .i64 1)) fun v162 =>
  Y1 [v160, v162] h)
@[simp] def slices_partitionT.k3 (C : CSem) (E : ElOps) (C0 : CSem) (fL : Nat) (Q : AVal → AHeap → Prop) (Y1 : List AVal → AHeap → Prop) (Y2 : List AVal → AHeap → Prop) (v0 v1 v4 v12 v13 : AVal) (h : AHeap) : Prop :=
 B.pv (V.bin .leq v12 v13) fun v125 =>
  B.gd h v125 true (fun K => K v0 h) fun v128 h =>
  B.gd h v125 true (fun K => K v13 h) fun v129 h =>
  B.gd h v125 true (fun K => B.pv (V.idxS E.es v128 v129) fun v => K v h) fun v130 h =>
  B.gd h v125 true (fun K => E.ld h v130 fun v => K v h) fun v131 h =>
  B.gd h v125 true (fun K => K v0 h) fun v132 h =>
  B.gd h v125 true (fun K => K v1 h) fun v133 h =>
  B.gd h v125 true (fun K => B.pv (V.idxS E.es v132 v133) fun v => K v h) fun v134 h =>
  B.gd h v125 true (fun K => E.ld h v134 fun v => K v h) fun v135 h =>
  B.gd h v125 true (fun K => B.call C0 fL [v131, v135] h K) fun v137 h =>
  B.gd h v125 true (fun K => B.pv (V.un .not v137) fun v => K v h) fun v138 h =>
  B.pick v125 v138 (.bool false) fun v139 =>
  B.cond v139
  (B.pv (V.bin .sub v13 (.int .i64 1)) fun v141 =>
  Y2 [v141] h)
  (slices_partitionT.k2 C E C0 fL Q Y1 v0 v1 v4 v12 v13 h)
@[simp] def slices_partitionT.l4 (C : CSem) (E : ElOps) (C0 : CSem) (fL : Nat) (Q : AVal → AHeap → Prop) (Y1 : List AVal → AHeap → Prop) (v0 v1 v4 v12 : AVal) : List AVal → AHeap → (List AVal → AHeap → Prop) → Prop
 | [v13], h, Y2 => slices_partitionT.k3 C E C0 fL Q Y1 Y2 v0 v1 v4 v12 v13 h
 | _, _, _ => False
@[simp] def slices_partitionT.k5 (C : CSem) (E : ElOps) (C0 : CSem) (fL : Nat) (Q : AVal → AHeap → Prop) (Y1 : List AVal → AHeap → Prop) (Y3 : List AVal → AHeap → Prop) (v0 v1 v4 v12 v13 : AVal) (h : AHeap) : Prop :=
 B.pv (V.bin .leq v12 v13) fun v107 =>
  B.gd h v107 true (fun K => K v0 h) fun v110 h =>
  B.gd h v107 true (fun K => K v12 h) fun v111 h =>
  B.gd h v107 true (fun K => B.pv (V.idxS E.es v110 v111) fun v => K v h) fun v112 h =>
  B.gd h v107 true (fun K => E.ld h v112 fun v => K v h) fun v113 h =>
  B.gd h v107 true (fun K => K v0 h) fun v114 h =>
  B.gd h v107 true (fun K => K v1 h) fun v115 h =>
  B.gd h v107 true (fun K => B.pv (V.idxS E.es v114 v115) fun v => K v h) fun v116 h =>
  B.gd h v107 true (fun K => E.ld h v116 fun v => K v h) fun v117 h =>
  B.gd h v107 true (fun K => B.call C0 fL [v113, v117] h K) fun v119 h =>
  B.pick v107 v119 (.bool false) fun v120 =>
  B.cond v120
  (B.pv (V.bin .add v12 (.int .i64 1)) fun v122 =>
  Y3 [v122] h)
  (LoopR (slices_partitionT.l4 C E C0 fL Q Y1 v0 v1 v4 v12) [v13] h)
@[simp] def slices_partitionT.l6 (C : CSem) (E : ElOps) (C0 : CSem) (fL : Nat) (Q : AVal → AHeap → Prop) (Y1 : List AVal → AHeap → Prop) (v0 v1 v4 v13 : AVal) : List AVal → AHeap → (List AVal → AHeap → Prop) → Prop
 | [v12], h, Y3 => slices_partitionT.k5 C E C0 fL Q Y1 Y3 v0 v1 v4 v12 v13 h
 | _, _, _ => False
@[simp] def slices_partitionT.l7 (C : CSem) (E : ElOps) (C0 : CSem) (fL : Nat) (Q : AVal → AHeap → Prop) (v0 v1 v4 : AVal) : List AVal → AHeap → (List AVal → AHeap → Prop) → Prop
 | [v12, v13], h, Y1 => LoopR (slices_partitionT.l6 C E C0 fL Q Y1 v0 v1 v4 v13) [v12] h
 | _, _, _ => False
@[simp] def slices_partitionT.k8 (C : CSem) (E : ElOps) (C0 : CSem) (fL : Nat) (Q : AVal → AHeap → Prop) (v0 v1 v4 v12 v13 : AVal) (h : AHeap) : Prop :=
 B.pv (V.bin .add v12 (.int .i64 1)) fun v102 =>
  B.pv (V.bin .sub v13 (.int .i64 1)) fun v104 =>
  LoopR (slices_partitionT.l7 C E C0 fL Q v0 v1 v4) [v102, v104] h
@[simp] def slices_partitionT.k9 (C : CSem) (E : ElOps) (C0 : CSem) (fL : Nat) (Q : AVal → AHeap → Prop) (v0 v1 v4 v12 v13 : AVal) (h : AHeap) : Prop :=
 B.pv (V.idxS E.es v0 v13) fun v93 =>
  E.ld h v93 fun v94 =>
  B.pv (V.idxS E.es v0 v12) fun v97 =>
  E.ld h v97 fun v98 =>
  B.pv (V.idxS E.es v0 v12) fun v99 =>
  E.st h v99 v94 fun h =>
  B.pv (V.idxS E.es v0 v13) fun v100 =>
  E.st h v100 v98 fun h =>
  slices_partitionT.k8 C E C0 fL Q v0 v1 v4 v12 v13 h
@[simp] def slices_partitionT.k10 (C : CSem) (E : ElOps) (C0 : CSem) (fL : Nat) (Q : AVal → AHeap → Prop) (v0 v1 v4 v12 v13 : AVal) (h : AHeap) : Prop :=
 B.pv (V.bin .gtr v12 v13) fun v71 =>
  B.cond v71
  (B.pv (V.idxS E.es v0 v1) fun v78 =>
  E.ld h v78 fun v79 =>
  B.pv (V.idxS E.es v0 v13) fun v82 =>
  E.ld h v82 fun v83 =>
  B.pv (V.idxS E.es v0 v13) fun v84 =>
  E.st h v84 v79 fun h =>
  B.pv (V.idxS E.es v0 v1) fun v85 =>
  E.st h v85 v83 fun h =>
  Q (.tup [v13, (.bool true)]) h)
  (slices_partitionT.k9 C E C0 fL Q v0 v1 v4 v12 v13 h)
@[simp] def slices_partitionT.k11 (C : CSem) (E : ElOps) (C0 : CSem) (fL : Nat) (Q : AVal → AHeap → Prop) (Y4 : List AVal → AHeap → Prop) (v0 v1 v4 v12 v13 : AVal) (h : AHeap) : Prop :=
 B.pv (V.bin .leq v12 v13) fun v52 =>
  B.gd h v52 true (fun K => K v0 h) fun v55 h =>
  B.gd h v52 true (fun K => K v13 h) fun v56 h =>
  B.gd h v52 true (fun K => B.pv (V.idxS E.es v55 v56) fun v => K v h) fun v57 h =>
  B.gd h v52 true (fun K => E.ld h v57 fun v => K v h) fun v58 h =>
  B.gd h v52 true (fun K => K v0 h) fun v59 h =>
  B.gd h v52 true (fun K => K v1 h) fun v60 h =>
  B.gd h v52 true (fun K => B.pv (V.idxS E.es v59 v60) fun v => K v h) fun v61 h =>
  B.gd h v52 true (fun K => E.ld h v61 fun v => K v h) fun v62 h =>
  B.gd h v52 true (fun K => B.call C0 fL [v58, v62] h K) fun v64 h =>
  B.gd h v52 true (fun K => B.pv (V.un .not v64) fun v => K v h) fun v65 h =>
  B.pick v52 v65 (.bool false) fun v66 =>
  B.cond v66
  (B.pv (V.bin .sub v13 (.int .i64 1)) fun v68 =>
  Y4 [v68] h)
  (slices_partitionT.k10 C E C0 fL Q v0 v1 v4 v12 v13 h)
@[simp] def slices_partitionT.l12 (C : CSem) (E : ElOps) (C0 : CSem) (fL : Nat) (Q : AVal → AHeap → Prop) (v0 v1 v4 v12 : AVal) : List AVal → AHeap → (List AVal → AHeap → Prop) → Prop
 | [v13], h, Y4 => slices_partitionT.k11 C E C0 fL Q Y4 v0 v1 v4 v12 v13 h
 | _, _, _ => False
@[simp] def slices_partitionT.k13 (C : CSem) (E : ElOps) (C0 : CSem) (fL : Nat) (Q : AVal → AHeap → Prop) (Y5 : List AVal → AHeap → Prop) (v0 v1 v4 v12 v13 : AVal) (h : AHeap) : Prop :=
 B.pv (V.bin .leq v12 v13) fun v34 =>
  B.gd h v34 true (fun K => K v0 h) fun v37 h =>
  B.gd h v34 true (fun K => K v12 h) fun v38 h =>
  B.gd h v34 true (fun K => B.pv (V.idxS E.es v37 v38) fun v => K v h) fun v39 h =>
  B.gd h v34 true (fun K => E.ld h v39 fun v => K v h) fun v40 h =>
  B.gd h v34 true (fun K => K v0 h) fun v41 h =>
  B.gd h v34 true (fun K => K v1 h) fun v42 h =>
  B.gd h v34 true (fun K => B.pv (V.idxS E.es v41 v42) fun v => K v h) fun v43 h =>
  B.gd h v34 true (fun K => E.ld h v43 fun v => K v h) fun v44 h =>
  B.gd h v34 true (fun K => B.call C0 fL [v40, v44] h K) fun v46 h =>
  B.pick v34 v46 (.bool false) fun v47 =>
  B.cond v47
  (B.pv (V.bin .add v12 (.int .i64 1)) fun v49 =>
  Y5 [v49] h)
  (LoopR (slices_partitionT.l12 C E C0 fL Q v0 v1 v4 v12) [v13] h)
@[simp] def slices_partitionT.l14 (C : CSem) (E : ElOps) (C0 : CSem) (fL : Nat) (Q : AVal → AHeap → Prop) (v0 v1 v4 v13 : AVal) : List AVal → AHeap → (List AVal → AHeap → Prop) → Prop
 | [v12], h, Y5 => slices_partitionT.k13 C E C0 fL Q Y5 v0 v1 v4 v12 v13 h
 | _, _, _ => False
@[simp] def slices_partitionT.k15 (C : CSem) (E : ElOps) (C0 : CSem) (fL : Nat) (Q : AVal → AHeap → Prop) (v0 v1 v2 v4 : AVal) (h : AHeap) : Prop :=
 B.pv (V.bin .add v1 (.int .i64 1)) fun v29 =>
  B.pv (V.bin .sub v2 (.int .i64 1)) fun v31 =>
  LoopR (slices_partitionT.l14 C E C0 fL Q v0 v1 v4 v31) [v29] h
@[simp] def slices_partitionT.k16 (C : CSem) (E : ElOps) (C0 : CSem) (fL : Nat) (Q : AVal → AHeap → Prop) (v0 v1 v2 v3 v4 : AVal) (h : AHeap) : Prop :=
 B.pv (V.idxS E.es v0 v3) fun v20 =>
  E.ld h v20 fun v21 =>
  B.pv (V.idxS E.es v0 v1) fun v24 =>
  E.ld h v24 fun v25 =>
  B.pv (V.idxS E.es v0 v1) fun v26 =>
  E.st h v26 v21 fun h =>
  B.pv (V.idxS E.es v0 v3) fun v27 =>
  E.st h v27 v25 fun h =>
  slices_partitionT.k15 C E C0 fL Q v0 v1 v2 v4 h
@[simp] def slices_partitionT.cps (C : CSem) (E : ElOps) (C0 : CSem) (fL : Nat) (v0 v1 v2 v3 v4 : AVal) (h : AHeap) (Q : AVal → AHeap → Prop) : Prop :=
 slices_partitionT.k16 C E C0 fL Q v0 v1 v2 v3 v4 h
@[simp] def slices_siftDownT.k1 (C : CSem) (E : ElOps) (C0 : CSem) (fL : Nat) (Q : AVal → AHeap → Prop) (Y1 : List AVal → AHeap → Prop) (v0 v2 v3 v4 v10 v11 : AVal) (h : AHeap) : Prop :=
 B.pv (V.bin .add v3 v10) fun v47 =>
  B.pv (V.idxS E.es v0 v47) fun v48 =>
  E.ld h v48 fun v49 =>
  B.pv (V.bin .add v3 v11) fun v53 =>
  B.pv (V.idxS E.es v0 v53) fun v54 =>
  E.ld h v54 fun v55 =>
  B.call C0 fL [v49, v55] h fun v57 h =>
  B.pv (V.un .not v57) fun v58 =>
  B.cond v58
  (Q (.tup []) h)
  (B.pv (V.bin .add v3 v10) fun v62 =>
  B.pv (V.bin .add v3 v11) fun v66 =>
  B.pv (V.bin .add v3 v11) fun v70 =>
  B.pv (V.idxS E.es v0 v70) fun v71 =>
  E.ld h v71 fun v72 =>
  B.pv (V.bin .add v3 v10) fun v76 =>
  B.pv (V.idxS E.es v0 v76) fun v77 =>
  E.ld h v77 fun v78 =>
  B.pv (V.idxS E.es v0 v62) fun v79 =>
  E.st h v79 v72 fun h =>
  B.pv (V.idxS E.es v0 v66) fun v80 =>
  E.st h v80 v78 fun h =>
  Y1 [v11] h)
@[simp] def slices_siftDownT.k2 (C : CSem) (E : ElOps) (C0 : CSem) (fL : Nat) (Q : AVal → AHeap → Prop) (Y1 : List AVal → AHeap → Prop) (v0 v2 v3 v4 v10 v11 : AVal) (h : AHeap) : Prop :=
 B.pv (V.bin .add v11 (.int .i64 1)) fun v20 =>
  B.pv (V.bin .lss v20 v2) fun v22 =>
  B.gd h v22 true (fun K => K v0 h) fun v25 h =>
  B.gd h v22 true (fun K => K v3 h) fun v26 h =>
  B.gd h v22 true (fun K => K v11 h) fun v27 h =>
  B.gd h v22 true (fun K => B.pv (V.bin .add v26 v27) fun v => K v h) fun v28 h =>
  B.gd h v22 true (fun K => B.pv (V.idxS E.es v25 v28) fun v => K v h) fun v29 h =>
  B.gd h v22 true (fun K => E.ld h v29 fun v => K v h) fun v30 h =>
  B.gd h v22 true (fun K => K v0 h) fun v31 h =>
  B.gd h v22 true (fun K => K v3 h) fun v32 h =>
  B.gd h v22 true (fun K => K v11 h) fun v33 h =>
  B.gd h v22 true (fun K => B.pv (V.bin .add v32 v33) fun v => K v h) fun v34 h =>
  B.gd h v22 true (fun K => B.pv (V.bin .add v34 (.int .i64 1)) fun v => K v h) fun v35 h =>
  B.gd h v22 true (fun K => B.pv (V.idxS E.es v31 v35) fun v => K v h) fun v36 h =>
  B.gd h v22 true (fun K => E.ld h v36 fun v => K v h) fun v37 h =>
  B.gd h v22 true (fun K => B.call C0 fL [v30, v37] h K) fun v39 h =>
  B.pick v22 v39 (.bool false) fun v40 =>
  B.cond v40
  (B.pv (V.bin .add v11 (.int .i64 1)) fun v42 =>
  slices_siftDownT.k1 C E C0 fL Q Y1 v0 v2 v3 v4 v10 v42 h)
  (slices_siftDownT.k1 C E C0 fL Q Y1 v0 v2 v3 v4 v10 v11 h)
@[simp] def slices_siftDownT.k3 (C : CSem) (E : ElOps) (C0 : CSem) (fL : Nat) (Q : AVal → AHeap → Prop) (Y1 : List AVal → AHeap → Prop) (v0 v2 v3 v4 v10 : AVal) (h : AHeap) : Prop :=
 B.pv (V.bin .mul (.int .i64 2) v10) fun v14 =>
  B.pv (V.bin .add v14 (.int .i64 1)) fun v15 =>
  B.pv (V.bin .geq v15 v2) fun v18 =>
  B.cond v18
  (Q (.tup []) h)
  (slices_siftDownT.k2 C E C0 fL Q Y1 v0 v2 v3 v4 v10 v15 h)
@[simp] def slices_siftDownT.l4 (C : CSem) (E : ElOps) (C0 : CSem) (fL : Nat) (Q : AVal → AHeap → Prop) (v0 v2 v3 v4 : AVal) : List AVal → AHeap → (List AVal → AHeap → Prop) → Prop
 | [v10], h, Y1 => slices_siftDownT.k3 C E C0 fL Q Y1 v0 v2 v3 v4 v10 h
 | _, _, _ => False
@[simp] def slices_siftDownT.cps (C : CSem) (E : ElOps) (C0 : CSem) (fL : Nat) (v0 v1 v2 v3 v4 : AVal) (h : AHeap) (Q : AVal → AHeap → Prop) : Prop :=
 LoopR (slices_siftDownT.l4 C E C0 fL Q v0 v2 v3 v4) [v1] h
@[simp] def slices_medianAdjacentT.k1 (C : CSem) (E : ElOps) (C0 : CSem) (fL : Nat) (f1 : Nat) (Q : AVal → AHeap → Prop) (v0 v1 v2 v3 : AVal) (h : AHeap) : Prop :=
 B.pv (V.bin .sub v1 (.int .i64 1)) fun v11 =>
  B.pv (V.bin .add v1 (.int .i64 1)) fun v14 =>
  B.call C f1 [v0, v11, v1, v14, v2, v3] h fun v17 h =>
  Q v17 h
@[simp] def slices_medianAdjacentT.cps (C : CSem) (E : ElOps) (C0 : CSem) (fL : Nat) (f1 : Nat) (v0 v1 v2 v3 : AVal) (h : AHeap) (Q : AVal → AHeap → Prop) : Prop :=
 slices_medianAdjacentT.k1 C E C0 fL f1 Q v0 v1 v2 v3 h
@[simp] def slices_medianT.k1 (C : CSem) (E : ElOps) (C0 : CSem) (fL : Nat) (f1 : Nat) (Q : AVal → AHeap → Prop) (v0 v1 v2 v3 v4 v5 : AVal) (h : AHeap) : Prop :=
 B.call C f1 [v0, v1, v2, v4, v5] h fun v19 h =>
  B.pv (V.ext 0 v19) fun v20 =>
  B.pv (V.ext 1 v19) fun v21 =>
  B.call C f1 [v0, v21, v3, v4, v5] h fun v28 h =>
  B.pv (V.ext 0 v28) fun v29 =>
  B.pv (V.ext 1 v28) fun v30 =>
  B.call C f1 [v0, v20, v29, v4, v5] h fun v37 h =>
  B.pv (V.ext 0 v37) fun v38 =>
  B.pv (V.ext 1 v37) fun v39 =>
  Q v39 h
@[simp] def slices_medianT.cps (C : CSem) (E : ElOps) (C0 : CSem) (fL : Nat) (f1 : Nat) (v0 v1 v2 v3 v4 v5 : AVal) (h : AHeap) (Q : AVal → AHeap → Prop) : Prop :=
 slices_medianT.k1 C E C0 fL f1 Q v0 v1 v2 v3 v4 v5 h
@[simp] def slices_order2T.k1 (C : CSem) (E : ElOps) (C0 : CSem) (fL : Nat) (Q : AVal → AHeap → Prop) (v0 v1 v2 v3 v4 : AVal) (h : AHeap) : Prop :=
 B.pv (V.idxS E.es v0 v2) fun v15 =>
  E.ld h v15 fun v16 =>
  B.pv (V.idxS E.es v0 v1) fun v19 =>
  E.ld h v19 fun v20 =>
  B.call C0 fL [v16, v20] h fun v22 h =>
  B.cond v22
  (B.nilCheck v3 fun v24 =>
  B.ld h v24 fun v25 =>
  B.pv (V.bin .add v25 (.int .i64 1)) fun v26 =>
  B.nilCheck v3 fun v27 =>
  B.st h v27 v26 fun h =>
  Q (.tup [v2, v1]) h)
  (Q (.tup [v1, v2]) h)
@[simp] def slices_order2T.cps (C : CSem) (E : ElOps) (C0 : CSem) (fL : Nat) (v0 v1 v2 v3 v4 : AVal) (h : AHeap) (Q : AVal → AHeap → Prop) : Prop :=
 slices_order2T.k1 C E C0 fL Q v0 v1 v2 v3 v4 h
end Go.Ab
namespace Go.Ab
variable {C : CSem}
structure PInv {X : Type} (c : X → X → Int) (a b : Nat) (G : List X) (i j : Nat) : Prop where
 hb : b ≤ G.length
 hi : a < i
 hj : j < b
 hij : i ≤ j + 1
 lo : ∀ k (h : k < G.length) (ha : a < G.length), a < k → k < i → c G[k] G[a] < 0
 hi2 : ∀ k (h : k < G.length) (ha : a < G.length), j < k → k < b → ¬ c G[k] G[a] < 0
structure Parted {X : Type} (c : X → X → Int) (a b m : Nat) (G : List X) : Prop where
 ge : a ≤ m
 lt : m < b
 hb : b ≤ G.length
 lo : ∀ k (h : k < G.length) (hm : m < G.length), a ≤ k → k < m → c G[k] G[m] < 0
 hi : ∀ k (h : k < G.length) (hm : m < G.length), m < k → k < b → ¬ c G[k] G[m] < 0
section
variable {E : ElOps} {X : Type} {cs : X → List AVal} {v : X → AVal} {h0 h : AHeap} {x f : AVal} {G : List X} {R : List (List AVal)} {c : X → X → Int} {Q : AVal → AHeap → Prop} {Y1 : List AVal → AHeap → Prop} {a b i j : Nat}
theorem swp_at {X : Type} {G : List X} {i j : Nat} (hi : i < G.length) (hj : j < G.length) {k : Nat} (hk : k < (swp G i j hi hj).length) (hk' : k < G.length) : (swp G i j hi hj)[k] = if k = j then G[i] else if k = i then G[j] else G[k] := by
 have := swp_get hi hj k
 rw [List.getElem?_eq_getElem hk] at this
 split at this
 ·rename_i e; rw [if_pos e]; exact Option.some.inj this
 ·rename_i e; rw [if_neg e]
  split at this
  ·rename_i e2; rw [if_pos e2]; exact Option.some.inj this
  ·rename_i e2; rw [if_neg e2, List.getElem?_eq_getElem hk'] at *; exact Option.some.inj this
theorem swp_len {X : Type} {G : List X} {i j : Nat} (hi : i < G.length) (hj : j < G.length) : (swp G i j hi hj).length = G.length := by simp [swp]
theorem PInv.done (p : PInv c a b G i j) (hab : a < b) (hc : j < i) (hj : j < G.length) (ha : a < G.length) : Parted c a b j (swp G j a hj ha) := by
 have h1 := p.hi; have h2 := p.hij; have h3 := p.hj; have h4 := p.hb
 have hl := swp_len hj ha
 have pj : ∀ (hm : j < (swp G j a hj ha).length), (swp G j a hj ha)[j] = G[a] := fun hm => by
  rw [swp_at hj ha hm hj]
  by_cases e : j = a
  ·subst e; simp
  ·rw [if_neg e, if_pos rfl]
 refine ⟨by omega, h3, by omega, fun k hk hm k1 k2 => ?_, fun k hk hm k1 k2 => ?_⟩
 ·rw [pj, swp_at hj ha hk (by omega)]
  by_cases e : k = a
  ·rw [if_pos e]; exact p.lo j hj ha (by omega) (by omega)
  ·rw [if_neg e, if_neg (by omega)]; exact p.lo k (by omega) ha (by omega) (by omega)
 ·rw [pj, swp_at hj ha hk (by omega), if_neg (by omega), if_neg (by omega)]
  exact p.hi2 k (by omega) ha k1 k2
theorem PInv.swap (p : PInv c a b G i j) (hc : i ≤ j) (hi : i < G.length) (hj : j < G.length) (ha : a < G.length) (h1 : ¬ c G[i] G[a] < 0) (h2 : c G[j] G[a] < 0) : PInv c a b (swp G i j hi hj) (i + 1) (j - 1) := by
 have k1 := p.hi; have k2 := p.hij; have k3 := p.hj; have k4 := p.hb
 have hne : i ≠ j := fun e => by subst e; exact h1 h2
 have hl := swp_len hi hj
 have pa : ∀ (hm : a < (swp G i j hi hj).length), (swp G i j hi hj)[a] = G[a] := fun hm => by rw [swp_at hi hj hm ha, if_neg (by omega), if_neg (by omega)]
 refine ⟨by omega, by omega, by omega, by omega, fun k hk hm q1 q2 => ?_, fun k hk hm q1 q2 => ?_⟩
 ·rw [pa, swp_at hi hj hk (by omega), if_neg (by omega)]
  by_cases e : k = i
  ·rw [if_pos e]; exact h2
  ·rw [if_neg e]; exact p.lo k (by omega) ha q1 (by omega)
 ·rw [pa, swp_at hi hj hk (by omega)]
  by_cases e : k = j
  ·rw [if_pos e]; exact h1
  ·rw [if_neg e, if_neg (by omega)]; exact p.hi2 k (by omega) ha (by omega) q2
end
end Go.Ab
namespace Go.Ab
variable {C : CSem}
section
variable {E : ElOps} {X : Type} {cs : X → List AVal} {v : X → AVal} {h0 h : AHeap} {x f : AVal} {G : List X} {R : List (List AVal)} {c : X → X → Int} {Q : AVal → AHeap → Prop} {a b i j : Nat}
abbrev PartQ (E : ElOps) {X : Type} (cs : X → List AVal) (h0 : AHeap) (x : AVal) (c : X → X → Int) (a b : Nat) (R : List (List AVal)) (G : List X) (Q : AVal → AHeap → Prop) : Prop := ∀ h' m G' t, Parted c a b m G' → Within a b G G' → Rw E cs h0 h' x G' R → Q (.tup [.int .i64 (m : Int), .bool t]) h'
end
end Go.Ab
namespace Go.Ab
variable {C : CSem}
structure EInv {X : Type} (c : X → X → Int) (a b : Nat) (G : List X) (i j : Nat) : Prop where
 hb : b ≤ G.length
 hi : a < i
 hj : j < b
 hij : i ≤ j + 1
 lo : ∀ k (h : k < G.length) (ha : a < G.length), a < k → k < i → ¬ c G[a] G[k] < 0
 hi2 : ∀ k (h : k < G.length) (ha : a < G.length), j < k → k < b → c G[a] G[k] < 0
theorem EInv.swap {X : Type} {c : X → X → Int} {a b i j : Nat} {G : List X} (p : EInv c a b G i j) (hc : i ≤ j) (hi : i < G.length) (hj : j < G.length) (ha : a < G.length) (h1 : c G[a] G[i] < 0) (h2 : ¬ c G[a] G[j] < 0) : EInv c a b (swp G i j hi hj) (i + 1) (j - 1) := by
 have k1 := p.hi; have k2 := p.hij; have k3 := p.hj; have k4 := p.hb
 have hne : i ≠ j := fun e => by subst e; exact h2 h1
 have hl := swp_len hi hj
 have pa : ∀ (hm : a < (swp G i j hi hj).length), (swp G i j hi hj)[a] = G[a] := fun hm => by rw [swp_at hi hj hm ha, if_neg (by omega), if_neg (by omega)]
 refine ⟨by omega, by omega, by omega, by omega, fun k hk hm q1 q2 => ?_, fun k hk hm q1 q2 => ?_⟩
 ·rw [pa, swp_at hi hj hk (by omega), if_neg (by omega)]
  by_cases e : k = i
  ·rw [if_pos e]; exact h2
  ·rw [if_neg e]; exact p.lo k (by omega) ha q1 (by omega)
 ·rw [pa, swp_at hi hj hk (by omega)]
  by_cases e : k = j
  ·rw [if_pos e]; exact h1
  ·rw [if_neg e, if_neg (by omega)]; exact p.hi2 k (by omega) ha (by omega) q2
section
variable {E : ElOps} {X : Type} {cs : X → List AVal} {v : X → AVal} {h0 h : AHeap} {x f : AVal} {G : List X} {R : List (List AVal)} {c : X → X → Int} {Q : AVal → AHeap → Prop} {Y1 : List AVal → AHeap → Prop} {a b i j : Nat}
end
end Go.Ab
namespace Go.Ab
structure SInv {X : Type} (c : X → X → Int) (a n lo r : Nat) (G : List X) : Prop where
 len : a + n ≤ G.length
 heap : ∀ k, 0 < k → (hk : k < n) → lo ≤ (k - 1) / 2 → (k - 1) / 2 ≠ r → (h1 : a + (k - 1) / 2 < G.length) → (h2 : a + k < G.length) → ¬ c G[a + (k - 1) / 2] G[a + k] < 0
 grand : lo ≤ (r - 1) / 2 → 0 < r → ∀ k, 0 < k → (hk : k < n) → (k - 1) / 2 = r → (h1 : a + (r - 1) / 2 < G.length) → (h2 : a + k < G.length) → ¬ c G[a + (r - 1) / 2] G[a + k] < 0
def Heap {X : Type} (c : X → X → Int) (a n lo : Nat) (G : List X) : Prop := ∀ k, 0 < k → (hk : k < n) → lo ≤ (k - 1) / 2 → (h1 : a + (k - 1) / 2 < G.length) → (h2 : a + k < G.length) → ¬ c G[a + (k - 1) / 2] G[a + k] < 0
section
variable {X : Type} {c : X → X → Int} {a n lo r ch : Nat} {G : List X}
theorem SInv.done (p : SInv c a n lo r G) (hr : ∀ k, 0 < k → k < n → (k - 1) / 2 = r → (h1 : a + r < G.length) → (h2 : a + k < G.length) → ¬ c G[a + r] G[a + k] < 0) : Heap c a n lo G := fun k h0 hk hl h1 h2 => by
 by_cases e : (k - 1) / 2 = r
 ·have := hr k h0 hk e (by rw [← e]; exact h1) h2
  simp only [e]; exact this
 ·exact p.heap k h0 hk hl e h1 h2
theorem SInv.step (W : Weak (lessC c)) (p : SInv c a n lo r G) (hlo : lo ≤ r) (hch : ch < n) (hp : (ch - 1) / 2 = r) (h0 : 0 < ch) (hr : a + r < G.length) (hc : a + ch < G.length) (hlt : c G[a + r] G[a + ch] < 0)
  (hmax : ∀ k, 0 < k → k < n → (k - 1) / 2 = r → (h2 : a + k < G.length) → ¬ c G[a + ch] G[a + k] < 0) : SInv c a n lo ch (swp G (a + r) (a + ch) hr hc) := by
 have hl := swp_len hr hc
 have hrc : r < ch := by omega
 have asym : ¬ c G[a + ch] G[a + r] < 0 := by
  have := W.asym (a := G[a + r]) (b := G[a + ch]) (by unfold lessC; exact decide_eq_true hlt)
  unfold lessC at this; exact of_decide_eq_false this
 refine ⟨by rw [hl]; exact p.len, fun k k0 hk hlk hne h1 h2 => ?_, fun _ _ k k0 hk hkp h1 h2 => ?_⟩
 ·have g1 : a + (k - 1) / 2 < G.length := by omega
  have g2 : a + k < G.length := by omega
  rw [swp_at hr hc h1 g1, swp_at hr hc h2 g2, if_neg (by omega : ¬ a + (k - 1) / 2 = a + ch)]
  by_cases e1 : (k - 1) / 2 = r
  ·rw [if_pos (by omega)]
   by_cases e2 : k = ch
   ·rw [if_pos (by omega)]; exact asym
   ·rw [if_neg (by omega), if_neg (by omega)]; exact hmax k k0 hk e1 g2
  ·rw [if_neg (by omega)]
   by_cases e2 : k = r
   ·rw [if_neg (by omega), if_pos (by omega)]
    subst e2
    exact p.grand hlk k0 ch h0 hch hp g1 hc
   ·rw [if_neg (by omega), if_neg (by omega)]; exact p.heap k k0 hk hlk e1 g1 g2
 ·have g1 : a + (ch - 1) / 2 < G.length := by omega
  have g2 : a + k < G.length := by omega
  rw [swp_at hr hc h1 g1, swp_at hr hc h2 g2, if_neg (by omega), if_pos (by omega), if_neg (by omega), if_neg (by omega)]
  have := p.heap k k0 hk (by omega) (by omega) (by omega) g2
  simp only [hkp] at this
  exact this
end
end Go.Ab
namespace Go.Ab
section
variable {X : Type} {c : X → X → Int} {a b n lo : Nat} {G G' : List X}
theorem Heap.sinv {X : Type} {c : X → X → Int} {a n lo : Nat} {G : List X} (p : Heap c a n (lo + 1) G) (hl : a + n ≤ G.length) : SInv c a n lo lo G :=
 ⟨hl, fun k k0 hk h1 hne h2 h3 => p k k0 hk (by omega) h2 h3, fun h1 h0 => by omega⟩
theorem Heap.none_ {X : Type} {c : X → X → Int} {a n lo : Nat} {G : List X} (h : n ≤ 2 * lo + 1) : Heap c a n lo G := fun k k0 hk h1 _ _ => by omega
theorem Heap.root (W : Weak (lessC c)) (p : Heap c a n 0 G) (hl : a + n ≤ G.length) : ∀ (k : Nat) (hk : k < n), ¬ c (G[a]'(by omega)) (G[a + k]'(by omega)) < 0 := by
 intro k
 induction k using Nat.strongRecOn with
 | ind k ih =>
  intro hk
  by_cases e : k = 0
  ·subst e
   have := W.irr (G[a]'(by omega)); unfold lessC at this; simpa using this
  ·have h1 := ih ((k - 1) / 2) (by omega) (by omega)
   have h2 := p k (by omega) hk (by omega) (by omega) (by omega)
   have := W.ntrans (a := G[a]'(by omega)) (b := G[a + (k - 1) / 2]'(by omega)) (c := G[a + k]'(by omega)) (by unfold lessC; exact decide_eq_false h1) (by unfold lessC; exact decide_eq_false h2)
   unfold lessC at this; exact of_decide_eq_false this
theorem Within.take (w : Within a b G G') : G'.take a = G.take a := List.ext_getElem? fun i => by
 rw [List.getElem?_take, List.getElem?_take]
 split
 ·rename_i h; exact w.out i (.inl h)
 ·rfl
theorem Within.drop (w : Within a b G G') : G'.drop b = G.drop b := List.ext_getElem? fun i => by
 rw [List.getElem?_drop, List.getElem?_drop]; exact w.out (b + i) (.inr (by omega))
theorem split3 (hab : a ≤ b) (G : List X) : G = G.take a ++ ((G.take b).drop a ++ G.drop b) := by
 have h1 : G.take a = (G.take b).take a := by rw [List.take_take, Nat.min_eq_left hab]
 rw [h1, ← List.append_assoc, List.take_append_drop, List.take_append_drop]
theorem Within.mid (w : Within a b G G') (hab : a ≤ b) : ((G'.take b).drop a).Perm ((G.take b).drop a) := by
 have h := w.perm
 rw [split3 hab G, split3 hab G', w.take, w.drop] at h
 exact (List.perm_append_right_iff _).1 ((List.perm_append_left_iff _).1 h)
theorem Within.mem (w : Within a b G G') {k : Nat} (h1 : a ≤ k) (h2 : k < b) (hk : k < G'.length) : ∃ k', a ≤ k' ∧ k' < b ∧ ∃ h' : k' < G.length, G'[k] = G[k'] := by
 have hm : G'[k] ∈ (G'.take b).drop a := by
  rw [List.mem_iff_getElem?]
  refine ⟨k - a, ?_⟩
  rw [List.getElem?_drop, List.getElem?_take, if_pos (by omega), Nat.add_sub_cancel' h1, List.getElem?_eq_getElem hk]
 have := (w.mid (by omega)).mem_iff.1 hm
 rw [List.mem_iff_getElem?] at this
 obtain ⟨i, hi⟩ := this
 rw [List.getElem?_drop, List.getElem?_take] at hi
 split at hi
 ·rename_i hlt
  obtain ⟨hb, e⟩ := List.getElem?_eq_some_iff.1 hi
  exact ⟨a + i, by omega, hlt, hb, e.symm⟩
 ·cases hi
def Cut {X : Type} (c : X → X → Int) (A B a b : Nat) (G : List X) : Prop := ∀ p q, A ≤ p → p < q → q < B → p < a ∨ b ≤ q → ∀ (h1 : p < G.length) (h2 : q < G.length), ¬ c G[q] G[p] < 0
def Srt {X : Type} (c : X → X → Int) (A B : Nat) (G : List X) : Prop := ∀ p q, A ≤ p → p < q → q < B → ∀ (h1 : p < G.length) (h2 : q < G.length), ¬ c G[q] G[p] < 0
theorem Cut.within {A B : Nat} (x : Cut c A B a b G) (w : Within a b G G') (ha : A ≤ a) (hb : b ≤ B) : Cut c A B a b G' := fun p q hp hpq hq h h1 h2 => by
 have hl := w.len
 rcases h with h | h
 ·rw [w.same (.inl h) h1 (by omega)]
  by_cases hq2 : a ≤ q ∧ q < b
  ·obtain ⟨q', h3, h4, h5, e⟩ := w.mem hq2.1 hq2.2 h2
   rw [e]; exact x p q' hp (by omega) (by omega) (.inl h) (by omega) h5
  ·rw [w.same (by omega) h2 (by omega)]; exact x p q hp hpq hq (.inl h) _ _
 ·rw [w.same (k := q) (.inr h) h2 (by omega)]
  by_cases hp2 : a ≤ p ∧ p < b
  ·obtain ⟨p', h3, h4, h5, e⟩ := w.mem hp2.1 hp2.2 h1
   rw [e]; exact x p' q (by omega) (by omega) hq (.inr h) h5 (by omega)
  ·rw [w.same (k := p) (by omega) h1 (by omega)]; exact x p q hp hpq hq (.inr h) _ _
theorem Cut.join {A B : Nat} (x : Cut c A B a b G) (s : Srt c a b G) : Srt c A B G := fun p q hp hpq hq h1 h2 => by
 by_cases h : p < a ∨ b ≤ q
 ·exact x p q hp hpq hq h h1 h2
 ·exact s p q (by omega) hpq (by omega) h1 h2
theorem Cut.small {A B : Nat} (x : Cut c A B a b G) (s : b ≤ a + 1) : Srt c A B G := x.join fun p q _ _ _ _ _ => by omega
theorem within_mid {M : List X} (hab : a ≤ b) (hb : b ≤ G.length) (hp : M.Perm ((G.take b).drop a)) : Within a b G (G.take a ++ (M ++ G.drop b)) := by
 have hl := hp.length_eq
 simp only [List.length_drop, List.length_take] at hl
 refine ⟨?_, fun i hi => ?_⟩
 ·have := (hp.append_right (G.drop b)).append_left (G.take a)
  rw [← split3 hab G] at this; exact this
 ·rcases hi with hi | hi
  ·rw [List.getElem?_append_left (by rw [List.length_take]; omega), List.getElem?_take, if_pos hi]
  ·rw [List.getElem?_append_right (by rw [List.length_take]; omega), List.getElem?_append_right (by rw [List.length_take]; omega), List.getElem?_drop, List.length_take]
   congr 1; omega
theorem srt_mid {M : List X} (hab : a ≤ b) (hb : b ≤ G.length) (hl : M.length = b - a) (hp : M.Pairwise fun x y => ¬ c y x < 0) : Srt c a b (G.take a ++ (M ++ G.drop b)) := fun p q hp1 hpq hq h1 h2 => by
 have e : ∀ k (h1 : a ≤ k) (h2 : k < b) (hk : k < (G.take a ++ (M ++ G.drop b)).length), (G.take a ++ (M ++ G.drop b))[k] = M[k - a]'(by omega) := fun k h1 h2 hk => by
  rw [List.getElem_append_right (by rw [List.length_take]; omega), List.getElem_append_left (by rw [List.length_take]; omega)]
  congr 1; rw [List.length_take]; omega
 rw [e p hp1 (by omega), e q (by omega) hq]
 exact List.pairwise_iff_getElem.1 hp _ _ _ _ (by omega)
end
variable {C : CSem}
section
variable {E : ElOps} {X : Type} {cs : X → List AVal} {v : X → AVal} {h0 h : AHeap} {x f : AVal} {G : List X} {R : List (List AVal)} {c : X → X → Int} {Q : AVal → AHeap → Prop} {a b : Nat}
end
end Go.Ab
namespace Go.Ab
variable {C : CSem}
def Pre {X : Type} (c : X → X → Int) (a b : Nat) (G : List X) : Prop := 0 < a → ∀ i, a ≤ i → i < b → ∀ (h1 : i < G.length) (h2 : a - 1 < G.length), ¬ c G[i] G[a - 1] < 0
theorem Pre.within {X : Type} {c : X → X → Int} {a b : Nat} {G G' : List X} (p : Pre c a b G) (w : Within a b G G') : Pre c a b G' := fun h0 i h1 h2 h3 h4 => by
 have hl := w.len
 obtain ⟨k, k1, k2, k3, e⟩ := w.mem h1 h2 h3
 rw [e, w.same (k := a - 1) (.inl (by omega)) h4 (by omega)]
 exact p h0 k k1 k2 _ _
def But1 {X : Type} (c : X → X → Int) (A B j : Nat) (G : List X) : Prop := ∀ p q, A ≤ p → p < q → q < B → q ≠ j → ∀ (h1 : p < G.length) (h2 : q < G.length), ¬ c G[q] G[p] < 0
section
variable {X : Type} {c : X → X → Int} {A B j : Nat} {G : List X}
theorem But1.done (W : Weak (lessC c)) (x : But1 c A B j G) (hj : j < G.length) (h : j ≤ A ∨ ∀ (h1 : j - 1 < G.length), ¬ c G[j] G[j - 1] < 0) : Srt c A B G := fun p q h1 h2 h3 h4 h5 => by
 by_cases e : q = j
 ·subst e
  have h := h.resolve_left (by omega)
  by_cases e2 : p = q - 1
  ·subst e2; exact h _
  ·have k1 := x p (q - 1) h1 (by omega) (by omega) (by omega) h4 (by omega)
   have := W.ntrans (a := G[q]) (b := G[q - 1]'(by omega)) (c := G[p]) (by unfold lessC; exact decide_eq_false (h _)) (by unfold lessC; exact decide_eq_false k1)
   unfold lessC at this; exact of_decide_eq_false this
 ·exact x p q h1 h2 h3 e h4 h5
theorem But1.step (W : Weak (lessC c)) (x : But1 c A B j G) (hA : A < j) (hj : j < G.length) (hj1 : j - 1 < G.length) (hlt : c G[j] G[j - 1] < 0) : But1 c A B (j - 1) (swp G j (j - 1) hj hj1) := fun p q h1 h2 h3 h4 h5 h6 => by
 have hl := swp_len hj hj1
 rw [swp_at hj hj1 h6 (by omega), if_neg h4, swp_at hj hj1 h5 (by omega)]
 by_cases e : q = j
 ·rw [if_pos e]
  split
  ·have := W.asym (a := G[j]) (b := G[j - 1]) (by unfold lessC; exact decide_eq_true hlt)
   unfold lessC at this; exact of_decide_eq_false this
  ·rw [if_neg (by omega)]; exact x p (j - 1) h1 (by omega) (by omega) (by omega) (by omega) hj1
 ·rw [if_neg e]
  split
  ·exact x j q (by omega) (by omega) h3 e hj (by omega)
  ·split
   ·exact x (j - 1) q (by omega) (by omega) h3 e hj1 (by omega)
   ·exact x p q h1 h2 h3 e (by omega) (by omega)
end
section
variable {E : ElOps} {X : Type} {cs : X → List AVal} {v : X → AVal} {h0 h : AHeap} {x f : AVal} {G : List X} {R : List (List AVal)} {c : X → X → Int} {Q : AVal → AHeap → Prop} {Y1 : List AVal → AHeap → Prop} {a b i s : Nat}
end
end Go.Ab
namespace Go.Ab
variable {C : CSem} {N : Nat → Nat}
def Window.right (w : Window) : Bool := decide (0 ≤ w.From) && decide (w.From ≤ w.Until) && decide (w.Until ≤ 4001)
def Window.zero : Window := ⟨0, 0⟩
end Go.Ab
namespace Go.Ab
@[simp] def tell_Get.k1 (C : CSem) (N : Nat → Nat) (Q : AVal → AHeap → Prop) (v2 v5 c6 : AVal) (h : AHeap) : Prop :=
 B.nilCheck v5 fun v41 =>
  B.pv (V.fieldAddr 2 v41) fun v42 =>
  B.ld h v42 fun v43 =>
  B.gd h v43 false (fun K => B.pv (V.fieldN 0 7 c6) fun v => K v h) fun v45 h =>
  B.gd h v43 false (fun K => B.call C (N 29) [v45] h K) fun v46 h =>
  B.gd h v43 false (fun K => B.pv (V.un .not v46) fun v => K v h) fun v47 h =>
  B.pick v43 (.bool true) v47 fun v48 =>
  B.cond v48
  (B.pv (A.bld [] [.int .i64 0, .int .i64 0, .int .i64 0, .str [], .int .u8 0, .nils, .nils]) fun v49 =>
  B.stn h v2 7 v49 fun h =>
  B.pv (oneOf (joinV (A.ldnv h v2 7) (joinV (some (.int .i64 0)) (joinV (some (.int .i64 4)) (some []))))) fun v => Q v h)
  (B.pv (V.fieldN 0 7 c6) fun v50 =>
  B.nilCheck v5 fun v52 =>
  B.pv (V.fieldAddr 1 v52) fun v53 =>
  B.ld h v53 fun v54 =>
  (fun K => B.stn h v2 7 v50 fun h => K .undef h) (B.keepS h [(v53, none)] (fun _ h => B.pv (oneOf (joinV (A.ldnv h v2 7) (joinV (some v54) (joinV (some (.int .i64 0)) (some []))))) fun v => Q v h)))
end Go.Ab
namespace Go.Ab
@[simp] def ref14_Put.k1 (C : CSem) (N : Nat → Nat) (Q : AVal → AHeap → Prop) (Y1 : List AVal → AHeap → Prop) (v4 v8 c1 : AVal) (h : AHeap) : Prop :=
 B.al c1 (B.pv (V.field1 6 c1) fun v99 =>
  B.pv (V.lenSl v99) fun v100 =>
  B.pv (V.bin .lss v8 v100) fun v101 =>
  B.cond v101
  (B.al c1 (B.pv (V.field1 6 c1) fun v106 =>
  B.pv (V.idxS 3 v106 v8) fun v108 =>
  B.pv (V.fieldAddr 0 v108) fun v109 =>
  B.ld h v109 fun v110 =>
  B.call C (N 58) [v110, (.int .i64 8)] h fun v111 h =>
  B.appW h 1 1 v4 v111 fun v112 h =>
  B.al c1 (B.pv (V.field1 6 c1) fun v115 =>
  B.pv (V.idxS 3 v115 v8) fun v117 =>
  B.pv (V.fieldAddr 1 v117) fun v118 =>
  B.ld h v118 fun v119 =>
  B.call C (N 58) [v119, (.int .i64 8)] h fun v120 h =>
  B.appW h 1 1 v112 v120 fun v121 h =>
  B.al c1 (B.pv (V.field1 6 c1) fun v124 =>
  B.pv (V.idxS 3 v124 v8) fun v126 =>
  B.pv (V.fieldAddr 2 v126) fun v127 =>
  B.ld h v127 fun v128 =>
  B.call C (N 58) [v128, (.int .i64 8)] h fun v129 h =>
  B.appW h 1 1 v121 v129 fun v130 h =>
  B.pv (V.bin .add v8 (.int .i64 1)) fun v103 =>
  Y1 [v130, v103] h))))
  (Q (.tup [v4, (.int .i64 0)]) h))
@[simp] def ref14_Put.l2 (C : CSem) (N : Nat → Nat) (Q : AVal → AHeap → Prop) (c1 : AVal) : List AVal → AHeap → (List AVal → AHeap → Prop) → Prop
 | [v4, v8], h, Y1 => ref14_Put.k1 C N Q Y1 v4 v8 c1 h
 | _, _, _ => False
@[simp] def ref14_Get.k1 (C : CSem) (N : Nat → Nat) (Q : AVal → AHeap → Prop) (v2 v5 c6 : AVal) (h : AHeap) : Prop :=
 B.nilCheck v5 fun v82 =>
  B.pv (V.fieldAddr 2 v82) fun v83 =>
  B.ld h v83 fun v84 =>
  B.gd h v84 false (fun K => B.pv (V.fieldN 0 7 c6) fun v => K v h) fun v86 h =>
  B.gd h v84 false (fun K => B.call C (N 33) [v86] h K) fun v87 h =>
  B.gd h v84 false (fun K => B.pv (V.un .not v87) fun v => K v h) fun v88 h =>
  B.pick v84 (.bool true) v88 fun v89 =>
  B.cond v89
  (B.pv (A.bld [] [.int .i64 0, .int .i64 0, .int .i64 0, .str [], .int .u8 0, .nils, .nils]) fun v90 =>
  B.stn h v2 7 v90 fun h =>
  B.pv (oneOf (joinV (A.ldnv h v2 7) (joinV (some (.int .i64 0)) (joinV (some (.int .i64 4)) (some []))))) fun v => Q v h)
  (B.pv (V.fieldN 0 7 c6) fun v91 =>
  B.nilCheck v5 fun v93 =>
  B.pv (V.fieldAddr 1 v93) fun v94 =>
  B.ld h v94 fun v95 =>
  (fun K => B.stn h v2 7 v91 fun h => K .undef h) (B.keepS h [(v94, none)] (fun _ h => B.pv (oneOf (joinV (A.ldnv h v2 7) (joinV (some v95) (joinV (some (.int .i64 0)) (some []))))) fun v => Q v h)))
@[simp] def ref14_Get.k2 (C : CSem) (N : Nat → Nat) (Q : AVal → AHeap → Prop) (Y1 : List AVal → AHeap → Prop) (v2 v5 v8 c6 : AVal) (h : AHeap) : Prop :=
 B.pv (V.bin .gtr v8 (.int .i64 0)) fun v56 =>
  B.gd h v56 true (fun K => K v5 h) fun v58 h =>
  B.gd h v56 true (fun K => B.nilCheck v58 fun v => K v h) fun v59 h =>
  B.gd h v56 true (fun K => B.pv (V.fieldAddr 2 v59) fun v => K v h) fun v60 h =>
  B.gd h v56 true (fun K => B.ld h v60 fun v => K v h) fun v61 h =>
  B.gd h v56 true (fun K => B.pv (V.un .not v61) fun v => K v h) fun v62 h =>
  B.pick v56 v62 (.bool false) fun v63 =>
  B.cond v63
  (B.call C (N 71) [v5, (.int .i64 8)] h fun v67 h =>
  B.pv (A.bld [(0, none, v67)] [.int .i64 0, .int .i64 0, .int .i64 0]) fun v68 =>
  B.pv (V.setN 0 3 v68 (.agg [.int .i64 0, .int .i64 0, .int .i64 0])) fun c9 =>
  B.call C (N 71) [v5, (.int .i64 8)] h fun v70 h =>
  B.al c9 (B.pv (V.setF 1 v70 c9) fun c9 =>
  B.call C (N 71) [v5, (.int .i64 8)] h fun v73 h =>
  B.al c9 (B.pv (V.setF 2 v73 c9) fun c9 =>
  B.al c6 (B.pv (V.field1 6 c6) fun v76 =>
  B.pv (V.fieldN 0 3 c9) fun v77 =>
  B.newO h (fillL [(0, some 3, v77)] (repL 1 [.int .i64 0, .int .i64 0, .int .i64 0])) fun i78 h =>
  B.appW h 3 24 v76 (.sl i78 0 0 1 3 1) fun v79 h =>
  B.al c6 (B.pv (V.setF 6 v79 c6) fun c6 =>
  B.pv (V.bin .sub v8 (.int .i64 1)) fun v65 =>
  Y1 [v65, c6] h)))))
  (ref14_Get.k1 C N Q v2 v5 c6 h)
@[simp] def ref14_Get.l3 (C : CSem) (N : Nat → Nat) (Q : AVal → AHeap → Prop) (v2 v5 : AVal) : List AVal → AHeap → (List AVal → AHeap → Prop) → Prop
 | [v8, c6], h, Y1 => ref14_Get.k2 C N Q Y1 v2 v5 v8 c6 h
 | _, _, _ => False
@[simp] def ref14_Get.k4 (C : CSem) (N : Nat → Nat) (Q : AVal → AHeap → Prop) (Y2 : List AVal → AHeap → Prop) (v2 v5 v7 c6 : AVal) (h : AHeap) : Prop :=
 B.pv (V.bin .gtr v7 (.int .i64 0)) fun v36 =>
  B.gd h v36 true (fun K => K v5 h) fun v38 h =>
  B.gd h v36 true (fun K => B.nilCheck v38 fun v => K v h) fun v39 h =>
  B.gd h v36 true (fun K => B.pv (V.fieldAddr 2 v39) fun v => K v h) fun v40 h =>
  B.gd h v36 true (fun K => B.ld h v40 fun v => K v h) fun v41 h =>
  B.gd h v36 true (fun K => B.pv (V.un .not v41) fun v => K v h) fun v42 h =>
  B.pick v36 v42 (.bool false) fun v43 =>
  B.cond v43
  (B.al c6 (B.pv (V.field1 5 c6) fun v47 =>
  B.call C (N 72) [v5] h fun v49 h =>
  B.newO h (fillL [(0, some 6, v49)] (repL 1 [.int .i64 0, .str [], .int .i64 0, .int .i64 0, .int .i64 0, .bool false])) fun i50 h =>
  B.appW h 6 56 v47 (.sl i50 0 0 1 6 1) fun v51 h =>
  B.al c6 (B.pv (V.setF 5 v51 c6) fun c6 =>
  B.pv (V.bin .sub v7 (.int .i64 1)) fun v45 =>
  Y2 [v45, c6] h)))
  (B.call C (N 71) [v5, (.int .i64 2)] h fun v54 h =>
  LoopR (ref14_Get.l3 C N Q v2 v5) [v54, c6] h)
@[simp] def ref14_Get.l5 (C : CSem) (N : Nat → Nat) (Q : AVal → AHeap → Prop) (v2 v5 : AVal) : List AVal → AHeap → (List AVal → AHeap → Prop) → Prop
 | [v7, c6], h, Y2 => ref14_Get.k4 C N Q Y2 v2 v5 v7 c6 h
 | _, _, _ => False
end Go.Ab
namespace Go.Ab
variable {C : CSem} {N : Nat → Nat}
def lotRight (l : Lot) : Bool := decide (0 < l.Id) && codeRight l.Item && Window.right ⟨l.From, l.Until⟩ && decide (l.From < l.Until) && decide (0 < l.Qty) && decide (l.Qty ≤ 1073741824)
def useRight (u : Use) : Bool := decide (0 ≤ u.Want) && decide (1 ≤ u.Lot) && decide (1 ≤ u.Qty)
def be (n : Int) : Nat → List UInt8
 | 0 => []
 | k + 1 => byt (n.fdiv (2 ^ (8 * k))) :: be n k
@[simp] theorem be_len (n : Int) : ∀ k, (be n k).length = k
 | 0 => rfl
 | k + 1 => by simp [be, be_len n k]
def TellP.bare (t : TellP) : Bool := decide (t.Id = 0) && decide (t.Day = 0) && decide (t.Code = []) && decide (t.State = 0) && decide (t.Lots = []) && decide (t.Uses = [])
def TellP.head (t : TellP) : Bool := !(decide (t.Id < 0) || decide (t.Day < -1) || decide (4000 < t.Day) || !decide (t.Code = []) && !codeRight t.Code || decide (3 < (t.State.toNat : Int)) || decide (300 < (t.Lots.length : Int)) || decide (2000 < (t.Uses.length : Int)))
def TellP.full (t : TellP) : Bool := t.head && t.Lots.all lotRight && t.Uses.all useRight
def tellRight (t : TellP) : Bool := decide (0 ≤ t.Err) && decide (t.Err ≤ 999) && if 0 < t.Err then t.bare else t.full
def tell_Right.Spec (C : CSem) (N : Nat → Nat) : Prop := ∀ (t : TellP) (x y : AVal) (h : AHeap) (Q : AVal → AHeap → Prop), TellAt h t x y → t.Lots.length ≤ 100000000 → t.Uses.length ≤ 100000000 → Q (.bool (tellRight t)) h → C (N 29) [.agg (t.cs x y)] h Q
def ref14_Right.Spec (C : CSem) (N : Nat → Nat) : Prop := ∀ (t : TellP) (x y : AVal) (h : AHeap) (Q : AVal → AHeap → Prop), TellAt h t x y → t.Lots.length ≤ 100000000 → t.Uses.length ≤ 100000000 → Q (.bool (tellRight t)) h → C (N 33) [.agg (t.cs x y)] h Q
end Go.Ab
namespace Go.Ab
variable {C : CSem} {N : Nat → Nat}
structure Rdr where
 at_ : Nat
 bad : Bool
def beVal (l : List UInt8) : Nat := l.foldl (fun n c => 256 * n + c.toNat) 0
def rNum (b : List UInt8) (k : Nat) (r : Rdr) : Int × Rdr := if r.bad = true ∨ b.length - r.at_ < k then (0, ⟨r.at_, true⟩) else (IntKind.i64.wrap (beVal ((b.drop r.at_).take k)), ⟨r.at_ + k, false⟩)
def rCode (b : List UInt8) (r : Rdr) : List UInt8 × Rdr := if r.bad then ([], r) else ((codeGet (b.drop r.at_)).1, ⟨r.at_ + (codeGet (b.drop r.at_)).2.1, !(codeGet (b.drop r.at_)).2.2⟩)
theorem rNum_le {b : List UInt8} {k : Nat} {r : Rdr} (h : r.at_ ≤ b.length) : (rNum b k r).2.at_ ≤ b.length := by
 unfold rNum; split
 ·exact h
 ·rename_i hh; simp only [not_or] at hh; simp only; omega
theorem codeGet_le : ∀ b : List UInt8, (codeGet b).2.1 ≤ b.length
 | [] => by simp [codeGet]
 | c :: r => by rw [codeGet_cons]; split <;> simp; rename_i hh; simp only [not_or] at hh; omega
theorem rCode_le {b : List UInt8} {r : Rdr} (h : r.at_ ≤ b.length) : (rCode b r).2.at_ ≤ b.length := by
 unfold rCode; split
 ·exact h
 ·have := codeGet_le (b.drop r.at_); simp at this ⊢; omega
abbrev RdAt (h0 h : AHeap) (p x : AVal) (r : Rdr) : Prop := Owns h0 h [.box p [x, .int .i64 (r.at_ : Int), .bool r.bad]]
theorem bin_shl {k j : IntKind} {a b : Int} (h0 : 0 ≤ b) (h1 : b < k.bits) : V.bin .shl (.int k a) (.int j b) = some (.int k (k.wrap (a * 2 ^ b.toNat))) := by
 simp only [V.bin, V.shift]
 rw [if_neg (by omega), Nat.min_eq_left (by omega)]
def ref13_Reader_Number.Spec (C : CSem) (N : Nat → Nat) : Prop := ∀ (h0 h : AHeap) (p x : AVal) (b : List UInt8) (R : List (List AVal)) (r : Rdr) (k : Nat) (Q : AVal → AHeap → Prop), SlX h0 1 x (b.map bc) R → b.length < 4611686018427387904 → r.at_ ≤ b.length → k ≤ 8 → RdAt h0 h p x r →
 (∀ h', RdAt h0 h' p x (rNum b k r).2 → Q (.int .i64 (rNum b k r).1) h') → C (N 71) [p, .int .i64 (k : Int)] h Q
def rLot (b : List UInt8) (r : Rdr) : Lot × Rdr :=
 let a := rNum b 8 r
 let c := rCode b a.2
 let f := rNum b 2 c.2
 let u := rNum b 2 f.2
 let q := rNum b 8 u.2
 let e := rNum b 1 q.2
 (⟨a.1, c.1, f.1, u.1, q.1, decide (e.1 = 1)⟩, ⟨e.2.at_, e.2.bad || decide (1 < e.1)⟩)
theorem rLot_le {b : List UInt8} {r : Rdr} (h : r.at_ ≤ b.length) : (rLot b r).2.at_ ≤ b.length :=
 rNum_le (rNum_le (rNum_le (rNum_le (rCode_le (rNum_le h)))))
def rUse (b : List UInt8) (r : Rdr) : Use × Rdr :=
 let a := rNum b 8 r
 let c := rNum b 8 a.2
 let f := rNum b 8 c.2
 (⟨a.1, c.1, f.1⟩, f.2)
theorem rUse_le {b : List UInt8} {r : Rdr} (h : r.at_ ≤ b.length) : (rUse b r).2.at_ ≤ b.length := rNum_le (rNum_le (rNum_le h))
def ref14_lot.Spec (C : CSem) (N : Nat → Nat) : Prop := ∀ (h0 h : AHeap) (p x : AVal) (b : List UInt8) (R : List (List AVal)) (r : Rdr) (Q : AVal → AHeap → Prop), SlX h0 1 x (b.map bc) R → b.length < 4611686018427387904 → r.at_ ≤ b.length → RdAt h0 h p x r →
 (∀ h', RdAt h0 h' p x (rLot b r).2 → Q (.agg (rLot b r).1.cs) h') → C (N 72) [p] h Q
end Go.Ab
namespace Go.Ab
variable {C : CSem} {N : Nat → Nat}
theorem V.bin_xor (k : IntKind) (a b : Int) : V.bin .xor (.int k a) (.int k b) = some (.int k (k.wrap (BitVec.ofInt k.bits a ^^^ BitVec.ofInt k.bits b).toNat)) := by simp [V.bin, V.arith]
theorem V.bin_and (k : IntKind) (a b : Int) : V.bin .and (.int k a) (.int k b) = some (.int k (k.wrap (BitVec.ofInt k.bits a &&& BitVec.ofInt k.bits b).toNat)) := by simp [V.bin, V.arith]
theorem wrapU {n : Nat} (h : n < 18446744073709551616) : IntKind.u64.wrap (n : Int) = n := by rw [wrap_u64]; omega
theorem toUN {n : Nat} (h : n < 18446744073709551616) : V.toInt .u64 (.int .i64 (n : Int)) = some (.int .u64 (n : Int)) := by rw [V.toInt_int, wrapU h]
theorem toIN {k : IntKind} {n : Nat} (h : n < 4611686018427387904) : V.toInt .i64 (.int k (n : Int)) = some (.int .i64 (n : Int)) := by rw [V.toInt_int, wrap_i64 (by omega) (by omega)]
theorem and_le {z : Int} {m : Nat} (h : m < 4611686018427387904) : ∃ o : Nat, o ≤ m ∧ V.bin .and (.int .u64 z) (.int .u64 (m : Int)) = some (.int .u64 (o : Int)) := by
 refine ⟨(BitVec.ofInt 64 z &&& BitVec.ofInt 64 (m : Int)).toNat, ?_, ?_⟩
 ·rw [BitVec.toNat_and]
  refine Nat.le_trans Nat.and_le_right ?_
  rw [BitVec.toNat_ofInt]; omega
 ·rw [V.bin_and]
  show some (AVal.int .u64 (IntKind.u64.wrap ((BitVec.ofInt 64 z &&& BitVec.ofInt 64 (m : Int)).toNat : Int))) = _
  rw [wrapU (BitVec.isLt _)]
def lenT : List UInt8 := [0, 1, 2, 2, 3, 3, 3, 3, 4, 4, 4, 4, 4, 4, 4, 4, 5, 5, 5, 5, 5, 5, 5, 5, 5, 5, 5, 5, 5, 5, 5, 5, 6, 6, 6, 6, 6, 6, 6, 6, 6, 6, 6, 6, 6, 6, 6, 6, 6, 6, 6, 6, 6, 6, 6, 6, 6, 6, 6, 6, 6, 6, 6, 6, 7, 7, 7, 7, 7, 7, 7, 7, 7, 7, 7, 7, 7, 7, 7, 7, 7, 7, 7, 7, 7, 7, 7, 7, 7, 7, 7, 7, 7, 7, 7, 7, 7, 7, 7, 7, 7, 7, 7, 7, 7, 7, 7, 7, 7, 7, 7, 7, 7, 7, 7, 7, 7, 7, 7, 7, 7, 7, 7, 7, 7, 7, 7, 7, 8, 8, 8, 8, 8, 8, 8, 8, 8, 8, 8, 8, 8, 8, 8, 8, 8, 8, 8, 8, 8, 8, 8, 8, 8, 8, 8, 8, 8, 8, 8, 8, 8, 8, 8, 8, 8, 8, 8, 8, 8, 8, 8, 8, 8, 8, 8, 8, 8, 8, 8, 8, 8, 8, 8, 8, 8, 8, 8, 8, 8, 8, 8, 8, 8, 8, 8, 8, 8, 8, 8, 8, 8, 8, 8, 8, 8, 8, 8, 8, 8, 8, 8, 8, 8, 8, 8, 8, 8, 8, 8, 8, 8, 8, 8, 8, 8, 8, 8, 8, 8, 8, 8, 8, 8, 8, 8, 8, 8, 8, 8, 8, 8, 8, 8, 8, 8, 8, 8, 8, 8, 8, 8, 8, 8, 8, 8, 8]
theorem idxStr_u8 {s : List UInt8} {k : Nat} {b : UInt8} (hb : s[k]? = some b) : V.idxStr (.str s) (.int .u8 (k : Int)) = some (.int .u8 b.toNat) := by
 simp [V.idxStr, hb]
theorem lenT_all : ∀ k : Fin 256, ∃ b : Fin 9, lenT[k.val]? = some (UInt8.ofNat b.val) ∧ (0 < k.val → 2 ^ b.val ≤ 2 * k.val) := by decide +kernel
theorem lenTab {k : Nat} (h : k < 256) : ∃ b : Nat, V.idxStr (.str lenT) (.int .u8 (k : Int)) = some (.int .u8 (b : Int)) ∧ b ≤ 8 ∧ (0 < k → 2 ^ b ≤ 2 * k) := by
 obtain ⟨b, e, hb⟩ := lenT_all ⟨k, h⟩
 have hb9 := b.isLt
 refine ⟨b.val, ?_, by omega, hb⟩
 rw [idxStr_u8 e]
 congr 2
 rw [UInt8.toNat_ofNat', Nat.mod_eq_of_lt (by omega)]
theorem Len64_k1 {Q : AVal → AHeap → Prop} {v0 v2 : AVal} {h : AHeap} : math_bits_Len64.k1 C N Q v0 v2 h = (B.pv (V.toInt .u8 v0) fun v21 =>
  B.pv (V.idxStr (.str lenT) v21) fun v22 =>
  B.pv (V.toInt .i64 v22) fun v23 =>
  B.pv (V.bin .add v2 v23) fun v24 =>
  Q v24 h) := rfl
theorem Len64_spec {x : Nat} (hx : x ≤ 100000000) {h : AHeap} {Q : AVal → AHeap → Prop} (hq : ∀ r : Nat, r ≤ 32 → (0 < x → 2 ^ r ≤ 2 * x) → Q (.int .i64 (r : Int)) h) : math_bits_Len64.cps C N (.int .u64 (x : Int)) h Q := by
 have fin : ∀ (y s : Nat), y < 256 → s ≤ 24 → (0 < x → 0 < y) → 2 ^ s * y ≤ x → math_bits_Len64.k1 C N Q (.int .u64 (y : Int)) (.int .i64 (s : Int)) h := fun y s hy hs h0 hle => by
  obtain ⟨b, e, hb, hp⟩ := lenTab hy
  have e1 : V.toInt .u8 (.int .u64 (y : Int)) = some (.int .u8 (y : Int)) := by rw [V.toInt_int, wrap_u8]; congr 2; omega
  rw [Len64_k1]
  simp -dsimp only [e1, B.pv_some, e, toIN (show b < 4611686018427387904 by omega), addNN (show s + b < 4611686018427387904 by omega)]
  refine hq (s + b) (by omega) fun hx0 => ?_
  have h1 := hp (h0 hx0)
  have h2 : 2 ^ s * 2 ^ b ≤ 2 ^ s * (2 * y) := Nat.mul_le_mul_left _ h1
  rw [Nat.pow_add]
  have h3 : 2 ^ s * (2 * y) = 2 * (2 ^ s * y) := by rw [Nat.mul_left_comm]
  omega
 have sh : ∀ (y j : Nat), j < 64 → V.bin .shr (.int .u64 (y : Int)) (.int .u64 (j : Int)) = some (.int .u64 ((y / 2 ^ j : Nat) : Int)) := fun y j hj => by
  rw [bin_shr (by omega) (by simp [IntKind.bits]; omega), Int.toNat_natCast]
  congr 2
  rw [Int.fdiv_eq_ediv_of_nonneg _ (by exact_mod_cast Nat.zero_le (2 ^ j))]
  simp
 have g3 : V.bin .geq (.int .u64 (x : Int)) (.int .u64 4294967296) = some (.bool false) := by rw [V.bin_geq]; simp; omega
 have gk : ∀ y m : Nat, V.bin .geq (.int .u64 (y : Int)) (.int .u64 (m : Int)) = some (.bool (decide (m ≤ y))) := fun y m => by rw [V.bin_geq]; congr 3; exact propext (by omega)
 have low : ∀ (y s : Nat), y < 65536 → s ≤ 16 → (0 < x → 0 < y) → 2 ^ s * y ≤ x → math_bits_Len64.k2 C N Q (.int .u64 (y : Int)) (.int .i64 (s : Int)) h := fun y s hy hs h0 hle => by
  have g1 : V.bin .geq (.int .u64 (y : Int)) (.int .u64 256) = some (.bool (decide (256 ≤ y))) := gk y 256
  have s1 : V.bin .shr (.int .u64 (y : Int)) (.int .u64 8) = some (.int .u64 ((y / 2 ^ 8 : Nat) : Int)) := sh y 8 (by omega)
  have a1 : V.bin .add (.int .i64 (s : Int)) (.int .i64 8) = some (.int .i64 ((s + 8 : Nat) : Int)) := addNN (a := s) (b := 8) (by omega)
  simp -dsimp only [math_bits_Len64.k2, g1, B.pv_some]
  refine B.cond_bool (fun hd => ?_) (fun hd => ?_)
  ·rw [decide_eq_true_eq] at hd
   simp -dsimp only [s1, a1, B.pv_some]
   refine fin (y / 2 ^ 8) (s + 8) (by omega) (by omega) (fun _ => by omega) ?_
   rw [Nat.pow_add, Nat.mul_assoc]
   refine Nat.le_trans (Nat.mul_le_mul_left _ ?_) hle
   omega
  ·rw [decide_eq_false_iff_not] at hd
   exact fin y s (by omega) (by omega) h0 hle
 have g2 : V.bin .geq (.int .u64 (x : Int)) (.int .u64 65536) = some (.bool (decide (65536 ≤ x))) := gk x 65536
 have s2 : V.bin .shr (.int .u64 (x : Int)) (.int .u64 16) = some (.int .u64 ((x / 2 ^ 16 : Nat) : Int)) := sh x 16 (by omega)
 simp -dsimp only [math_bits_Len64.cps, math_bits_Len64.k4, math_bits_Len64.k3, g3, g2, s2, B.pv_some, B.cond_false]
 refine B.cond_bool (fun hd => ?_) (fun hd => ?_)
 ·rw [decide_eq_true_eq] at hd
  simp -dsimp only [s2, show V.bin .add (.int .i64 0) (.int .i64 16) = some (.int .i64 ((16 : Nat) : Int)) from rfl, B.pv_some]
  exact low (x / 2 ^ 16) 16 (by omega) (by omega) (fun _ => by omega) (by omega)
 ·rw [decide_eq_false_iff_not] at hd
  exact low x 0 (by omega) (by omega) id (by simp)
theorem Len_spec (i : math_bits_Len64.Imp C N) {x : Nat} (hx : x ≤ 100000000) {h : AHeap} {Q : AVal → AHeap → Prop} (hq : ∀ r : Nat, r ≤ 32 → (0 < x → 2 ^ r ≤ 2 * x) → Q (.int .i64 (r : Int)) h) : math_bits_Len.cps C N (.int .u64 (x : Int)) h Q := by
 simp -dsimp only [math_bits_Len.cps, math_bits_Len.k1, B.cond_false]
 exact i _ _ _ (Len64_spec hx fun r h1 h2 => dn_same (hq r h1 h2))
def LenI (C : CSem) (f : Nat) : Prop := ∀ (x : Nat) (h : AHeap) (Q : AVal → AHeap → Prop), x ≤ 100000000 → (∀ r : Nat, r ≤ 32 → (0 < x → 2 ^ r ≤ 2 * x) → Q (.int .i64 (r : Int)) h) → C f [.int .u64 (x : Int)] h Q
theorem math_bits_Len.spec (i : math_bits_Len.Imp C N) (i2 : math_bits_Len64.Imp C N) : LenI C (N 287) := fun x h Q hx hq => i _ _ _ (Len_spec i2 hx fun r h1 h2 => dn_same (hq r h1 h2))
def PowI (C : CSem) (f : Nat) : Prop := ∀ (n : Nat) (h : AHeap) (Q : AVal → AHeap → Prop), 0 < n → n ≤ 100000000 → (∀ m : Nat, 0 < m → m ≤ 2 * n → Q (.int .u64 (m : Int)) h) → C f [.int .i64 (n : Int)] h Q
theorem slices_nextPowerOfTwo.spec (i : slices_nextPowerOfTwo.Imp C N) (hl : LenI C (N 287)) : PowI C (N 299) := fun n h Q h0 hn hq => by
 apply i
 simp -dsimp only [slices_nextPowerOfTwo.cps, toUN (show n < 18446744073709551616 by omega), B.pv_some]
 refine hl n h _ hn fun r hr hp => ?_
 have e : V.bin .shl (.int .u64 1) (.int .i64 (r : Int)) = some (.int .u64 ((2 ^ r : Nat) : Int)) := by
  rw [bin_shl (by omega) (by simp [IntKind.bits]; omega), Int.toNat_natCast]
  have : (1 : Int) * 2 ^ r = ((2 ^ r : Nat) : Int) := by simp
  rw [this, wrapU]
  have := hp h0
  omega
 simp -dsimp only [e, B.pv_some]
 exact dn_same (hq (2 ^ r) (Nat.pos_of_ne_zero (by simp)) (hp h0))
def NextI (C : CSem) (f : Nat) : Prop := ∀ (h0 h : AHeap) (p : AVal) (n : Int) (Q : AVal → AHeap → Prop), Owns h0 h [.box p [.int .u64 n]] → (∀ m m' h', Owns h0 h' [.box p [.int .u64 m']] → Q (.int .u64 m) h') → C f [p] h Q
theorem slices_xorshift_Next.spec (i : slices_xorshift_Next.Imp C N) : NextI C (N 298) := fun h0 h p n Q ho hq => by
 have key : ∀ {h : AHeap} {n : Int}, Owns h0 h [.box p [.int .u64 n]] → ∃ id, p = .ptr id 0 0 ∧ A.ldv h (.ptr id 0 0) = some (.int .u64 n) := fun {h n} ho => by
  obtain ⟨id, rfl, hb⟩ := ho.boxAt 0 rfl
  exact ⟨id, rfl, by rw [ldv_at hb]; rfl⟩
 apply i
 obtain ⟨id, rfl, ld⟩ := key ho
 simp -dsimp only [slices_xorshift_Next.cps, slices_xorshift_Next.k1, B.nilCheck_ptr, B.ld_eq, ld, B.pv_some, bin_shl (k := .u64) (j := .u64) (b := 13) (by omega) (by simp [IntKind.bits]), V.bin_xor]
 refine ho.boxSt 0 (off := 0) rfl rfl (by simp) fun h1 o1 _ => ?_
 simp only [List.set_cons_zero] at o1
 obtain ⟨id1, e, ld1⟩ := key o1
 cases e
 simp -dsimp only [B.nilCheck_ptr, B.ld_eq, ld1, B.pv_some, bin_shr (k := .u64) (j := .u64) (b := 7) (by omega) (by simp [IntKind.bits]), V.bin_xor]
 refine o1.boxSt 0 (off := 0) rfl rfl (by simp) fun h2 o2 _ => ?_
 simp only [List.set_cons_zero] at o2
 obtain ⟨id2, e, ld2⟩ := key o2
 cases e
 simp -dsimp only [B.nilCheck_ptr, B.ld_eq, ld2, B.pv_some, bin_shl (k := .u64) (j := .u64) (b := 17) (by omega) (by simp [IntKind.bits]), V.bin_xor]
 refine o2.boxSt 0 (off := 0) rfl rfl (by simp) fun h3 o3 _ => ?_
 simp only [List.set_cons_zero] at o3
 obtain ⟨id3, e, ld3⟩ := key o3
 cases e
 simp -dsimp only [B.nilCheck_ptr, B.ld_eq, ld3, B.pv_some]
 exact dn_same (hq _ _ _ o3)
section
variable {E : ElOps} {X : Type} {cs : X → List AVal} {v : X → AVal} {h0 h : AHeap} {x f : AVal} {G : List X} {R : List (List AVal)} {Q : AVal → AHeap → Prop} {a b : Nat}
end
end Go.Ab
namespace Go.Ab
variable {C : CSem}
section
variable {X : Type} {c : X → X → Int} {a b m A0 Z0 : Nat} {G G' : List X}
theorem le_of (W : Weak (lessC c)) {x y z : X} (h1 : ¬ c x y < 0) (h2 : ¬ c y z < 0) : ¬ c x z < 0 := by
 have := W.ntrans (a := x) (b := y) (c := z) (by unfold lessC; exact decide_eq_false h1) (by unfold lessC; exact decide_eq_false h2)
 unfold lessC at this; exact of_decide_eq_false this
theorem nlt_of (W : Weak (lessC c)) {x y : X} (h : c x y < 0) : ¬ c y x < 0 := by
 have := W.asym (a := x) (b := y) (by unfold lessC; exact decide_eq_true h)
 unfold lessC at this; exact of_decide_eq_false this
theorem le_self (W : Weak (lessC c)) (x : X) : ¬ c x x < 0 := by
 have := W.irr x; unfold lessC at this; exact of_decide_eq_false this
theorem Parted.pair (W : Weak (lessC c)) (x : Parted c a b m G) {p q : Nat} (h1 : a ≤ p) (h2 : p < q) (h3 : q < b) (h4 : p ≤ m) (h5 : m ≤ q) (hp : p < G.length) (hq : q < G.length) : ¬ c G[q] G[p] < 0 := by
 have hm : m < G.length := by omega
 have e1 : p < m → ¬ c G[m] G[p] < 0 := fun k => nlt_of W (x.lo p hp hm h1 k)
 have e2 : m < q → ¬ c G[q] G[m] < 0 := fun k => x.hi q hq hm k h3
 by_cases k1 : p = m
 ·subst k1; exact e2 (by omega)
 ·by_cases k2 : q = m
  ·subst k2; exact e1 (by omega)
  ·exact le_of W (e2 (by omega)) (e1 (by omega))
theorem Parted.left (W : Weak (lessC c)) (x : Parted c a b m G) (w : Within a m G G') : Parted c a b m G' := by
 have hl := w.len
 refine ⟨x.ge, x.lt, by have := x.hb; omega, fun k h hm h1 h2 => ?_, fun k h hm h1 h2 => ?_⟩
 ·obtain ⟨k', k1, k2, k3, e⟩ := w.mem h1 h2 h
  rw [e, w.same (k := m) (.inr (by omega)) hm (by omega)]
  exact x.lo k' k3 _ k1 k2
 ·rw [w.same (k := m) (.inr (by omega)) hm (by omega), w.same (k := k) (.inr (by omega)) h (by omega)]
  exact x.hi k _ _ h1 h2
theorem Parted.right (W : Weak (lessC c)) (x : Parted c a b m G) (w : Within (m + 1) b G G') : Parted c a b m G' := by
 have hl := w.len
 refine ⟨x.ge, x.lt, by have := x.hb; omega, fun k h hm h1 h2 => ?_, fun k h hm h1 h2 => ?_⟩
 ·rw [w.same (k := m) (.inl (by omega)) hm (by omega), w.same (k := k) (.inl (by omega)) h (by omega)]
  exact x.lo k _ _ h1 h2
 ·obtain ⟨k', k1, k2, k3, e⟩ := w.mem (k := k) (by omega) h2 h
  rw [e, w.same (k := m) (.inl (by omega)) hm (by omega)]
  exact x.hi k' k3 _ (by omega) k2
theorem Cut.left (W : Weak (lessC c)) (x : Cut c A0 Z0 a b G) (p : Parted c a b m G) (s : Srt c a m G) : Cut c A0 Z0 (m + 1) b G := fun i j h1 h2 h3 h4 h5 h6 => by
 by_cases k : i < a ∨ b ≤ j
 ·exact x i j h1 h2 h3 k h5 h6
 ·by_cases k2 : j < m
  ·exact s i j (by omega) h2 k2 h5 h6
  ·exact p.pair W (by omega) h2 (by omega) (by omega) (by omega) h5 h6
theorem Cut.right (W : Weak (lessC c)) (x : Cut c A0 Z0 a b G) (p : Parted c a b m G) (s : Srt c (m + 1) b G) : Cut c A0 Z0 a m G := fun i j h1 h2 h3 h4 h5 h6 => by
 by_cases k : i < a ∨ b ≤ j
 ·exact x i j h1 h2 h3 k h5 h6
 ·by_cases k2 : m < i
  ·exact s i j (by omega) h2 (by omega) h5 h6
  ·exact p.pair W (by omega) h2 (by omega) (by omega) (by omega) h5 h6
theorem Cut.pre (x : Cut c A0 Z0 a b G) (h : A0 < a) (hb : b ≤ Z0) : Pre c a b G := fun h0 i h1 h2 h3 h4 => x (a - 1) i (by omega) (by omega) (by omega) (.inl (by omega)) h4 h3
theorem Pre.sub (x : Pre c a b G) (h : m ≤ b) : Pre c a m G := fun h0 i h1 h2 h3 h4 => x h0 i h1 (by omega) h3 h4
theorem Cut.equal (W : Weak (lessC c)) {i j : Nat} (x : Cut c A0 Z0 a b G) (p : EInv c a b G i j) (hji : j < i) (ha : 0 < a) (hp : Pre c a b G) (hlt : a < b) (hd : ∀ (h1 : a - 1 < G.length) (h2 : a < G.length), ¬ c G[a - 1] G[a] < 0) : Cut c A0 Z0 i b G := fun s t h1 h2 h3 h4 h5 h6 => by
 have e := p.hij
 have e3 := p.hi
 by_cases k : s < a ∨ b ≤ t
 ·exact x s t h1 h2 h3 k h5 h6
 ·have la : a < G.length := by omega
  have sp : ¬ c G[a] G[s] < 0 := by
   by_cases k3 : s = a
   ·subst k3; exact le_self W _
   ·exact p.lo s h5 la (by omega) (by omega)
  by_cases k2 : t < i
  ·have t1 := hp ha t (by omega) (by omega) h6 (by omega)
   exact le_of W (le_of W t1 (hd (by omega) la)) sp
  ·exact le_of W (nlt_of W (p.hi2 t h6 la (by omega) (by omega))) sp
end
abbrev I5 (F : AVal → AVal → AVal → AVal → AVal → AHeap → (AVal → AHeap → Prop) → Prop) (C : CSem) (n : Nat) : Prop := ∀ (v0 v1 v2 v3 v4 : AVal) (h : AHeap) (Q : AVal → AHeap → Prop), F v0 v1 v2 v3 v4 h (dn Q) → C n [v0, v1, v2, v3, v4] h Q
abbrev I4 (F : AVal → AVal → AVal → AVal → AHeap → (AVal → AHeap → Prop) → Prop) (C : CSem) (n : Nat) : Prop := ∀ (v0 v1 v2 v3 : AVal) (h : AHeap) (Q : AVal → AHeap → Prop), F v0 v1 v2 v3 h (dn Q) → C n [v0, v1, v2, v3] h Q
section
variable {E : ElOps} {X : Type} {cs : X → List AVal} {v : X → AVal} {h0 h : AHeap} {x f : AVal} {G : List X} {R : List (List AVal)} {c : X → X → Int} {Q : AVal → AHeap → Prop} {Y : List AVal → AHeap → Prop} {f1 f2 f3 f4 f5 f6 f7 f8 f9 g1 g2 g3 g4 g5 g6 : Nat}
structure PS (E : ElOps) {X : Type} (cs : X → List AVal) (h0 : AHeap) (x : AVal) (R : List (List AVal)) (c : X → X → Int) (A0 Z0 : Nat) (G0 : List X) (a b : Nat) (G : List X) (h : AHeap) : Prop where
 hA : A0 ≤ a
 hab : a ≤ b
 hB : b ≤ Z0
 W : Within A0 Z0 G0 G
 cut : Cut c A0 Z0 a b G
 pre : Pre c a b G
 o : Rw E cs h0 h x G R
theorem PS.turn {A0 Z0 a b : Nat} {G0 G' : List X} {h' : AHeap} (p : PS E cs h0 x R c A0 Z0 G0 a b G h) (w : Within a b G G') (o : Rw E cs h0 h' x G' R) : PS E cs h0 x R c A0 Z0 G0 a b G' h' :=
 ⟨p.hA, p.hab, p.hB, p.W.trans (w.mono p.hA p.hB), p.cut.within w p.hA p.hB, p.pre.within w, o⟩
abbrev Go1 (E : ElOps) {X : Type} (cs : X → List AVal) (h0 : AHeap) (x : AVal) (R : List (List AVal)) (c : X → X → Int) (A0 Z0 : Nat) (G0 : List X) (n : Nat) (Y : List AVal → AHeap → Prop) : Prop :=
 ∀ a b (lim : Int) w1 w2 G h, b - a < n → PS E cs h0 x R c A0 Z0 G0 a b G h → Y [.int .i64 (a : Int), .int .i64 (b : Int), .int .i64 lim, .bool w1, .bool w2] h
end
end Go.Ab
