/- What is proved: a part of the way to the statement: AcJ. No conditions. -/
import Derived.Test.YtljejbplojnnpaaQ3
import Derived.Test.YtljejbplojnnpaaQ5
import Derived.KernelRfl
import Derived.Test.YtljejbplojnnpaaQ2
import Derived.Lib.Bytealg
set_option linter.unusedVariables false
set_option linter.unusedSimpArgs false
namespace Go.Ab
theorem arg_slice {T : Type} {H : AHeap} {bytes es : Nat} {e : Ty} {v : AVal} (cs : T → List AVal) (hd : ∀ p, AbsOk H e p → ∃ t, p = cs t) (h : AbsOk H (.sl bytes es e) [v]) :
  ∃ L : List T, SlIs H es v (L.map cs) ∧ L.length * bytes ≤ reach := by
 rcases h with h | h | ⟨id, parts, h1, h2, h3, h4⟩
 ·cases h; exact ⟨[], SlX.nils H es, by simp⟩
 ·cases h; exact ⟨[], SlX.sz H es, by simp⟩
 ·cases h1
  have : ∃ L : List T, parts = L.map cs := by
   clear h2 h3
   induction parts with
   | nil => exact ⟨[], rfl⟩
   | cons p r ih =>
    obtain ⟨L, rfl⟩ := ih fun q hq => h4 q (by simp [hq])
    obtain ⟨t, rfl⟩ := hd p (h4 p (by simp)).1
    exact ⟨t :: L, rfl⟩
  obtain ⟨L, rfl⟩ := this
  have hl : ∀ p ∈ L.map cs ++ [], p.length = es := fun p hp => (h4 p (by simpa using hp)).2
  have hfl : (L.map cs).flatten.length = L.length * es := by
   have := flat_len (css := L.map cs) (n := es) fun p hp => (h4 p hp).2
   simpa using this
  refine ⟨L, ⟨hl, .inr ⟨id, 0, 0, (L.map cs).length, roOf (L.map cs).flatten, (L.map cs).flatten.length, rfl, by simp, h2, lookup_self .., ?_, Nat.le_refl _, ?_⟩⟩, by simpa using h3⟩
  ·rw [hfl]; simp
  ·simp only [roOf, List.drop_zero, List.append_nil, List.length_nil, Nat.add_zero, List.length_map]
   rw [← hfl, List.take_length]
variable {C : CSem} {N : Nat → Nat}
structure ElOps where
 es : Nat
 bytes : Nat
 z : List AVal
 f : Nat
 kp : Option Nat
 ld : AHeap → AVal → (AVal → Prop) → Prop
 st : AHeap → AVal → AVal → (AHeap → Prop) → Prop
 eq : AHeap → AVal → AVal → (AVal → AHeap → Prop) → Prop
section
variable (E : ElOps)
def opsS (bytes : Nat) (z : AVal) (f : Nat) : ElOps where
 es := 1; bytes := bytes; z := [z]; f := f; kp := none
 ld := fun h p K => B.ld h p K
 st := fun h p v K => B.st h p v K
 eq := fun h a b K => B.pv (V.bin .eql a b) fun v => K v h
end
section
variable {m : Int → Int → List AVal} {k n i : Nat}
end
section
variable {h : AHeap} {x : AVal} {n k : Nat} {xs : Nat → AVal} {W : List (List AVal)} (hx : SlX h 1 x (fills n fun j => [xs j]) W)
include hx
end
section
variable {E : ElOps} {m : Int → Int → List AVal} {v : Int → Int → AVal} {h0 h h' : AHeap} {x v5 : AVal} {n k : Nat} {xs ys gs : Nat → AVal} {len : Nat → Nat} {F : Nat → List (List AVal)} {W : List (List AVal)} {Q : AVal → AHeap → Prop}
end
structure Scal (T : Type) [DecidableEq T] where
 c : T → AVal
 cell : ∀ t, (c t).isCell = true
 eql : ∀ a b, V.bin .eql (c a) (c b) = some (.bool (decide (a = b)))
 neq : ∀ a b, V.bin .neq (c a) (c b) = some (.bool (!decide (a = b)))
theorem SlX.cell {h : AHeap} {x c : AVal} {L R : List (List AVal)} {i : Nat} (hs : SlX h 1 x L R) (hc : L[i]? = some [c]) : A.ldv h (elp 1 x i 0) = some c := by
 rw [hs.ldv hc (by omega)]; rfl
section
variable {T : Type} [DecidableEq T] (F : Scal T)
abbrev Scal.cs (t : T) : List AVal := [F.c t]
@[simp] def sameS.k2 (Q : AVal → AHeap → Prop) (Y1 : List AVal → AHeap → Prop) (v0 v1 v5 : AVal) (h : AHeap) : Prop :=
 B.pv (V.lenSl v0) fun v13 =>
  B.pv (V.bin .lss v5 v13) fun v14 =>
  B.cond v14
  (B.pv (V.idxS 1 v0 v5) fun v19 =>
  B.ld h v19 fun v20 =>
  B.pv (V.idxS 1 v1 v5) fun v23 =>
  B.ld h v23 fun v24 =>
  B.pv (V.bin .neq v20 v24) fun v25 =>
  B.cond v25
  (Q (.bool false) h)
  (B.pv (V.bin .add v5 (.int .i64 1)) fun v16 =>
  Y1 [v16] h))
  (Q (.bool true) h)
@[simp] def sameS.l4 (Q : AVal → AHeap → Prop) (v0 v1 : AVal) : List AVal → AHeap → (List AVal → AHeap → Prop) → Prop
 | [v5], h, Y1 => sameS.k2 Q Y1 v0 v1 v5 h
 | _, _, _ => False
def sameS (v0 v1 : AVal) (h : AHeap) (Q : AVal → AHeap → Prop) : Prop :=
 B.pv (V.lenSl v0) fun v7 =>
  B.pv (V.lenSl v1) fun v9 =>
  B.pv (V.bin .neq v7 v9) fun v10 =>
  B.cond v10
  (Q (.bool false) h)
  (LoopR (sameS.l4 Q v0 v1) [(.int .i64 0)] h)
theorem sameS_spec {x y : AVal} {L M : List T} {R S : List (List AVal)} {h : AHeap} {Q : AVal → AHeap → Prop} (hx : SlX h 1 x (L.map F.cs) R) (hy : SlX h 1 y (M.map F.cs) S) (hlen : L.length < 4611686018427387904)
  (hq : Q (.bool (decide (L = M))) h) : sameS x y h Q := by
 have hlx := hx.lenSl
 have hly := hy.lenSl
 rw [List.length_map] at hlx hly
 simp -dsimp [sameS, hlx, hly]
 refine B.cond_bool (fun hb => ?_) (fun hb => ?_) <;> simp -dsimp at hb ⊢
 ·rw [decide_eq_false fun e => hb (by rw [e])] at hq
  exact hq
 ·refine LoopR.intro (fun n vs hh => ∃ k, k + n = L.length ∧ vs = [.int .i64 k] ∧ hh = h ∧ L.take k = M.take k) L.length ?_ ⟨0, by simp, by simp, rfl, by simp⟩
  rintro Y n vs _ ⟨k, hn, rfl, rfl, he⟩ hY
  simp -dsimp [hlx]
  refine B.cond_bool (fun hc => ?_) (fun hc => ?_) <;> simp -dsimp at hc ⊢
  ·obtain ⟨w, hw⟩ := get_lt hc
   obtain ⟨u, hu⟩ := get_lt (L := M) (k := k) (by omega)
   have hk : k < (L.map F.cs).length := by simpa using hc
   have hk2 : k < (M.map F.cs).length := by simp; omega
   simp only [hx.idxN hk, hy.idxN hk2, hx.cell (get_map hw), hy.cell (get_map hu), B.pv_some, B.ld_eq, F.neq]
   refine B.cond_bool (fun hd => ?_) (fun hd => ?_) <;> simp -dsimp at hd ⊢
   ·rw [decide_eq_false fun e => by subst e; rw [hw] at hu; cases hu; exact hd rfl] at hq
    exact hq
   ·simp [inc64 (n := k) (by omega)]
    refine hY (L.length - (k + 1)) _ _ (by omega) ⟨k + 1, by omega, by simp, rfl, ?_⟩
    rw [take_succ hw, take_succ hu, he, hd]
  ·rw [List.take_of_length_le (by omega), List.take_of_length_le (by omega)] at he
   rw [decide_eq_true he] at hq
   exact hq
def cmarks (mk : Int → T) (n : Nat) : List (List AVal) := (List.range n).map fun (i : Nat) => F.cs (mk (i : Int))
@[simp] theorem cmarks_len (mk : Int → T) (n : Nat) : (cmarks F mk n).length = n := by simp [cmarks]
end
theorem copy_specL {es bytes : Nat} (hes : 0 < es) {h : AHeap} {x : AVal} {L R : List (List AVal)} {K : AVal → AHeap → Prop} (hx : SlX h es x L R) (hlen : L.length ≤ 4611686018427387000) (hmul : L.length * bytes ≤ 140737488355328) (hk : ∀ x' h', Owns h h' [.sl es x' L []] → K x' h') : B.appW h es bytes .nils x K := by
 refine ((Owns.start h).nils es).appW 0 rfl hx hes (by simp; omega) (by simp [maxLen]; omega) fun x' h' ho _ => hk x' h' (by simpa using ho)
theorem copy_spec {es bytes : Nat} (hes : 0 < es) (hb : bytes ≤ 1000) {h : AHeap} {x : AVal} {L R : List (List AVal)} {K : AVal → AHeap → Prop} (hx : SlX h es x L R) (hlen : L.length ≤ 100000000) (hk : ∀ x' h', Owns h h' [.sl es x' L []] → K x' h') : B.appW h es bytes .nils x K := by
 have hmul := Nat.mul_le_mul hlen hb
 exact copy_specL hes hx (by omega) (by omega) hk
def AHeap.without (h : AHeap) (l : List Ob) : AHeap := ⟨fun i => bif l.any (fun o => o.foot == some i) then none else h i, by
 obtain ⟨n, k⟩ := h.2
 refine ⟨n, fun i hi => ?_⟩
 show (bif l.any (fun o => o.foot == some i) then none else h i) = none
 cases l.any (fun o => o.foot == some i)
 ·exact k i hi
 ·rfl⟩
theorem without_in {h : AHeap} {l : List Ob} {i : Nat} {o : Ob} (hm : o ∈ l) (hf : o.foot = some i) : h.without l i = none := by
 have : (l.any fun o => o.foot == some i) = true := List.any_eq_true.2 ⟨o, hm, by simp [hf]⟩
 show (bif l.any (fun o => o.foot == some i) then none else h i) = none
 rw [this]; rfl
theorem without_out {h : AHeap} {l : List Ob} {i : Nat} (hm : ∀ o ∈ l, o.foot ≠ some i) : h.without l i = h i := by
 have : (l.any fun o => o.foot == some i) = false := by
  rw [← Bool.not_eq_true, List.any_eq_true]
  rintro ⟨o, h1, h2⟩
  exact hm o h1 (by simpa using h2)
 show (bif l.any (fun o => o.foot == some i) then none else h i) = _
 rw [this]; rfl
theorem without_le (h : AHeap) (l : List Ob) : (h.without l).le h := fun i b e => by
 by_cases hm : ∃ o ∈ l, o.foot = some i
 ·obtain ⟨o, h1, h2⟩ := hm
  rw [without_in h1 h2] at e; cases e
 ·rw [without_out fun o h1 h2 => hm ⟨o, h1, h2⟩] at e; exact e
theorem Owns.out {h0 h : AHeap} {l1 l2 : List Ob} (ho : Owns h0 h (l1 ++ l2)) : Owns h0 (h.without l2) l1 ∧ Owns (h.without l2) h l2 := by
 obtain ⟨a1, a2, a3⟩ := List.pairwise_append.1 ho.apart
 have h1 : h0.le (h.without l2) := fun i b e => by
  rw [without_out fun o hm hf => by rw [(ho.own o (List.mem_append_right _ hm) i hf).1] at e; cases e]
  exact ho.le i b e
 have keep : ∀ o ∈ l1, ∀ id, o.foot = some id → (h.without l2) id = h id := fun o hm id hf => without_out fun o2 hm2 hf2 => a3 o hm o2 hm2 id hf hf2
 refine ⟨⟨h1, fun o hm => (ho.is o (List.mem_append_left _ hm)).keep fun id b hf hb => by rw [keep o hm id hf]; exact hb, fun o hm id hf => ?_, a1⟩,
  ⟨without_le h l2, fun o hm => ho.is o (List.mem_append_right _ hm), fun o hm id hf => ⟨without_in hm hf, (ho.own o (List.mem_append_right _ hm) id hf).2⟩, a2⟩⟩
 obtain ⟨b1, b2⟩ := ho.own o (List.mem_append_left _ hm) id hf
 exact ⟨b1, fun b hb => b2 b (by rw [← keep o hm id hf]; exact hb)⟩
theorem Owns.perm {h0 h : AHeap} {l l' : List Ob} (ho : Owns h0 h l) (hp : l.Perm l') : Owns h0 h l' :=
 ⟨ho.le, fun o hm => ho.is o (hp.mem_iff.2 hm), fun o hm => ho.own o (hp.mem_iff.2 hm), (hp.pairwise_iff fun {a b} hab id hb ha => hab id ha hb).1 ho.apart⟩
structure Window where
 From : Int
 Until : Int
 deriving DecidableEq
@[simp] def Window.cs (w : Window) : List AVal := [.int .i64 w.From, .int .i64 w.Until]
@[simp] theorem Window.eta (w : Window) : Window.mk w.From w.Until = w := rfl
structure Lot where
 Id : Int
 Item : List UInt8
 From : Int
 Until : Int
 Qty : Int
 Arrived : Bool
 deriving DecidableEq
@[simp] def Lot.cs (l : Lot) : List AVal := [.int .i64 l.Id, .str l.Item, .int .i64 l.From, .int .i64 l.Until, .int .i64 l.Qty, .bool l.Arrived]
def lotF : Flat Lot where
 cs := Lot.cs
 es := 6
 sh := [.i .i64, .s, .i .i64, .i .i64, .i .i64, .b]
 len _ := rfl
 pos := by omega
 eq a b := by
  cases a; cases b
  simp
structure Use where
 Want : Int
 Lot : Int
 Qty : Int
 deriving DecidableEq
@[simp] def Use.cs (u : Use) : List AVal := [.int .i64 u.Want, .int .i64 u.Lot, .int .i64 u.Qty]
structure Want where
 Item : List UInt8
 Day : Int
 Qty : Int
 deriving DecidableEq
structure Part where
 Item : List UInt8
 Qty : Int
 deriving DecidableEq
@[simp] def Part.cs (u : Part) : List AVal := [.str u.Item, .int .i64 u.Qty]
def partF : Flat Part where
 cs := Part.cs
 es := 2
 sh := [.s, .i .i64]
 len _ := rfl
 pos := by omega
 eq a b := by
  cases a; cases b
  simp
theorem u8_eq (a b : UInt8) : decide ((a.toNat : Int) = b.toNat) = decide (a = b) := by
 rw [decide_eq_decide]
 constructor
 ·intro h; exact UInt8.toNat_inj.1 (by omega)
 ·intro h; rw [h]
structure Line where
 Id : Int
 Item : List UInt8
 Qty : Int
 Asked : Int
 Rank : Int
 State : UInt8
 Day : Int
 Code : List UInt8
 deriving DecidableEq
@[simp] def Line.cs (u : Line) : List AVal := [.int .i64 u.Id, .str u.Item, .int .i64 u.Qty, .int .i64 u.Asked, .int .i64 u.Rank, .int .u8 (u.State.toNat : Int), .int .i64 u.Day, .str u.Code]
def lineF : Flat Line where
 cs := Line.cs
 es := 8
 sh := [.i .i64, .s, .i .i64, .i .i64, .i .i64, .i .u8, .i .i64, .s]
 len _ := rfl
 pos := by omega
 eq a b := by
  cases a; cases b
  simp [u8_eq]
def bS : Scal UInt8 where
 c b := .int .u8 b.toNat
 cell _ := rfl
 eql a b := by rw [V.bin_eql, u8_eq]
 neq a b := by rw [V.bin_neq, u8_eq]
abbrev bc : UInt8 → List AVal := bS.cs
def tS : Scal (List UInt8) where
 c b := .str b
 cell _ := rfl
 eql a b := by rw [V.bin_seql]
 neq a b := by rw [V.bin_sneq]
abbrev tc : List UInt8 → List AVal := tS.cs
theorem wrap_u8 (n : Int) : IntKind.u8.wrap n = n % 256 := by
 simp [IntKind.wrap, IntKind.bits, IntKind.signed]
theorem u8_wrapN (n : Nat) : IntKind.u8.wrap (n : Int) = ((UInt8.ofNat n).toNat : Int) := by
 rw [wrap_u8]; simp
def byt (m : Int) : UInt8 := UInt8.ofNat (m % 256).toNat
theorem byt_nat (m : Int) : ((byt m).toNat : Int) = m % 256 := by
 have h1 := Int.emod_nonneg m (show (256 : Int) ≠ 0 by omega)
 have h2 := Int.emod_lt_of_pos m (show (0 : Int) < 256 by omega)
 simp [byt]
 omega
theorem u8_byt (m : Int) : IntKind.u8.wrap m = ((byt m).toNat : Int) := by rw [wrap_u8, byt_nat]
theorem byt_congr {m n : Int} (h : m % 256 = n % 256) : byt m = byt n := by unfold byt; rw [h]
theorem bin_shr {k j : IntKind} {a b : Int} (h0 : 0 ≤ b) (h1 : b < k.bits) : V.bin .shr (.int k a) (.int j b) = some (.int k (a.fdiv (2 ^ b.toNat))) := by
 simp only [V.bin, V.shift]
 rw [if_neg (by omega), Nat.min_eq_left (by omega)]
theorem bytesOf_bc : ∀ s : List UInt8, V.bytesOf? (s.map bc).flatten = some s
 | [] => rfl
 | a :: r => by
  have := bytesOf_bc r
  simp only [List.map_cons, List.flatten_cons, List.cons_append, List.nil_append] at this ⊢
  simp only [V.bytesOf?, this]
  simp [V.byteOf?, bS]
theorem bytesStr_bc {h : AHeap} {x : AVal} {s : List UInt8} {R : List (List AVal)} (hx : SlX h 1 x (s.map bc) R) (K : AVal → Prop) : (B.bytesStr h x K : Prop) = K (.str s) := by
 have h1 := hx.srcLen
 have h2 := hx.rdv
 rw [List.length_map] at h1 h2
 simp only [B.bytesStr, A.bytesStr, h1, h2, bytesOf_bc]
structure TellP where
 Err : Int
 Id : Int
 Day : Int
 Code : List UInt8
 State : UInt8
 Lots : List Lot
 Uses : List Use
 deriving DecidableEq
@[simp] def TellP.cs (t : TellP) (x y : AVal) : List AVal := [.int .i64 t.Err, .int .i64 t.Id, .int .i64 t.Day, .str t.Code, .int .u8 (t.State.toNat : Int), x, y]
structure TellAt (h : AHeap) (t : TellP) (x y : AVal) : Prop where
 lots : ∃ R, SlX h 6 x (t.Lots.map Lot.cs) R
 uses : ∃ R, SlX h 3 y (t.Uses.map Use.cs) R
theorem TellAt.mono {h H : AHeap} {t : TellP} {x y : AVal} (ht : TellAt h t x y) (hle : h.le H) : TellAt H t x y := by
 obtain ⟨⟨R, a⟩, ⟨S, b⟩⟩ := ht
 exact ⟨⟨R, a.mono hle⟩, ⟨S, b.mono hle⟩⟩
def inI64 (n : Int) : Prop := -9223372036854775808 ≤ n ∧ n ≤ 9223372036854775807
def Lot.ok (l : Lot) : Prop := inI64 l.Id ∧ inI64 l.Qty
def Use.ok (u : Use) : Prop := inI64 u.Want ∧ inI64 u.Lot ∧ inI64 u.Qty
def TellP.ok (t : TellP) : Prop := inI64 t.Id ∧ (∀ l ∈ t.Lots, l.ok) ∧ ∀ u ∈ t.Uses, u.ok
theorem u8_of {n : Int} (h1 : IntKind.u8.min ≤ n) (h2 : n ≤ IntKind.u8.max) : ((UInt8.ofNat n.toNat).toNat : Int) = n := by
 simp [IntKind.min, IntKind.max, IntKind.bits, IntKind.signed] at h1 h2
 simp
 omega
abbrev tyWindow : Ty := .st [.i .i64, .i .i64]
abbrev tyLot : Ty := .st [.i .i64, .s, tyWindow, .i .i64, .b]
abbrev tyPart : Ty := .st [.s, .i .i64]
abbrev tyLine : Ty := .st [.i .i64, .s, .i .i64, .i .i64, .i .i64, .i .u8, .i .i64, .s]
theorem i64_of {n : Int} (h1 : IntKind.i64.min ≤ n) (h2 : n ≤ IntKind.i64.max) : inI64 n := by
 simp [IntKind.min, IntKind.max, IntKind.bits, IntKind.signed] at h1 h2
 exact ⟨h1, h2⟩
theorem arg_sliceP {T : Type} {H : AHeap} {bytes es : Nat} {e : Ty} {v : AVal} (cs : T → List AVal) (P : T → Prop) (hd : ∀ p, AbsOk H e p → ∃ t, p = cs t ∧ P t) (h : AbsOk H (.sl bytes es e) [v]) :
  ∃ L : List T, SlIs H es v (L.map cs) ∧ L.length * bytes ≤ reach ∧ ∀ t ∈ L, P t := by
 obtain ⟨L, h1, h2⟩ := arg_slice (T := { t : T // P t }) (fun t => cs t.1) (fun p hp => by obtain ⟨t, e, k⟩ := hd p hp; exact ⟨⟨t, k⟩, e⟩) h
 refine ⟨L.map (·.1), ?_, by simpa using h2, fun t ht => ?_⟩
 ·rw [List.map_map]; exact h1
 ·obtain ⟨u, _, rfl⟩ := List.mem_map.1 ht; exact u.2
theorem dWindow {H : AHeap} {p : List AVal} (h : AbsOk H tyWindow p) : ∃ w : Window, p = w.cs := by
 obtain ⟨a, r, rfl, ⟨n, rfl, _⟩, ⟨b, r2, rfl, ⟨m, rfl, _⟩, hr⟩⟩ := h
 cases hr
 exact ⟨⟨n, m⟩, rfl⟩
def cA : Code → Code
 | .seq a _ => a
 | .cond _ a _ => a
 | .block _ b => b
 | .loop b => b
 | .scope b => b
 | _ => .skip
def cB : Code → Code
 | .seq _ b => b
 | .cond _ _ b => b
 | _ => .skip
def cI : Code → Nat
 | .block i _ => i
 | _ => 0
def isS : Code → Bool
 | .seq _ _ => true
 | _ => false
def isK : Code → Bool
 | .block _ _ => true
 | _ => false
def rA : Code → Code
 | .rangeFunc _ _ a b => .seq a b
 | _ => .skip
def isR (t : Nat) (ps keep : List Nat) : Code → Bool
 | .rangeFunc (.tmp k) qs a b => Nat.beq k t && (natsEq qs.toList ps && (straight a && keep.all fun k => memB (cutL qs.toList a b) k && !memB ps k))
 | _ => false
def isL : Code → Bool
 | .loop _ => true
 | _ => false
section
variable {P : Program} {C : CSem} {I : Bx}
theorem eS (hC : CMono C) {c : Code} {Q : Ex → Slots → AHeap → Prop} {s : Slots} {h : AHeap} (X : Slots → AHeap → Prop) (ha : bwp P C I (cA c) (Ex.then X Q) s h) (hb : ∀ s h, X s h → bwp P C I (cB c) Q s h) (hk : isS c = true := by kernel_rfl) : bwp P C I c Q s h := by
 cases c <;> first | exact seqB hC rfl hb ha | cases hk
theorem eK {c : Code} {Q : Ex → Slots → AHeap → Prop} {s : Slots} {h : AHeap} (hb : bwp P C I (cA c) (Ex.inBlock (cI c) Q) s h) (hk : isK c = true := by kernel_rfl) : bwp P C I c Q s h := by
 cases c <;> first | exact hb | cases hk
theorem eL (hC : CMono C) {c : Code} {Q : Ex → Slots → AHeap → Prop} {s : Slots} {h : AHeap} (keep live : List Nat) (G : List AVal → List AVal → AHeap → (List AVal → AHeap → Prop) → Prop)
  (hr : LoopR (G (keep.map s)) (live.map s) h)
  (hG : ∀ (Y : List AVal → AHeap → Prop) (s : Slots) (h : AHeap), G (keep.map s) (live.map s) h Y → bwp P C I (cA c) (Ex.then (fun s h => Y (live.map s) h) Q) s h)
  (hk : isL c = true := by kernel_rfl) (hw : (keep.all fun k => !memB (writesB P I (cA c)) k) = true := by kernel_rfl) : bwp P C I c Q s h := by
 cases c <;> first | exact loopB hC keep live rfl hw hG hr | cases hk
theorem rk_nil {Q : Ex → Slots → AHeap → Prop} {s : Slots} : ∀ j h, RK [] j h → Q (unj j) s h := fun _ _ x => x.elim
theorem rk_cons {Q : Ex → Slots → AHeap → Prop} {s : Slots} {k : Nat} {p : AHeap → Prop} {r : List (Nat × (AHeap → Prop))} (h1 : ∀ h, p h → Q (unj k) s h) (h2 : ∀ j h, RK r j h → Q (unj j) s h) : ∀ j h, RK ((k, p) :: r) j h → Q (unj j) s h := by
 rintro j h (⟨rfl, x⟩ | x)
 ·exact h1 h x
 ·exact h2 j h x
theorem e0 {q p : Prop} (hR : p) (e : q = p := by kernel_rfl) : q := e.mpr hR
theorem natsEq_eq : ∀ {a b : List Nat}, natsEq a b = true → a = b
 | [], [], _ => rfl
 | x :: a, y :: b, h => by
  simp only [natsEq, Bool.and_eq_true] at h
  rw [Nat.eq_of_beq_eq_true h.1, natsEq_eq h.2]
theorem isR_spec {t : Nat} {ps keep : List Nat} {c : Code} (h : isR t ps keep c = true) : ∃ qs a b, c = .rangeFunc (.tmp t) qs a b ∧ qs.toList = ps ∧ straight a = true ∧ ∀ k ∈ keep, memB (cutL ps a b) k = true ∧ memB ps k = false := by
 cases c <;> (try cases h)
 rename_i g qs a b
 cases g <;> (try cases h)
 rename_i k
 simp only [isR, Bool.and_eq_true, List.all_eq_true, Bool.not_eq_true'] at h
 obtain ⟨h1, h2, h3, h4⟩ := h
 have e1 := Nat.eq_of_beq_eq_true h1
 have e2 := natsEq_eq h2
 subst e1 e2
 exact ⟨qs, a, b, rfl, rfl, h3, h4⟩
theorem mem_memB : ∀ {l : List Nat} {k : Nat}, k ∈ l → memB l k = true
 | x :: r, k, h => by
  simp only [memB]
  rcases List.mem_cons.1 h with rfl | h
  ·rw [Nat.beq_refl]; rfl
  ·rw [mem_memB h]; cases Nat.beq x k <;> rfl
theorem keep_setPs {ps keep : List Nat} {a b : Code} {s : Slots} (xs : List AVal) (hk : ∀ k ∈ keep, memB (cutL ps a b) k = true ∧ memB ps k = false) : keep.map (setPs ps xs (cutS (cutL ps a b) s)) = keep.map s := by
 refine List.map_congr_left fun k hk' => ?_
 obtain ⟨h1, h2⟩ := hk k hk'
 rw [setPs_other fun p hp e => by subst e; rw [mem_memB hp] at h2; cases h2]
 simp only [cutS, h1, cond_true]
theorem eR1 (hC : CMono C) {c : Code} {Q : Ex → Slots → AHeap → Prop} {s : Slots} {h : AHeap} (t p : Nat) (keep : List Nat) (G : List AVal → AVal → AHeap → (Nat → AHeap → Prop) → Prop) {K : Nat → AHeap → Prop}
  (hr : RangeG C (s t) (W1 (G (keep.map s))) h K) (hK : ∀ j h, K j h → Q (unj j) s h)
  (hW : ∀ (E : Nat → AHeap → Prop) (s : Slots) (h : AHeap), G (keep.map s) (s p) h E → bwp P C I (rA c) (fun e _ h2 => E (jn e) h2) s h)
  (hk : isR t [p] keep c = true := by kernel_rfl) : bwp P C I c Q s h := by
 obtain ⟨qs, a, b, rfl, hq, h1, h2⟩ := isR_spec hk
 refine rangeB hC rfl h1 hr hK fun xs h E w => ?_
 match xs, w with
 | [x], w =>
  refine ⟨by rw [← Array.length_toList, hq]; rfl, ?_⟩
  rw [hq]
  refine hW E _ h ?_
  rw [keep_setPs [x] h2]
  have : setPs [p] [x] (cutS (cutL [p] a b) s) p = x := by simp only [setPs, putS, Nat.beq_refl, cond_true]
  rw [this]; exact w
theorem eR2 (hC : CMono C) {c : Code} {Q : Ex → Slots → AHeap → Prop} {s : Slots} {h : AHeap} (t p q : Nat) (keep : List Nat) (G : List AVal → AVal → AVal → AHeap → (Nat → AHeap → Prop) → Prop) {K : Nat → AHeap → Prop}
  (hr : RangeG C (s t) (W2 (G (keep.map s))) h K) (hK : ∀ j h, K j h → Q (unj j) s h)
  (hW : ∀ (E : Nat → AHeap → Prop) (s : Slots) (h : AHeap), G (keep.map s) (s p) (s q) h E → bwp P C I (rA c) (fun e _ h2 => E (jn e) h2) s h)
  (hk : (isR t [p, q] keep c && !Nat.beq p q) = true := by kernel_rfl) : bwp P C I c Q s h := by
 rw [Bool.and_eq_true, Bool.not_eq_true'] at hk
 obtain ⟨qs, a, b, rfl, hq, h1, h2⟩ := isR_spec hk.1
 refine rangeB hC rfl h1 hr hK fun xs h E w => ?_
 match xs, w with
 | [x, y], w =>
  refine ⟨by rw [← Array.length_toList, hq]; rfl, ?_⟩
  rw [hq]
  refine hW E _ h ?_
  rw [keep_setPs [x, y] h2]
  have e1 : setPs [p, q] [x, y] (cutS (cutL [p, q] a b) s) p = x := by simp only [setPs, putS, Nat.beq_refl, hk.2, cond_true, cond_false]
  have e2 : setPs [p, q] [x, y] (cutS (cutL [p, q] a b) s) q = y := by simp only [setPs, putS, Nat.beq_refl, cond_true]
  rw [e1, e2]; exact w
theorem e1 {c : Code} {Q : Ex → Slots → AHeap → Prop} {s : Slots} {h : AHeap} {p : Prop} (hR : p) (e : bwp P C I c Q s h = p := by kernel_rfl) : bwp P C I c Q s h := e.mpr hR
theorem eF (hm : P.follows .mixedOrders = true) {f : FuncId} {fn : Func} {c : Code} {I : Bx} {args : List AVal} {h : AHeap} {Q : AVal → AHeap → Prop}
  (hx : CMono (AC P) → bwp P (AC P) I c (retB P I fn.results.toList (dn Q)) (startS args) h) (hf : P.funcs[f]? = some fn := by kernel_rfl) (hb : fn.body = some c := by kernel_rfl) (h1 : (fn.name == "runtime.NumGoroutine") = false := by kernel_rfl)
  (hc : codeIn fn.ntmps c = true := by kernel_rfl) (hne : Nat.beq f yieldF = false := by kernel_rfl) (hl : Nat.ble args.length fn.ntmps = true := by kernel_rfl) (hB : Nat.ble args.length I.B = true := by kernel_rfl) (hk : chkC P I c = true := by kernel_rfl) : AC P f args h Q :=
 AC_drop (AC_introB hm hf hb (callFunc_enter hf (by rw [hb]; rfl) h1) hc hne (Nat.le_of_ble_eq_true hl) (Nat.le_of_ble_eq_true hB) hk (hx (AC_cmono P)))
end
@[simp] def bytes_Equal.cps (C : CSem) (N : Nat → Nat) (v0 v1 : AVal) (h : AHeap) (Q : AVal → AHeap → Prop) : Prop :=
 B.bytesStr h v0 fun v6 =>
  B.bytesStr h v1 fun v8 =>
  B.pv (V.bin .eql v6 v8) fun v9 =>
  Q v9 h
def bytes_Equal.Imp (C : CSem) (N : Nat → Nat) : Prop := ∀ (v0 v1 : AVal) (h : AHeap) (Q : AVal → AHeap → Prop), bytes_Equal.cps C N v0 v1 h (dn Q) → C (N 273) [v0, v1] h Q
@[simp] def bytes_Compare.cps (C : CSem) (N : Nat → Nat) (v0 v1 : AVal) (h : AHeap) (Q : AVal → AHeap → Prop) : Prop :=
 B.call C (N 303) [v0, v1] h fun v7 h =>
  Q v7 h
def bytes_Compare.Imp (C : CSem) (N : Nat → Nat) : Prop := ∀ (v0 v1 : AVal) (h : AHeap) (Q : AVal → AHeap → Prop), bytes_Compare.cps C N v0 v1 h (dn Q) → C (N 274) [v0, v1] h Q
@[simp] def bytes_Clone.cps (C : CSem) (N : Nat → Nat) (v0 : AVal) (h : AHeap) (Q : AVal → AHeap → Prop) : Prop :=
 B.pv (V.eqSl .eql v0 .nils) fun v4 =>
  B.cond v4
  (Q .nils h)
  (B.appW h 1 1 .sz v0 fun v7 h =>
  Q v7 h)
def bytes_Clone.Imp (C : CSem) (N : Nat → Nat) : Prop := ∀ (v0 : AVal) (h : AHeap) (Q : AVal → AHeap → Prop), bytes_Clone.cps C N v0 h (dn Q) → C (N 428) [v0] h Q
@[simp] def bytes_HasPrefix.k1 (C : CSem) (N : Nat → Nat) (Q : AVal → AHeap → Prop) (v0 v1 : AVal) (h : AHeap) : Prop :=
 B.pv (V.lenSl v0) fun v6 =>
  B.pv (V.lenSl v1) fun v8 =>
  B.pv (V.bin .geq v6 v8) fun v9 =>
  B.gd h v9 true (fun K => K v0 h) fun v11 h =>
  B.gd h v9 true (fun K => K v1 h) fun v12 h =>
  B.gd h v9 true (fun K => B.pv (V.lenSl v12) fun v => K v h) fun v13 h =>
  B.gd h v9 true (fun K => B.pv (V.cutSl 1 v11 none (some v13)) fun v => K v h) fun v14 h =>
  B.gd h v9 true (fun K => K v1 h) fun v15 h =>
  B.gd h v9 true (fun K => B.call C (N 273) [v14, v15] h K) fun v16 h =>
  B.pick v9 v16 (.bool false) fun v17 =>
  Q v17 h
@[simp] def bytes_HasPrefix.cps (C : CSem) (N : Nat → Nat) (v0 v1 : AVal) (h : AHeap) (Q : AVal → AHeap → Prop) : Prop :=
 bytes_HasPrefix.k1 C N Q v0 v1 h
def bytes_HasPrefix.Imp (C : CSem) (N : Nat → Nat) : Prop := ∀ (v0 v1 : AVal) (h : AHeap) (Q : AVal → AHeap → Prop), bytes_HasPrefix.cps C N v0 v1 h (dn Q) → C (N 436) [v0, v1] h Q
@[simp] def code_Put.k1 (C : CSem) (N : Nat → Nat) (Q : AVal → AHeap → Prop) (v0 : AVal) (h : AHeap) : Prop :=
 B.pv (V.bin .neq v0 (.str [])) fun v4 =>
  B.gd h v4 true (fun K => K v0 h) fun v6 h =>
  B.gd h v4 true (fun K => B.call C (N 53) [v6] h K) fun v7 h =>
  B.gd h v4 true (fun K => B.pv (V.un .not v7) fun v => K v h) fun v8 h =>
  B.pick v4 v8 (.bool false) fun v9 =>
  B.cond v9
  (Q .nils h)
  (B.pv (V.lenStr v0) fun v11 =>
  B.pv (V.toInt .u8 v11) fun v12 =>
  B.strBytes h v0 fun v14 h =>
  B.call C (N 79) [v12, v14] h fun v15 h =>
  Q v15 h)
@[simp] def code_Put.cps (C : CSem) (N : Nat → Nat) (v0 : AVal) (h : AHeap) (Q : AVal → AHeap → Prop) : Prop :=
 code_Put.k1 C N Q v0 h
def code_Put.Imp (C : CSem) (N : Nat → Nat) : Prop := ∀ (v0 : AVal) (h : AHeap) (Q : AVal → AHeap → Prop), code_Put.cps C N v0 h (dn Q) → C (N 51) [v0] h Q
@[simp] def code_Right.k1 (C : CSem) (N : Nat → Nat) (Q : AVal → AHeap → Prop) (v0 : AVal) (h : AHeap) : Prop :=
 B.pv (V.bin .neq v0 (.str [])) fun v34 =>
  B.gd h v34 true (fun K => K v0 h) fun v36 h =>
  B.gd h v34 true (fun K => B.pv (V.lenStr v36) fun v => K v h) fun v37 h =>
  B.gd h v34 true (fun K => B.pv (V.bin .leq v37 (.int .i64 12)) fun v => K v h) fun v38 h =>
  B.pick v34 v38 (.bool false) fun v39 =>
  Q v39 h
@[simp] def code_Right.k2 (C : CSem) (N : Nat → Nat) (Q : AVal → AHeap → Prop) (Y1 : List AVal → AHeap → Prop) (v0 v6 : AVal) (h : AHeap) : Prop :=
 B.nextStr h v6 fun v7 h =>
  B.pv (V.ext 0 v7) fun v8 =>
  B.cond v8
  (B.pv (V.ext 1 v7) fun v9 =>
  B.pv (V.ext 2 v7) fun v10 =>
  B.pv (V.bin .geq v10 (.int .i32 65)) fun v13 =>
  B.gd h v13 true (fun K => K v10 h) fun v15 h =>
  B.gd h v13 true (fun K => B.pv (V.bin .leq v15 (.int .i32 90)) fun v => K v h) fun v16 h =>
  B.pick v13 v16 (.bool false) fun v17 =>
  B.cond v17
  (Y1 [] h)
  (B.pv (V.bin .gtr v9 (.int .i64 0)) fun v20 =>
  B.gd h v20 true (fun K => K v10 h) fun v22 h =>
  B.gd h v20 true (fun K => B.pv (V.bin .geq v22 (.int .i32 48)) fun v => K v h) fun v23 h =>
  B.gd h v20 true (fun K => K v23 h) fun v24 h =>
  B.gd h v24 true (fun K => K v10 h) fun v25 h =>
  B.gd h v24 true (fun K => B.pv (V.bin .leq v25 (.int .i32 57)) fun v => K v h) fun v26 h =>
  B.gd h v20 true (fun K => B.pick v24 v26 (.bool false) fun v => K v h) fun v27 h =>
  B.gd h v20 true (fun K => K v27 h) fun v28 h =>
  B.gd h v28 false (fun K => K v10 h) fun v29 h =>
  B.gd h v28 false (fun K => B.pv (V.bin .eql v29 (.int .i32 45)) fun v => K v h) fun v30 h =>
  B.gd h v20 true (fun K => B.pick v28 (.bool true) v30 fun v => K v h) fun v31 h =>
  B.pick v20 v31 (.bool false) fun v32 =>
  B.cond v32
  (Y1 [] h)
  (Q (.bool false) h)))
  (code_Right.k1 C N Q v0 h)
@[simp] def code_Right.l3 (C : CSem) (N : Nat → Nat) (Q : AVal → AHeap → Prop) (v0 v6 : AVal) : List AVal → AHeap → (List AVal → AHeap → Prop) → Prop
 | [], h, Y1 => code_Right.k2 C N Q Y1 v0 v6 h
 | _, _, _ => False
@[simp] def code_Right.cps (C : CSem) (N : Nat → Nat) (v0 : AVal) (h : AHeap) (Q : AVal → AHeap → Prop) : Prop :=
 B.rangeStr h v0 fun v6 h =>
  LoopR (code_Right.l3 C N Q v0 v6) [] h
def code_Right.Imp (C : CSem) (N : Nat → Nat) : Prop := ∀ (v0 : AVal) (h : AHeap) (Q : AVal → AHeap → Prop), code_Right.cps C N v0 h (dn Q) → C (N 53) [v0] h Q
@[simp] def code_row.cps (C : CSem) (N : Nat → Nat) (v0 v1 : AVal) (h : AHeap) (Q : AVal → AHeap → Prop) : Prop :=
 B.newO h (fillL [(0, none, v0)] (repL 1 [.int .u8 0])) fun i6 h =>
  B.appW h 1 1 (.sl i6 0 0 1 1 1) v1 fun v8 h =>
  Q v8 h
def code_row.Imp (C : CSem) (N : Nat → Nat) : Prop := ∀ (v0 v1 : AVal) (h : AHeap) (Q : AVal → AHeap → Prop), code_row.cps C N v0 v1 h (dn Q) → C (N 79) [v0, v1] h Q
@[simp] def code_Get.k1 (C : CSem) (N : Nat → Nat) (Q : AVal → AHeap → Prop) (v0 : AVal) (h : AHeap) : Prop :=
 B.pv (V.lenSl v0) fun v7 =>
  B.pv (V.bin .eql v7 (.int .i64 0)) fun v8 =>
  B.gd h v8 false (fun K => K v0 h) fun v10 h =>
  B.gd h v8 false (fun K => B.pv (V.lenSl v10) fun v => K v h) fun v11 h =>
  B.gd h v8 false (fun K => K v0 h) fun v12 h =>
  B.gd h v8 false (fun K => B.pv (V.idxS 1 v12 (.int .i64 0)) fun v => K v h) fun v13 h =>
  B.gd h v8 false (fun K => B.ld h v13 fun v => K v h) fun v14 h =>
  B.gd h v8 false (fun K => B.pv (V.toInt .i64 v14) fun v => K v h) fun v15 h =>
  B.gd h v8 false (fun K => B.pv (V.bin .add (.int .i64 1) v15) fun v => K v h) fun v16 h =>
  B.gd h v8 false (fun K => B.pv (V.bin .lss v11 v16) fun v => K v h) fun v17 h =>
  B.pick v8 (.bool true) v17 fun v18 =>
  B.cond v18
  (Q (.tup [(.str []), (.int .i64 0), (.bool false)]) h)
  (B.pv (V.idxS 1 v0 (.int .i64 0)) fun v21 =>
  B.ld h v21 fun v22 =>
  B.pv (V.toInt .i64 v22) fun v23 =>
  B.pv (V.bin .add (.int .i64 1) v23) fun v24 =>
  B.pv (V.cutSl 1 v0 (some (.int .i64 1)) (some v24)) fun v25 =>
  B.bytesStr h v25 fun v26 =>
  B.pv (V.bin .neq v26 (.str [])) fun v28 =>
  B.gd h v28 true (fun K => K v26 h) fun v30 h =>
  B.gd h v28 true (fun K => B.call C (N 53) [v30] h K) fun v31 h =>
  B.gd h v28 true (fun K => B.pv (V.un .not v31) fun v => K v h) fun v32 h =>
  B.pick v28 v32 (.bool false) fun v33 =>
  B.cond v33
  (Q (.tup [(.str []), (.int .i64 0), (.bool false)]) h)
  (B.pv (V.lenStr v26) fun v36 =>
  B.pv (V.bin .add (.int .i64 1) v36) fun v37 =>
  Q (.tup [v26, v37, (.bool true)]) h))
@[simp] def code_Get.cps (C : CSem) (N : Nat → Nat) (v0 : AVal) (h : AHeap) (Q : AVal → AHeap → Prop) : Prop :=
 code_Get.k1 C N Q v0 h
def code_Get.Imp (C : CSem) (N : Nat → Nat) : Prop := ∀ (v0 : AVal) (h : AHeap) (Q : AVal → AHeap → Prop), code_Get.cps C N v0 h (dn Q) → C (N 103) [v0] h Q
theorem u8_lt (b : UInt8) : b.toNat < 256 := b.toNat_lt
theorem nextStr_at {h : AHeap} {id : Nat} {b : Blk} {s : List UInt8} {pos : Nat} {K : AVal → AHeap → Prop} (hb : h id = some b) (ho : b.obj = some (.iter s pos)) :
  (B.nextStr h (.ptr id 0 0) K : Prop) = if pos < s.length then K (.tup [.bool true, .int .i64 pos, .int .i32 (A.rune s pos).1]) (upd h id { b with obj := some (.iter s (pos + (A.rune s pos).2)) }) else K (.tup [.bool false]) h := by
 simp only [B.nextStr, A.nextStr, hb, ho]
theorem get_bang {s : List UInt8} {pos : Nat} {b : UInt8} (hb : s[pos]? = some b) : ((⟨s.toArray⟩ : ByteArray).get! pos) = b := by
 simp [ByteArray.get!, hb]
theorem rune_ascii {s : List UInt8} {pos : Nat} {b : UInt8} (hb : s[pos]? = some b) (h : b.toNat < 128) : A.rune s pos = (b.toNat, 1) := by
 unfold A.rune Utf8.decode
 simp only [Nat.add_zero, get_bang hb]
 rw [if_pos h]
theorem rune_high {s : List UInt8} {pos : Nat} {b : UInt8} (hb : s[pos]? = some b) (h : 128 ≤ b.toNat) : 128 ≤ (A.rune s pos).1 := by
 unfold A.rune Utf8.decode
 simp only [Nat.add_zero, get_bang hb]
 rw [if_neg (by omega)]
 split
 ·split <;> simp_all [Utf8.runeError]
 ·split
  ·split <;> simp_all [Utf8.runeError]; omega
  ·split
   ·split <;> simp_all [Utf8.runeError]; omega
   ·simp [Utf8.runeError]
def codeCh (i : Nat) (b : UInt8) : Bool := (decide (65 ≤ b.toNat) && decide (b.toNat ≤ 90)) || (decide (0 < i) && ((decide (48 ≤ b.toNat) && decide (b.toNat ≤ 57)) || decide (b.toNat = 45)))
def codeTo (s : List UInt8) : Nat → Bool
 | 0 => true
 | n + 1 => codeTo s n && codeCh n (s.getD n 0)
def codeRight (s : List UInt8) : Bool := !s.isEmpty && decide (s.length ≤ 12) && codeTo s s.length
theorem codeTo_bad {s : List UInt8} {k : Nat} (h : codeTo s k = true) {b : UInt8} (hb : s[k]? = some b) (hc : codeCh k b = false) : ∀ n, k < n → codeTo s n = false
 | 0, h => by omega
 | n + 1, hn => by
  by_cases e : n = k
  ·subst e; simp [codeTo, List.getD, hb, hc]
  ·rw [codeTo, codeTo_bad h hb hc n (by omega)]; rfl
theorem codeTo_step {s : List UInt8} {k : Nat} (h : codeTo s k = true) {b : UInt8} (hb : s[k]? = some b) (hc : codeCh k b = true) : codeTo s (k + 1) = true := by
 simp [codeTo, List.getD, hb, hc, h]
theorem codeRight_bad {s : List UInt8} {k : Nat} (h : codeTo s k = true) {b : UInt8} (hb : s[k]? = some b) (hc : codeCh k b = false) : codeRight s = false := by
 have := codeTo_bad h hb hc s.length (List.getElem?_eq_some_iff.1 hb).1
 simp [codeRight, this]
def code_Right.Spec (C : CSem) (N : Nat → Nat) : Prop := ∀ (s : List UInt8) (h : AHeap) (Q : AVal → AHeap → Prop), Q (.bool (codeRight s)) h → C (N 53) [.str s] h Q
def itB (s : List UInt8) (k : Nat) : Blk := { cells := [], gens := [], next := 1, own := true, obj := some (.iter s k) }
theorem code_Right.spec (i : code_Right.Imp C N) : code_Right.Spec C N := by
 intro s h Q hq
 apply i
 simp only [code_Right.cps]
 intro id hid
 refine LoopR.intro (fun n vs hh => ∃ k, k + n = s.length ∧ vs = [] ∧ hh = upd h id (itB s k) ∧ codeTo s k = true) s.length ?_ ⟨0, by simp, rfl, rfl, rfl⟩
 rintro Y n vs hh ⟨k, hn, rfl, rfl, hc⟩ hY
 simp only [code_Right.l3, code_Right.k2]
 rw [nextStr_at (upd_same ..) rfl]
 have hle : h.le (upd h id (itB s k)) := le_upd _ hid
 split
 ·rename_i hk
  obtain ⟨b, hb⟩ := get_lt hk
  by_cases hlt : b.toNat < 128
  ·rw [rune_ascii hb hlt, upd_upd]
   have next : codeCh k b = true → Y [] (upd h id { cells := (itB s k).cells, gens := (itB s k).gens, next := (itB s k).next, own := (itB s k).own, obj := some (.iter s (k + 1)) }) := fun hcc =>
    hY (n - 1) _ _ (by omega) ⟨k + 1, by omega, rfl, rfl, codeTo_step hc hb hcc⟩
   simp +contextual -dsimp
   refine B.cond_bool (fun h1 => ?_) (fun h1 => ?_)
   ·exact next (by simp at h1; simp [codeCh]; omega)
   ·simp +contextual -dsimp
    refine B.cond_bool (fun h2 => ?_) (fun h2 => ?_)
    ·exact next (by simp at h2; simp [codeCh]; omega)
    ·have := codeRight_bad hc hb (by simp at h1 h2; simp [codeCh]; omega)
     rw [this] at hq
     exact dn_le (le_upd _ hid) hq
  ·have hr := rune_high hb (by omega)
   have := codeRight_bad hc hb (by simp [codeCh]; omega)
   rw [this] at hq
   simp +contextual -dsimp
   refine B.cond_bool (fun h1 => ?_) (fun h1 => ?_)
   ·simp at h1; omega
   ·simp +contextual -dsimp
    refine B.cond_bool (fun h2 => ?_) (fun h2 => ?_)
    ·simp at h2; omega
    ·exact dn_le (le_upd _ hid) hq
 ·have hk : k = s.length := by omega
  subst hk
  have : codeRight s = (!decide (s = []) && decide ((s.length : Int) ≤ 12)) := by
   unfold codeRight
   rw [hc, Bool.and_true]
   cases s with
   | nil => rfl
   | cons a r => simp; omega
  rw [this] at hq
  simp +contextual -dsimp
  exact dn_le hle hq
theorem idxStr_at {s : List UInt8} {k : Nat} {b : UInt8} (hb : s[k]? = some b) : V.idxStr (.str s) (.int .i64 (k : Int)) = some (.int .u8 b.toNat) := by
 simp [V.idxStr, hb]
theorem bc_flat (s : List UInt8) : (s.map bc).flatten = s.map fun b => AVal.int .u8 b.toNat := by
 induction s with
 | nil => rfl
 | cons a r ih => simp only [List.map_cons, List.flatten_cons, ih]; rfl
theorem SlX.sliceIn {T : Type} {h : AHeap} {es : Nat} {x : AVal} {f : T → List AVal} {L : List T} {R : List (List AVal)} (hs : SlX h es x (L.map f) R) (hes : 0 < es) {lo hi : Nat} {a b : Option AVal} (ha : a = none ∧ lo = 0 ∨ ∃ k, a = some (.int k lo)) (hb : b = none ∧ hi = L.length ∨ ∃ k, b = some (.int k hi)) (h1 : lo ≤ hi) (h2 : hi ≤ L.length) :
  ∃ x' R', V.cutSl es x a b = some x' ∧ SlX h es x' (((L.take hi).drop lo).map f) R' ∧ foot x' = foot x := by
 obtain ⟨x', e1, e2, e3⟩ := hs.slice hes ha (by simpa using hb) h1 (by simp; omega)
 refine ⟨x', (L.map f ++ R).drop hi, e1, ?_, e3⟩
 rwa [List.take_append_of_le_length (by simpa using h2), ← List.map_take, ← List.map_drop] at e2
def codePut (s : List UInt8) : List UInt8 := if !s.isEmpty && !codeRight s then [] else UInt8.ofNat s.length :: s
theorem codePut_len (s : List UInt8) : (codePut s).length ≤ 13 := by
 unfold codePut
 split
 ·simp
 ·rename_i h
  cases s with
  | nil => simp
  | cons a r => simp [codeRight] at h ⊢; omega
theorem codeRight_len {s : List UInt8} (h : codeRight s = true) : s.length ≤ 12 := by
 simp only [codeRight, Bool.and_eq_true, decide_eq_true_eq] at h; omega
def code_row.Spec (C : CSem) (N : Nat → Nat) : Prop := ∀ (a : UInt8) (y : AVal) (M : List UInt8) (R : List (List AVal)) (h : AHeap) (Q : AVal → AHeap → Prop), SlX h 1 y (M.map bc) R → M.length ≤ 100000000 →
 (∀ x' h', Owns h h' [.sl 1 x' ((a :: M).map bc) []] → Q x' h') → C (N 79) [.int .u8 (a.toNat : Int), y] h Q
theorem code_row.spec (i : code_row.Imp C N) : code_row.Spec C N := by
 intro a y M R h Q hy hl hq
 apply i
 simp -dsimp
 intro id hid
 have ho := (Owns.start h).newSl (id := id) (n := 1) (cp := 1) (es := 1) (cs := [.int .u8 (a.toNat : Int)]) (L := [bc a]) (R := []) hid (by simp) rfl (by simp) rfl
 exact ho.appW 0 rfl (hy.mono ho.le) (by omega) (by simp; omega) (by simp [maxLen]; omega) fun x' h' ho' _ => dn_same (hq x' h' ho')
def code_Put.Spec (C : CSem) (N : Nat → Nat) : Prop := ∀ (s : List UInt8) (h : AHeap) (Q : AVal → AHeap → Prop), (∀ x' h', Owns h h' [.sl 1 x' ((codePut s).map bc) []] → Q x' h') → C (N 51) [.str s] h Q
theorem codePut_bad {s : List UInt8} (h : (!decide (s = []) && !codeRight s) = true) : codePut s = [] := by
 unfold codePut
 rw [if_pos]
 cases s <;> simp_all
theorem codePut_good {s : List UInt8} (h : (!decide (s = []) && !codeRight s) = false) : codePut s = UInt8.ofNat s.length :: s ∧ s.length ≤ 12 := by
 unfold codePut
 cases s with
 | nil => simp
 | cons a r =>
  simp only [List.isEmpty_cons, Bool.not_false, Bool.true_and]
  have h : codeRight (a :: r) = true := by simpa using h
  rw [h]; exact ⟨rfl, codeRight_len h⟩
theorem code_Put.spec (i : code_Put.Imp C N) (s1 : code_Right.Spec C N) (s2 : code_row.Spec C N) : code_Put.Spec C N := by
 intro s h Q hq
 apply i
 simp +contextual -dsimp
 refine B.gdb_call (fun _ _ hq => s1 _ _ _ hq) ?_
 simp +contextual -dsimp
 refine B.cond_bool (fun hb => ?_) (fun hb => ?_)
 ·rw [codePut_bad hb] at hq
  exact dn_same (hq _ _ ((Owns.start h).nils 1))
 ·obtain ⟨e1, e2⟩ := codePut_good hb
  rw [e1] at hq
  simp +contextual -dsimp
  refine ⟨by omega, fun id hid => ?_⟩
  have ho := (Owns.start h).newSl (id := id) (n := s.length) (cp := s.length) (es := 1) (cs := s.map fun b => .int .u8 b.toNat) (L := s.map bc) (R := []) hid (by simp) (by simp) (by simp) (by rw [List.append_nil, bc_flat])
  rw [u8_wrapN]
  refine s2 (UInt8.ofNat s.length) _ s [] _ _ (ho.slAt 0 rfl) (by omega) fun x' h' ho' => ?_
  exact dn_same (hq _ _ (ho'.back ho.le))
def codeGet : List UInt8 → List UInt8 × Nat × Bool
 | [] => ([], 0, false)
 | c :: r => if r.length < c.toNat ∨ (r.take c.toNat ≠ [] ∧ codeRight (r.take c.toNat) = false) then ([], 0, false) else (r.take c.toNat, 1 + c.toNat, true)
theorem codeGet_cons (c : UInt8) (r : List UInt8) : codeGet (c :: r) = if r.length < c.toNat ∨ (r.take c.toNat ≠ [] ∧ codeRight (r.take c.toNat) = false) then ([], 0, false) else (r.take c.toNat, 1 + c.toNat, true) := rfl
@[simp] def cg (x : List UInt8 × Nat × Bool) : AVal := .tup [.str x.1, .int .i64 x.2.1, .bool x.2.2]
def code_Get.Spec (C : CSem) (N : Nat → Nat) : Prop := ∀ (x : AVal) (b : List UInt8) (R : List (List AVal)) (h : AHeap) (Q : AVal → AHeap → Prop), SlX h 1 x (b.map bc) R → b.length < 4611686018427387904 → Q (cg (codeGet b)) h → C (N 103) [x] h Q
theorem code_Get.spec (i : code_Get.Imp C N) (s1 : code_Right.Spec C N) : code_Get.Spec C N := by
 intro x b R h Q hx hl hq
 apply i
 have hlx := hx.lenSl
 rw [List.length_map] at hlx
 cases b with
 | nil =>
  simp +contextual -dsimp [hlx]
  exact dn_same hq
 | cons c r =>
  have e0 := hx.idxN (k := .i64) (i := 0) (by simp)
  have e1 : A.ldv h (elp 1 x 0 0) = some (.int .u8 c.toNat) := hx.cell (by simp; rfl)
  have hc := u8_lt c
  have e2 : IntKind.i64.wrap (c.toNat : Int) = (c.toNat : Int) := wrap_i64 (by omega) (by omega)
  have e3 : IntKind.i64.wrap (1 + (c.toNat : Int)) = 1 + (c.toNat : Int) := wrap_i64 (by omega) (by omega)
  have hI : ((1 + c.toNat : Nat) : Int) = 1 + (c.toNat : Int) := by omega
  simp only [Int.ofNat_eq_natCast, Int.natCast_zero] at e0
  simp +contextual -dsimp [hlx, e0, e1, e2, e3]
  simp only [List.length_cons] at hl
  refine B.cond_bool (fun hb => ?_) (fun hb => ?_) <;> simp at hb
  ·have : codeGet (c :: r) = ([], 0, false) := by rw [codeGet_cons, if_pos]; left; omega
   rw [this] at hq
   exact dn_same hq
  ·obtain ⟨x', R', e4, e5, _⟩ := hx.sliceIn (by omega) (lo := 1) (hi := 1 + c.toNat) (a := some (.int .i64 1)) (b := some (.int .i64 ((1 + c.toNat : Nat) : Int))) (.inr ⟨_, rfl⟩) (.inr ⟨_, rfl⟩) (by omega) (by simp; omega)
   have e6 : ((c :: r).take (1 + c.toNat)).drop 1 = r.take c.toNat := by rw [Nat.add_comm, List.take_succ_cons, List.drop_one, List.tail_cons]
   rw [e6] at e5
   rw [hI] at e4
   simp +contextual -dsimp [e0, e1, e2, e3, e4, bytesStr_bc e5]
   refine B.gdb_call (fun _ _ hq => s1 _ _ _ hq) ?_
   simp +contextual -dsimp
   refine B.cond_bool (fun hd => ?_) (fun hd => ?_)
   ·have : codeGet (c :: r) = ([], 0, false) := by rw [codeGet_cons, if_pos]; right; simpa using hd
    rw [this] at hq
    exact dn_same hq
   ·have hlen : (r.take c.toNat).length = c.toNat := by simp; omega
    have : codeGet (c :: r) = (r.take c.toNat, 1 + c.toNat, true) := by
     rw [codeGet_cons, if_neg]
     rintro (h1 | ⟨h1, h2⟩)
     ·omega
     ·have h3 : c.toNat ≠ 0 := fun e => h1 (by simp [e])
      have h4 : r ≠ [] := fun e => h1 (by simp [e])
      simp [h2, h3, h4] at hd
    rw [this] at hq
    simp only [cg, hI] at hq
    simp +contextual -dsimp
    rw [show ((min c.toNat r.length : Nat) : Int) = (c.toNat : Int) by omega, e3]
    exact dn_same hq
end Go.Ab
namespace Go.Ab
variable {P : Program} {w0 : World} {ρ : Locs} {h H : AHeap} {w : World}
theorem addr_add_add (a : Addr) (i j : Nat) (ha : a.spot = none) : (a.add i).add j = a.add (i + j) := by
 rw [addr_add_none _ _ ha, addr_add_none _ _ rfl, addr_add_none _ _ ha, Nat.add_assoc]
theorem loadBytes_run : ∀ (bs : List UInt8) (a : Addr) (acc : ByteArray), a.spot = none → (∀ j (hj : j < bs.length), w.cell? (a.add j) = some (.int .u8 (bs[j].toNat : Int))) → (Extern.Bytes.loadBytes a bs.length acc).run P w = .ok (bs.foldl (fun x b => x.push b) acc) w
 | [], a, acc, _, _ => rfl
 | b :: bs, a, acc, ha, h => by
  have h0 := h 0 (by simp)
  have e0 : a.add 0 = a := by rw [addr_add_none _ _ ha]; cases a; simp at ha; subst ha; rfl
  rw [e0] at h0
  have ih := loadBytes_run bs (a.add 1) (acc.push b) (by rw [addr_add_none _ _ ha]) fun j hj => by
   rw [addr_add_add _ _ _ ha]
   have := h (j + 1) (by simpa using hj)
   rw [show 1 + j = j + 1 by omega]
   simpa using this
  have hl : (load a).run P w = .ok (.int .u8 (b.toNat : Int)) w := by simp [h0]
  have hb : ((b.toNat : Int).toNat).toUInt8 = b := by simp
  simp only [List.length_cons, Extern.Bytes.loadBytes, Sem.run_bind, List.foldl_cons, hl, Result.andThen_ok]
  rw [hb]
  exact ih
theorem foldl_pushB : ∀ (bs : List UInt8) (acc : ByteArray), (bs.foldl (fun x b => x.push b) acc).data.toList = acc.data.toList ++ bs
 | [], acc => by simp
 | b :: bs, acc => by rw [List.foldl_cons, foldl_pushB bs]; simp [ByteArray.push]
theorem VRels.at : ∀ {as1 : List AVal} {l : List Value}, VRels ρ as1 l → ∀ {j : Nat} {a : AVal}, as1[j]? = some a → ∃ u, l[j]? = some u ∧ VRel ρ a u
 | [], _, _, j, a, h => by simp at h
 | x :: as1, _, ⟨u, us, rfl, h1, h2⟩, 0, a, h => by simp at h; subst h; exact ⟨u, rfl, h1⟩
 | x :: as1, _, ⟨u, us, rfl, h1, h2⟩, j + 1, a, h => by
  obtain ⟨v, e1, e2⟩ := VRels.at h2 (j := j) (by simpa using h)
  exact ⟨v, by simpa using e1, e2⟩
theorem bcs_flat : ∀ bs : List UInt8, (bs.map bc).flatten = bs.map fun b => AVal.int .u8 (b.toNat : Int)
 | [] => rfl
 | b :: bs => by rw [List.map_cons, List.flatten_cons, bcs_flat bs]; rfl
theorem bytesOf_run (hR : R w0 ρ H w) (hle : h.le H) {x : AVal} {bs : List UInt8} {S : List (List AVal)} (hs : SlX h 1 x (bs.map bc) S) {v : Value} (hv : VRel ρ x v) :
  ∃ b : ByteArray, (Extern.Bytes.bytesOf v).run P w = .ok b w ∧ b.data.toList = bs := by
 have hrd := hs.rdv
 rw [List.length_map] at hrd
 obtain ⟨l, h1, h2, h3, h4, h5⟩ := rdv_sound (P := P) hR hle hrd hv
 rcases hs.at_ with ⟨e1, e2, rfl | rfl⟩ | ⟨id, g, off, cp, b, hi, rfl, k1, k2, k3, k4, k5, k6⟩
 ·have : bs = [] := by simpa using e1
  subst this
  cases hv
  exact ⟨.empty, rfl, rfl⟩
 ·have : bs = [] := by simpa using e1
  subst this
  obtain ⟨a, rfl⟩ := hv
  exact ⟨.empty, rfl, rfl⟩
 ·obtain ⟨a, c, rfl⟩ := rel_sl hv
  rw [List.length_map]
  rcases h5 with h5 | ⟨ad, m, c', e, h5⟩
  ·have : bs = [] := List.eq_nil_of_length_eq_zero h5
   subst this
   exact ⟨.empty, rfl, rfl⟩
  ·cases e
   by_cases hb0 : bs = []
   ·subst hb0; exact ⟨.empty, rfl, rfl⟩
   have hsp : a.spot = none := by
    obtain ⟨L, _, _, hh⟩ := hv
    rcases hh with ⟨cap, e, _⟩ | ⟨e, _, _, _⟩
    ·cases e; rfl
    ·rw [List.length_map] at e
     exact absurd (List.eq_nil_of_length_eq_zero e) hb0
   refine ⟨_, loadBytes_run bs a .empty hsp fun j hj => ?_, by rw [foldl_pushB]; rfl⟩
   obtain ⟨u, e1, e2⟩ := h2.at (j := j) (a := .int .u8 (bs[j].toNat : Int)) (by rw [bcs_flat, List.getElem?_map, List.getElem?_eq_getElem hj]; rfl)
   rw [h5 j u e1, show u = _ from e2]
theorem AC_bytealgCompare {f : FuncId} {fn : Func} (hf : P.funcs[f]? = some fn) (hname : (fn.name == "runtime.NumGoroutine") = false) (hb : fn.body.isNone = true) (hn : Extern.findNext fn = none) (he : Extern.find fn = some Extern.BytealgCompare.compare)
  {x y : AVal} {a b : List UInt8} {S T : List (List AVal)} {h : AHeap} {Q : AVal → AHeap → Prop} (hx : SlX h 1 x (a.map bc) S) (hy : SlX h 1 y (b.map bc) T) (hq : Q (.int .i64 (Lib.compareBytes a b)) h) : AC P f [x, y] h Q := by
 have hny : isY [x, y] = false := by
  rcases hx.at_ with ⟨_, _, rfl | rfl⟩ | ⟨_, _, _, _, _, _, rfl, _⟩ <;> rfl
 refine fun w0 ρ H w va hle hR hva => ⟨fun _ => ?_, fun h => by rw [hny] at h; cases h⟩
 obtain ⟨u, us, rfl, hu, v, vs, rfl, hv, rfl⟩ := hva.resolve_right (fun ⟨id, xs, us, L, e, _⟩ => by rw [e] at hny; cases hny)
 obtain ⟨c, c1, c2⟩ := bytesOf_run (P := P) hR hle hx hu
 obtain ⟨d, d1, d2⟩ := bytesOf_run (P := P) hR hle hy hv
 have hnf : ∀ {z : AVal} {c : List UInt8} {T : List (List AVal)} {u : Value}, SlX h 1 z (c.map bc) T → VRel ρ z u → ∀ l p q, u ≠ .func (.yield l) p q := fun {z c T u} hz hu l p q e => by
  subst e
  rcases hz.at_ with ⟨_, _, rfl | rfl⟩ | ⟨_, _, _, _, _, _, rfl, _⟩
  ·cases hu
  ·obtain ⟨_, e⟩ := hu; cases e
  ·obtain ⟨_, _, _, ⟨_, e, _⟩ | ⟨_, _, _, e⟩⟩ := hu <;> cases e
 refine .inr ⟨.int .i64 (Lib.compareBytes a b), w, ?_, ⟨_, rfl, ⟨⟨.int .i64 (Lib.compareBytes a b), ρ, h, H, Locs.le_refl ρ, rfl, hq, hle, Fr.refl h H, hR⟩⟩⟩, fun z hz => ?_⟩
 rotate_left
 ·rcases List.mem_cons.1 hz with rfl | hz
  ·exact hnf hx hu
  ·rcases List.mem_cons.1 hz with rfl | hz
   ·exact hnf hy hv
   ·cases hz
 rw [run_callFunc_extern hf hname hb hn he]
 have : (Extern.BytealgCompare.compare [u, v].toArray).run P w = .ok (.int .i64 (Lib.compareBytes a b)) w := by
  change Sem.run P (do pure (goInt (Extern.BytealgCompare.cmp (← Extern.Bytes.bytesOf u) (← Extern.Bytes.bytesOf v)))) w = _
  simp only [Sem.run_bind, c1, d1, Result.andThen_ok, Sem.run_pure]
  rw [Lib.cmp_eq, c2, d2]
  rfl
 rw [this]; rfl
end Go.Ab
namespace Go.Ab
def bytealg_Compare.Imp (C : CSem) (N : Nat → Nat) : Prop := ∀ (x y : AVal) (a b : List UInt8) (S T : List (List AVal)) (h : AHeap) (Q : AVal → AHeap → Prop), SlX h 1 x (a.map bc) S → SlX h 1 y (b.map bc) T → Q (.int .i64 (Lib.compareBytes a b)) h → C (N 303) [x, y] h Q
@[simp] def kit_SameBytes.k3 (C : CSem) (N : Nat → Nat) (Q : AVal → AHeap → Prop) (v0 v1 : AVal) (h : AHeap) : Prop :=
 B.pv (V.lenSl v0) fun v7 =>
  B.pv (V.lenSl v1) fun v9 =>
  B.pv (V.bin .neq v7 v9) fun v10 =>
  B.cond v10
  (Q (.bool false) h)
  (LoopR (sameS.l4  Q v0 v1) [(.int .i64 0)] h)
def kit_SameBytes.cps (C : CSem) (N : Nat → Nat) (v0 v1 : AVal) (h : AHeap) (Q : AVal → AHeap → Prop) : Prop :=
 kit_SameBytes.k3 C N Q v0 v1 h
def kit_SameBytes.Imp (C : CSem) (N : Nat → Nat) : Prop := ∀ (v0 v1 : AVal) (h : AHeap) (Q : AVal → AHeap → Prop), kit_SameBytes.cps C N v0 v1 h (dn Q) → C (N 34) [v0, v1] h Q
@[simp] def kit_SameLots.k3 (C : CSem) (N : Nat → Nat) (Q : AVal → AHeap → Prop) (v0 v1 : AVal) (h : AHeap) : Prop :=
 B.pv (V.lenSl v0) fun v7 =>
  B.pv (V.lenSl v1) fun v9 =>
  B.pv (V.bin .neq v7 v9) fun v10 =>
  B.cond v10
  (Q (.bool false) h)
  (LoopR (sameG.l4 6 [.i .i64, .s, .i .i64, .i .i64, .i .i64, .b] Q v0 v1) [(.int .i64 0)] h)
def kit_SameLots.cps (C : CSem) (N : Nat → Nat) (v0 v1 : AVal) (h : AHeap) (Q : AVal → AHeap → Prop) : Prop :=
 kit_SameLots.k3 C N Q v0 v1 h
def kit_SameLots.Imp (C : CSem) (N : Nat → Nat) : Prop := ∀ (v0 v1 : AVal) (h : AHeap) (Q : AVal → AHeap → Prop), kit_SameLots.cps C N v0 v1 h (dn Q) → C (N 74) [v0, v1] h Q
@[simp] def kit_SameItem.k1 (C : CSem) (N : Nat → Nat) (Q : AVal → AHeap → Prop) (v0 v1 : AVal) (h : AHeap) : Prop :=
 B.pv (A.boxN 4 v0) fun c2 =>
  B.pv (A.boxN 4 v1) fun c3 =>
  B.al c2 (B.pv (V.field1 0 c2) fun v6 =>
  B.al c3 (B.pv (V.field1 0 c3) fun v8 =>
  B.pv (V.bin .eql v6 v8) fun v9 =>
  B.al c2 (B.gd h v9 true (fun K => K .undef h) fun _ h =>
  B.gd h v9 true (fun K => B.pv (V.field1 1 c2) fun v => K v h) fun v12 h =>
  B.al c3 (B.gd h v9 true (fun K => K .undef h) fun _ h =>
  B.gd h v9 true (fun K => B.pv (V.field1 1 c3) fun v => K v h) fun v14 h =>
  B.gd h v9 true (fun K => B.pv (V.bin .eql v12 v14) fun v => K v h) fun v15 h =>
  B.pick v9 v15 (.bool false) fun v16 =>
  B.al c2 (B.gd h v16 true (fun K => K .undef h) fun _ h =>
  B.gd h v16 true (fun K => B.pv (V.field1 2 c2) fun v => K v h) fun v19 h =>
  B.al c3 (B.gd h v16 true (fun K => K .undef h) fun _ h =>
  B.gd h v16 true (fun K => B.pv (V.field1 2 c3) fun v => K v h) fun v21 h =>
  B.gd h v16 true (fun K => B.call C (N 132) [v19, v21] h K) fun v22 h =>
  B.pick v16 v22 (.bool false) fun v23 =>
  B.al c2 (B.gd h v23 true (fun K => K .undef h) fun _ h =>
  B.gd h v23 true (fun K => B.pv (V.field1 3 c2) fun v => K v h) fun v26 h =>
  B.al c3 (B.gd h v23 true (fun K => K .undef h) fun _ h =>
  B.gd h v23 true (fun K => B.pv (V.field1 3 c3) fun v => K v h) fun v28 h =>
  B.gd h v23 true (fun K => B.call C (N 133) [v26, v28] h K) fun v29 h =>
  B.pick v23 v29 (.bool false) fun v30 =>
  Q v30 h))))))))
@[simp] def kit_SameItem.cps (C : CSem) (N : Nat → Nat) (v0 v1 : AVal) (h : AHeap) (Q : AVal → AHeap → Prop) : Prop :=
 kit_SameItem.k1 C N Q v0 v1 h
def kit_SameItem.Imp (C : CSem) (N : Nat → Nat) : Prop := ∀ (v0 v1 : AVal) (h : AHeap) (Q : AVal → AHeap → Prop), kit_SameItem.cps C N v0 v1 h (dn Q) → C (N 110) [v0, v1] h Q
@[simp] def kit_SameState.k1 (C : CSem) (N : Nat → Nat) (Q : AVal → AHeap → Prop) (v0 v1 : AVal) (h : AHeap) : Prop :=
 B.pv (A.boxN 6 v0) fun c2 =>
  B.pv (A.boxN 6 v1) fun c3 =>
  B.al c2 (B.pv (V.field1 0 c2) fun v6 =>
  B.al c3 (B.pv (V.field1 0 c3) fun v8 =>
  B.pv (V.bin .eql v6 v8) fun v9 =>
  B.al c2 (B.gd h v9 true (fun K => K .undef h) fun _ h =>
  B.gd h v9 true (fun K => B.pv (V.field1 1 c2) fun v => K v h) fun v12 h =>
  B.al c3 (B.gd h v9 true (fun K => K .undef h) fun _ h =>
  B.gd h v9 true (fun K => B.pv (V.field1 1 c3) fun v => K v h) fun v14 h =>
  B.gd h v9 true (fun K => B.pv (V.bin .eql v12 v14) fun v => K v h) fun v15 h =>
  B.pick v9 v15 (.bool false) fun v16 =>
  B.al c2 (B.gd h v16 true (fun K => K .undef h) fun _ h =>
  B.gd h v16 true (fun K => B.pv (V.field1 2 c2) fun v => K v h) fun v19 h =>
  B.al c3 (B.gd h v16 true (fun K => K .undef h) fun _ h =>
  B.gd h v16 true (fun K => B.pv (V.field1 2 c3) fun v => K v h) fun v21 h =>
  B.gd h v16 true (fun K => B.pv (V.bin .eql v19 v21) fun v => K v h) fun v22 h =>
  B.pick v16 v22 (.bool false) fun v23 =>
  B.al c2 (B.gd h v23 true (fun K => K .undef h) fun _ h =>
  B.gd h v23 true (fun K => B.pv (V.field1 3 c2) fun v => K v h) fun v26 h =>
  B.al c3 (B.gd h v23 true (fun K => K .undef h) fun _ h =>
  B.gd h v23 true (fun K => B.pv (V.field1 3 c3) fun v => K v h) fun v28 h =>
  B.gd h v23 true (fun K => B.call C (N 134) [v26, v28] h K) fun v29 h =>
  B.pick v23 v29 (.bool false) fun v30 =>
  B.al c2 (B.gd h v30 true (fun K => K .undef h) fun _ h =>
  B.gd h v30 true (fun K => B.pv (V.field1 4 c2) fun v => K v h) fun v33 h =>
  B.al c3 (B.gd h v30 true (fun K => K .undef h) fun _ h =>
  B.gd h v30 true (fun K => B.pv (V.field1 4 c3) fun v => K v h) fun v35 h =>
  B.gd h v30 true (fun K => B.call C (N 74) [v33, v35] h K) fun v36 h =>
  B.pick v30 v36 (.bool false) fun v37 =>
  B.al c2 (B.gd h v37 true (fun K => K .undef h) fun _ h =>
  B.gd h v37 true (fun K => B.pv (V.field1 5 c2) fun v => K v h) fun v40 h =>
  B.al c3 (B.gd h v37 true (fun K => K .undef h) fun _ h =>
  B.gd h v37 true (fun K => B.pv (V.field1 5 c3) fun v => K v h) fun v42 h =>
  B.gd h v37 true (fun K => B.call C (N 135) [v40, v42] h K) fun v43 h =>
  B.pick v37 v43 (.bool false) fun v44 =>
  Q v44 h))))))))))))
@[simp] def kit_SameState.cps (C : CSem) (N : Nat → Nat) (v0 v1 : AVal) (h : AHeap) (Q : AVal → AHeap → Prop) : Prop :=
 kit_SameState.k1 C N Q v0 v1 h
def kit_SameState.Imp (C : CSem) (N : Nat → Nat) : Prop := ∀ (v0 v1 : AVal) (h : AHeap) (Q : AVal → AHeap → Prop), kit_SameState.cps C N v0 v1 h (dn Q) → C (N 116) [v0, v1] h Q
@[simp] def kit_SameParts.k3 (C : CSem) (N : Nat → Nat) (Q : AVal → AHeap → Prop) (v0 v1 : AVal) (h : AHeap) : Prop :=
 B.pv (V.lenSl v0) fun v7 =>
  B.pv (V.lenSl v1) fun v9 =>
  B.pv (V.bin .neq v7 v9) fun v10 =>
  B.cond v10
  (Q (.bool false) h)
  (LoopR (sameG.l4 2 [.s, .i .i64] Q v0 v1) [(.int .i64 0)] h)
def kit_SameParts.cps (C : CSem) (N : Nat → Nat) (v0 v1 : AVal) (h : AHeap) (Q : AVal → AHeap → Prop) : Prop :=
 kit_SameParts.k3 C N Q v0 v1 h
def kit_SameParts.Imp (C : CSem) (N : Nat → Nat) : Prop := ∀ (v0 v1 : AVal) (h : AHeap) (Q : AVal → AHeap → Prop), kit_SameParts.cps C N v0 v1 h (dn Q) → C (N 132) [v0, v1] h Q
@[simp] def kit_SameTexts.k3 (C : CSem) (N : Nat → Nat) (Q : AVal → AHeap → Prop) (v0 v1 : AVal) (h : AHeap) : Prop :=
 B.pv (V.lenSl v0) fun v7 =>
  B.pv (V.lenSl v1) fun v9 =>
  B.pv (V.bin .neq v7 v9) fun v10 =>
  B.cond v10
  (Q (.bool false) h)
  (LoopR (sameS.l4  Q v0 v1) [(.int .i64 0)] h)
def kit_SameTexts.cps (C : CSem) (N : Nat → Nat) (v0 v1 : AVal) (h : AHeap) (Q : AVal → AHeap → Prop) : Prop :=
 kit_SameTexts.k3 C N Q v0 v1 h
def kit_SameTexts.Imp (C : CSem) (N : Nat → Nat) : Prop := ∀ (v0 v1 : AVal) (h : AHeap) (Q : AVal → AHeap → Prop), kit_SameTexts.cps C N v0 v1 h (dn Q) → C (N 133) [v0, v1] h Q
@[simp] def kit_SameItems.k1 (C : CSem) (N : Nat → Nat) (Q : AVal → AHeap → Prop) (Y1 : List AVal → AHeap → Prop) (v0 v1 v5 : AVal) (h : AHeap) : Prop :=
 B.pv (V.lenSl v0) fun v13 =>
  B.pv (V.bin .lss v5 v13) fun v14 =>
  B.cond v14
  (B.pv (V.idxS 4 v0 v5) fun v19 =>
  B.ldn h v19 4 fun v20 =>
  B.pv (V.idxS 4 v1 v5) fun v23 =>
  B.ldn h v23 4 fun v24 =>
  B.call C (N 110) [v20, v24] h fun v25 h =>
  B.pv (V.un .not v25) fun v26 =>
  B.cond v26
  (Q (.bool false) h)
  (B.pv (V.bin .add v5 (.int .i64 1)) fun v16 =>
  Y1 [v16] h))
  (Q (.bool true) h)
@[simp] def kit_SameItems.l2 (C : CSem) (N : Nat → Nat) (Q : AVal → AHeap → Prop) (v0 v1 : AVal) : List AVal → AHeap → (List AVal → AHeap → Prop) → Prop
 | [v5], h, Y1 => kit_SameItems.k1 C N Q Y1 v0 v1 v5 h
 | _, _, _ => False
@[simp] def kit_SameItems.k3 (C : CSem) (N : Nat → Nat) (Q : AVal → AHeap → Prop) (v0 v1 : AVal) (h : AHeap) : Prop :=
 B.pv (V.lenSl v0) fun v7 =>
  B.pv (V.lenSl v1) fun v9 =>
  B.pv (V.bin .neq v7 v9) fun v10 =>
  B.cond v10
  (Q (.bool false) h)
  (LoopR (kit_SameItems.l2 C N Q v0 v1) [(.int .i64 0)] h)
@[simp] def kit_SameItems.cps (C : CSem) (N : Nat → Nat) (v0 v1 : AVal) (h : AHeap) (Q : AVal → AHeap → Prop) : Prop :=
 kit_SameItems.k3 C N Q v0 v1 h
def kit_SameItems.Imp (C : CSem) (N : Nat → Nat) : Prop := ∀ (v0 v1 : AVal) (h : AHeap) (Q : AVal → AHeap → Prop), kit_SameItems.cps C N v0 v1 h (dn Q) → C (N 134) [v0, v1] h Q
@[simp] def kit_SameLines.k3 (C : CSem) (N : Nat → Nat) (Q : AVal → AHeap → Prop) (v0 v1 : AVal) (h : AHeap) : Prop :=
 B.pv (V.lenSl v0) fun v7 =>
  B.pv (V.lenSl v1) fun v9 =>
  B.pv (V.bin .neq v7 v9) fun v10 =>
  B.cond v10
  (Q (.bool false) h)
  (LoopR (sameG.l4 8 [.i .i64, .s, .i .i64, .i .i64, .i .i64, .i .u8, .i .i64, .s] Q v0 v1) [(.int .i64 0)] h)
def kit_SameLines.cps (C : CSem) (N : Nat → Nat) (v0 v1 : AVal) (h : AHeap) (Q : AVal → AHeap → Prop) : Prop :=
 kit_SameLines.k3 C N Q v0 v1 h
def kit_SameLines.Imp (C : CSem) (N : Nat → Nat) : Prop := ∀ (v0 v1 : AVal) (h : AHeap) (Q : AVal → AHeap → Prop), kit_SameLines.cps C N v0 v1 h (dn Q) → C (N 135) [v0, v1] h Q
@[simp] def kit_Pick.k1 (C : CSem) (N : Nat → Nat) (Q : AVal → AHeap → Prop) (v0 v1 : AVal) (h : AHeap) : Prop :=
 B.pv (V.bin .lss v1 (.int .i64 1)) fun v6 =>
  B.cond v6
  (Q (.int .i64 0) h)
  (B.pv (V.bin .rem v0 v1) fun v9 =>
  B.pv (V.bin .lss v9 (.int .i64 0)) fun v11 =>
  B.cond v11
  (B.pv (V.bin .add v9 v1) fun v14 =>
  Q v14 h)
  (Q v9 h))
@[simp] def kit_Pick.cps (C : CSem) (N : Nat → Nat) (v0 v1 : AVal) (h : AHeap) (Q : AVal → AHeap → Prop) : Prop :=
 kit_Pick.k1 C N Q v0 v1 h
def kit_Pick.Imp (C : CSem) (N : Nat → Nat) : Prop := ∀ (v0 v1 : AVal) (h : AHeap) (Q : AVal → AHeap → Prop), kit_Pick.cps C N v0 v1 h (dn Q) → C (N 155) [v0, v1] h Q
@[simp] def kit_CopyLots.cps (C : CSem) (N : Nat → Nat) (v0 : AVal) (h : AHeap) (Q : AVal → AHeap → Prop) : Prop :=
 B.appW h 6 56 .nils v0 fun v6 h =>
  Q v6 h
def kit_CopyLots.Imp (C : CSem) (N : Nat → Nat) : Prop := ∀ (v0 : AVal) (h : AHeap) (Q : AVal → AHeap → Prop), kit_CopyLots.cps C N v0 h (dn Q) → C (N 229) [v0] h Q
@[simp] def kit_CopyItems.k1 (C : CSem) (N : Nat → Nat) (Q : AVal → AHeap → Prop) (Y1 : List AVal → AHeap → Prop) (v0 v3 v4 : AVal) (h : AHeap) : Prop :=
 B.pv (V.lenSl v0) fun v8 =>
  B.pv (V.bin .lss v4 v8) fun v9 =>
  B.cond v9
  (B.pv (V.idxS 4 v0 v4) fun v14 =>
  B.ldn h v14 4 fun v15 =>
  B.call C (N 361) [v15] h fun v16 h =>
  B.pv (V.setN 0 4 v16 (.agg [.str [], .int .i64 0, .nils, .nils])) fun c5 =>
  B.pv (V.fieldN 0 4 c5) fun v18 =>
  B.newO h (fillL [(0, some 4, v18)] (repL 1 [.str [], .int .i64 0, .nils, .nils])) fun i19 h =>
  B.appW h 4 72 v3 (.sl i19 0 0 1 4 1) fun v20 h =>
  B.pv (V.bin .add v4 (.int .i64 1)) fun v11 =>
  Y1 [v20, v11] h)
  (Q v3 h)
@[simp] def kit_CopyItems.l2 (C : CSem) (N : Nat → Nat) (Q : AVal → AHeap → Prop) (v0 : AVal) : List AVal → AHeap → (List AVal → AHeap → Prop) → Prop
 | [v3, v4], h, Y1 => kit_CopyItems.k1 C N Q Y1 v0 v3 v4 h
 | _, _, _ => False
@[simp] def kit_CopyItems.cps (C : CSem) (N : Nat → Nat) (v0 : AVal) (h : AHeap) (Q : AVal → AHeap → Prop) : Prop :=
 LoopR (kit_CopyItems.l2 C N Q v0) [.nils, (.int .i64 0)] h
def kit_CopyItems.Imp (C : CSem) (N : Nat → Nat) : Prop := ∀ (v0 : AVal) (h : AHeap) (Q : AVal → AHeap → Prop), kit_CopyItems.cps C N v0 h (dn Q) → C (N 354) [v0] h Q
@[simp] def kit_CopyItem.k1 (C : CSem) (N : Nat → Nat) (Q : AVal → AHeap → Prop) (v0 : AVal) (h : AHeap) : Prop :=
 B.pv (A.boxN 4 v0) fun c1 =>
  B.al c1 (B.pv (V.field1 2 c1) fun v4 =>
  B.call C (N 368) [v4] h fun v5 h =>
  B.al c1 (B.pv (V.setF 2 v5 c1) fun c1 =>
  B.al c1 (B.pv (V.field1 3 c1) fun v8 =>
  B.call C (N 369) [v8] h fun v9 h =>
  B.al c1 (B.pv (V.setF 3 v9 c1) fun c1 =>
  B.pv (V.fieldN 0 4 c1) fun v11 =>
  B.pv (V.setN 0 4 v11 (.agg [.str [], .int .i64 0, .nils, .nils])) fun c2 =>
  B.pv (oneOf (joinV (V.fieldN 0 4 c2) (some []))) fun v => Q v h))))
@[simp] def kit_CopyItem.cps (C : CSem) (N : Nat → Nat) (v0 : AVal) (h : AHeap) (Q : AVal → AHeap → Prop) : Prop :=
 kit_CopyItem.k1 C N Q v0 h
def kit_CopyItem.Imp (C : CSem) (N : Nat → Nat) : Prop := ∀ (v0 : AVal) (h : AHeap) (Q : AVal → AHeap → Prop), kit_CopyItem.cps C N v0 h (dn Q) → C (N 361) [v0] h Q
@[simp] def kit_CopyParts.cps (C : CSem) (N : Nat → Nat) (v0 : AVal) (h : AHeap) (Q : AVal → AHeap → Prop) : Prop :=
 B.appW h 2 24 .nils v0 fun v6 h =>
  Q v6 h
def kit_CopyParts.Imp (C : CSem) (N : Nat → Nat) : Prop := ∀ (v0 : AVal) (h : AHeap) (Q : AVal → AHeap → Prop), kit_CopyParts.cps C N v0 h (dn Q) → C (N 368) [v0] h Q
@[simp] def kit_CopyTexts.cps (C : CSem) (N : Nat → Nat) (v0 : AVal) (h : AHeap) (Q : AVal → AHeap → Prop) : Prop :=
 B.appW h 1 16 .nils v0 fun v6 h =>
  Q v6 h
def kit_CopyTexts.Imp (C : CSem) (N : Nat → Nat) : Prop := ∀ (v0 : AVal) (h : AHeap) (Q : AVal → AHeap → Prop), kit_CopyTexts.cps C N v0 h (dn Q) → C (N 369) [v0] h Q
@[simp] def kit_CopyState.k1 (C : CSem) (N : Nat → Nat) (Q : AVal → AHeap → Prop) (v0 : AVal) (h : AHeap) : Prop :=
 B.pv (A.boxN 6 v0) fun c1 =>
  B.al c1 (B.pv (V.field1 3 c1) fun v4 =>
  B.call C (N 354) [v4] h fun v5 h =>
  B.al c1 (B.pv (V.setF 3 v5 c1) fun c1 =>
  B.al c1 (B.pv (V.field1 4 c1) fun v8 =>
  B.call C (N 229) [v8] h fun v9 h =>
  B.al c1 (B.pv (V.setF 4 v9 c1) fun c1 =>
  B.al c1 (B.pv (V.field1 5 c1) fun v12 =>
  B.call C (N 437) [v12] h fun v13 h =>
  B.al c1 (B.pv (V.setF 5 v13 c1) fun c1 =>
  B.pv (V.fieldN 0 6 c1) fun v15 =>
  B.pv (V.setN 0 6 v15 (.agg [.int .i64 0, .int .i64 0, .int .i64 0, .nils, .nils, .nils])) fun c2 =>
  B.pv (oneOf (joinV (V.fieldN 0 6 c2) (some []))) fun v => Q v h))))))
@[simp] def kit_CopyState.cps (C : CSem) (N : Nat → Nat) (v0 : AVal) (h : AHeap) (Q : AVal → AHeap → Prop) : Prop :=
 kit_CopyState.k1 C N Q v0 h
def kit_CopyState.Imp (C : CSem) (N : Nat → Nat) : Prop := ∀ (v0 : AVal) (h : AHeap) (Q : AVal → AHeap → Prop), kit_CopyState.cps C N v0 h (dn Q) → C (N 420) [v0] h Q
@[simp] def kit_CopyLines.cps (C : CSem) (N : Nat → Nat) (v0 : AVal) (h : AHeap) (Q : AVal → AHeap → Prop) : Prop :=
 B.appW h 8 80 .nils v0 fun v6 h =>
  Q v6 h
def kit_CopyLines.Imp (C : CSem) (N : Nat → Nat) : Prop := ∀ (v0 : AVal) (h : AHeap) (Q : AVal → AHeap → Prop), kit_CopyLines.cps C N v0 h (dn Q) → C (N 437) [v0] h Q
@[simp] def law16_great.k1 (C : CSem) (N : Nat → Nat) (Q : AVal → AHeap → Prop) (Y1 : List AVal → AHeap → Prop) (v3 v4 c1 : AVal) (h : AHeap) : Prop :=
 B.al c1 (B.pv (V.field1 3 c1) fun v14 =>
  B.pv (V.lenSl v14) fun v15 =>
  B.pv (V.bin .lss v4 v15) fun v16 =>
  B.gd h v16 true (fun K => K v3 h) fun v18 h =>
  B.gd h v16 true (fun K => B.pv (V.bin .leq v18 (.int .i64 2000)) fun v => K v h) fun v19 h =>
  B.pick v16 v19 (.bool false) fun v20 =>
  B.cond v20
  (B.pv (V.bin .add v3 (.int .i64 1)) fun v24 =>
  B.al c1 (B.pv (V.field1 3 c1) fun v26 =>
  B.pv (V.idxS 4 v26 v4) fun v28 =>
  B.pv (V.fieldAddr 2 v28) fun v29 =>
  B.ld h v29 fun v30 =>
  B.pv (V.lenSl v30) fun v31 =>
  B.pv (V.bin .add v24 v31) fun v32 =>
  B.al c1 (B.pv (V.field1 3 c1) fun v34 =>
  B.pv (V.idxS 4 v34 v4) fun v36 =>
  B.pv (V.fieldAddr 3 v36) fun v37 =>
  B.ld h v37 fun v38 =>
  B.pv (V.lenSl v38) fun v39 =>
  B.pv (V.bin .add v32 v39) fun v40 =>
  B.pv (V.bin .add v4 (.int .i64 1)) fun v22 =>
  Y1 [v40, v22] h)))
  (B.pv (V.bin .gtr v3 (.int .i64 2000)) fun v42 =>
  Q v42 h))
@[simp] def law16_great.l2 (C : CSem) (N : Nat → Nat) (Q : AVal → AHeap → Prop) (c1 : AVal) : List AVal → AHeap → (List AVal → AHeap → Prop) → Prop
 | [v3, v4], h, Y1 => law16_great.k1 C N Q Y1 v3 v4 c1 h
 | _, _, _ => False
@[simp] def law16_great.k3 (C : CSem) (N : Nat → Nat) (Q : AVal → AHeap → Prop) (c1 : AVal) (h : AHeap) : Prop :=
 B.al c1 (B.pv (V.field1 4 c1) fun v6 =>
  B.pv (V.lenSl v6) fun v7 =>
  B.al c1 (B.pv (V.field1 5 c1) fun v9 =>
  B.pv (V.lenSl v9) fun v10 =>
  B.pv (V.bin .add v7 v10) fun v11 =>
  LoopR (law16_great.l2 C N Q c1) [v11, (.int .i64 0)] h))
@[simp] def law16_great.cps (C : CSem) (N : Nat → Nat) (v0 : AVal) (h : AHeap) (Q : AVal → AHeap → Prop) : Prop :=
 B.pv (A.boxN 6 v0) fun c1 =>
  law16_great.k3 C N Q c1 h
def law16_great.Imp (C : CSem) (N : Nat → Nat) : Prop := ∀ (v0 : AVal) (h : AHeap) (Q : AVal → AHeap → Prop), law16_great.cps C N v0 h (dn Q) → C (N 416) [v0] h Q
@[simp] def law16_awake.k1 (C : CSem) (N : Nat → Nat) (Q : AVal → AHeap → Prop) (h : AHeap) : Prop :=
 B.call C (N 422) [] h fun v8 h =>
  B.call C (N 412) [v8] h fun v9 h =>
  B.pv (V.lenSl v9) fun v11 =>
  B.pv (V.bin .neq v11 (.int .i64 5)) fun v12 =>
  B.cond v12
  (Q (.bool false) h)
  (B.call C (N 413) [v9] h fun v15 h =>
  B.pv (V.ext 0 v15) fun v16 =>
  B.pv (V.ext 1 v15) fun v17 =>
  B.pv (V.setN 0 6 v16 (.agg [.int .i64 0, .int .i64 0, .int .i64 0, .nils, .nils, .nils])) fun c2 =>
  B.pv (A.bld [(0, none, (.int .i64 5))] [.int .i64 0, .int .i64 0, .int .i64 0, .str [], .int .u8 0, .nils, .nils]) fun v19 =>
  B.call C (N 415) [(.int .i64 1), (.int .i64 7), v19] h fun v20 h =>
  B.pv (V.ext 0 v20) fun v21 =>
  B.pv (V.ext 1 v20) fun v22 =>
  B.call C (N 414) [(.int .i64 1), (.int .i64 7), v21] h fun v25 h =>
  B.pv (V.ext 0 v25) fun v26 =>
  B.pv (V.ext 1 v25) fun v27 =>
  B.pv (V.setN 0 7 v26 (.agg [.int .i64 0, .int .i64 0, .int .i64 0, .str [], .int .u8 0, .nils, .nils])) fun c6 =>
  B.pv (V.idxS 2 v9 (.int .i64 0)) fun v29 =>
  B.pv (V.fieldAddr 0 v29) fun v30 =>
  B.ld h v30 fun v31 =>
  B.bytesStr h v31 fun v32 =>
  B.pv (V.bin .eql v32 (.str [42, 100, 97, 121])) fun v33 =>
  B.gd h v33 true (fun K => K v9 h) fun v35 h =>
  B.gd h v33 true (fun K => B.pv (V.idxS 2 v35 (.int .i64 4)) fun v => K v h) fun v36 h =>
  B.gd h v33 true (fun K => B.pv (V.fieldAddr 0 v36) fun v => K v h) fun v37 h =>
  B.gd h v33 true (fun K => B.ld h v37 fun v => K v h) fun v38 h =>
  B.gd h v33 true (fun K => B.newO h (fillL [(0, none, (.int .u8 108)), (1, none, (.int .u8 0)), (2, none, (.int .u8 0)), (3, none, (.int .u8 0)), (4, none, (.int .u8 0)), (5, none, (.int .u8 0)), (6, none, (.int .u8 0)), (7, none, (.int .u8 0)), (8, none, (.int .u8 1))] (repL 9 [.int .u8 0])) fun i h => K (.sl i 0 0 9 1 9) h) fun v39 h =>
  B.gd h v33 true (fun K => B.call C (N 34) [v38, v39] h K) fun v40 h =>
  B.pick v33 v40 (.bool false) fun v41 =>
  B.gd h v41 true (fun K => K v9 h) fun v43 h =>
  B.gd h v41 true (fun K => B.pv (V.idxS 2 v43 (.int .i64 4)) fun v => K v h) fun v44 h =>
  B.gd h v41 true (fun K => B.pv (V.fieldAddr 1 v44) fun v => K v h) fun v45 h =>
  B.gd h v41 true (fun K => B.ld h v45 fun v => K v h) fun v46 h =>
  B.gd h v41 true (fun K => B.newO h (fillL [(0, none, (.int .u8 1)), (1, none, (.int .u8 65)), (2, none, (.int .u8 0)), (3, none, (.int .u8 3)), (4, none, (.int .u8 0)), (5, none, (.int .u8 8)), (6, none, (.int .u8 0)), (7, none, (.int .u8 0)), (8, none, (.int .u8 0)), (9, none, (.int .u8 5)), (10, none, (.int .u8 1))] (repL 11 [.int .u8 0])) fun i h => K (.sl i 0 0 11 1 11) h) fun v47 h =>
  B.gd h v41 true (fun K => B.call C (N 34) [v46, v47] h K) fun v48 h =>
  B.pick v41 v48 (.bool false) fun v49 =>
  B.gd h v49 true (fun K => K v17 h) fun v51 h =>
  B.gd h v49 true (fun K => B.pv (V.bin .eql v51 (.int .i64 0)) fun v => K v h) fun v52 h =>
  B.pick v49 v52 (.bool false) fun v53 =>
  B.gd h v53 true (fun K => B.pv (V.fieldN 0 6 c2) fun v => K v h) fun v55 h =>
  B.al c2 (B.gd h v53 true (fun K => B.call C (N 422) [] h K) fun v56 h =>
  B.gd h v53 true (fun K => B.call C (N 116) [v55, v56] h K) fun v57 h =>
  B.pick v53 v57 (.bool false) fun v58 =>
  B.gd h v58 true (fun K => K v22 h) fun v60 h =>
  B.gd h v58 true (fun K => B.pv (V.bin .eql v60 (.int .i64 0)) fun v => K v h) fun v61 h =>
  B.pick v58 v61 (.bool false) fun v62 =>
  B.gd h v62 true (fun K => K v21 h) fun v64 h =>
  B.gd h v62 true (fun K => B.pv (V.lenSl v64) fun v => K v h) fun v65 h =>
  B.gd h v62 true (fun K => B.pv (V.bin .eql v65 (.int .i64 1)) fun v => K v h) fun v66 h =>
  B.pick v62 v66 (.bool false) fun v67 =>
  B.gd h v67 true (fun K => K v21 h) fun v69 h =>
  B.gd h v67 true (fun K => B.pv (V.idxS 2 v69 (.int .i64 0)) fun v => K v h) fun v70 h =>
  B.gd h v67 true (fun K => B.pv (V.fieldAddr 0 v70) fun v => K v h) fun v71 h =>
  B.gd h v67 true (fun K => B.ld h v71 fun v => K v h) fun v72 h =>
  B.gd h v67 true (fun K => B.newO h (fillL [(0, none, (.int .u8 97)), (1, none, (.int .u8 1)), (2, none, (.int .u8 0)), (3, none, (.int .u8 0)), (4, none, (.int .u8 0)), (5, none, (.int .u8 0)), (6, none, (.int .u8 0)), (7, none, (.int .u8 0)), (8, none, (.int .u8 0)), (9, none, (.int .u8 7)), (10, none, (.int .u8 0)), (11, none, (.int .u8 0))] (repL 12 [.int .u8 0])) fun i h => K (.sl i 0 0 12 1 12) h) fun v73 h =>
  B.gd h v67 true (fun K => B.call C (N 34) [v72, v73] h K) fun v74 h =>
  B.pick v67 v74 (.bool false) fun v75 =>
  B.gd h v75 true (fun K => K v27 h) fun v77 h =>
  B.pick v75 v77 (.bool false) fun v78 =>
  B.al c6 (B.gd h v78 true (fun K => K .undef h) fun _ h =>
  B.gd h v78 true (fun K => B.pv (V.field1 0 c6) fun v => K v h) fun v81 h =>
  B.gd h v78 true (fun K => B.pv (V.bin .eql v81 (.int .i64 5)) fun v => K v h) fun v82 h =>
  B.pick v78 v82 (.bool false) fun v83 =>
  B.gd h v83 true (fun K => B.pv (A.bld [] [.int .i64 0, .int .i64 0, .int .i64 0, .nils, .nils, .nils]) fun v => K v h) fun v85 h =>
  B.gd h v83 true (fun K => B.call C (N 412) [v85] h K) fun v86 h =>
  B.gd h v83 true (fun K => B.pv (V.lenSl v86) fun v => K v h) fun v87 h =>
  B.gd h v83 true (fun K => B.pv (V.bin .eql v87 (.int .i64 0)) fun v => K v h) fun v88 h =>
  B.pick v83 v88 (.bool false) fun v89 =>
  Q v89 h)))
@[simp] def law16_awake.cps (C : CSem) (N : Nat → Nat) (h : AHeap) (Q : AVal → AHeap → Prop) : Prop :=
 law16_awake.k1 C N Q h
def law16_awake.Imp (C : CSem) (N : Nat → Nat) : Prop := ∀ (h : AHeap) (Q : AVal → AHeap → Prop), law16_awake.cps C N h (dn Q) → C (N 418) [] h Q
@[simp] def law16_RowOne.k1 (C : CSem) (N : Nat → Nat) (Q : AVal → AHeap → Prop) (v12 c3 c8 : AVal) (h : AHeap) : Prop :=
 B.pv (V.bin .eql v12 (.int .i64 1)) fun v146 =>
  B.gd h v146 false (fun K => K v12 h) fun v148 h =>
  B.gd h v146 false (fun K => B.pv (V.bin .eql v148 (.int .i64 0)) fun v => K v h) fun v149 h =>
  B.gd h v146 false (fun K => K v149 h) fun v150 h =>
  B.gd h v150 true (fun K => B.pv (V.fieldN 0 6 c3) fun v => K v h) fun v151 h =>
  B.gd h v150 true (fun K => B.pv (V.fieldN 0 6 c8) fun v => K v h) fun v152 h =>
  B.gd h v150 true (fun K => B.call C (N 116) [v151, v152] h K) fun v153 h =>
  B.gd h v146 false (fun K => B.pick v150 v153 (.bool false) fun v => K v h) fun v154 h =>
  B.pick v146 (.bool true) v154 fun v155 =>
  Q v155 h
@[simp] def law16_RowOne.k2 (C : CSem) (N : Nat → Nat) (Q : AVal → AHeap → Prop) (Y1 : List AVal → AHeap → Prop) (v7 v11 v12 v13 c3 c8 : AVal) (h : AHeap) : Prop :=
 B.pv (V.lenSl v7) fun v115 =>
  B.pv (V.bin .lss v13 v115) fun v116 =>
  B.cond v116
  (B.pv (V.idxS 2 v7 v13) fun v121 =>
  B.pv (V.fieldAddr 0 v121) fun v122 =>
  B.ld h v122 fun v123 =>
  B.pv (V.idxS 2 v11 v13) fun v126 =>
  B.pv (V.fieldAddr 0 v126) fun v127 =>
  B.ld h v127 fun v128 =>
  B.call C (N 34) [v123, v128] h fun v129 h =>
  B.pv (V.un .not v129) fun v130 =>
  B.cond v130
  (Q (.bool false) h)
  (B.pv (V.idxS 2 v7 v13) fun v133 =>
  B.pv (V.fieldAddr 1 v133) fun v134 =>
  B.ld h v134 fun v135 =>
  B.pv (V.idxS 2 v11 v13) fun v138 =>
  B.pv (V.fieldAddr 1 v138) fun v139 =>
  B.ld h v139 fun v140 =>
  B.call C (N 34) [v135, v140] h fun v141 h =>
  B.pv (V.un .not v141) fun v142 =>
  B.cond v142
  (B.pv (V.bin .add v12 (.int .i64 1)) fun v144 =>
  B.pv (V.bin .add v13 (.int .i64 1)) fun v118 =>
  Y1 [v144, v118] h)
  (B.pv (V.bin .add v13 (.int .i64 1)) fun v118 =>
  Y1 [v12, v118] h)))
  (law16_RowOne.k1 C N Q v12 c3 c8 h)
@[simp] def law16_RowOne.l3 (C : CSem) (N : Nat → Nat) (Q : AVal → AHeap → Prop) (v7 v11 c3 c8 : AVal) : List AVal → AHeap → (List AVal → AHeap → Prop) → Prop
 | [v12, v13], h, Y1 => law16_RowOne.k2 C N Q Y1 v7 v11 v12 v13 c3 c8 h
 | _, _, _ => False
@[simp] def law16_RowOne.k4 (C : CSem) (N : Nat → Nat) (Q : AVal → AHeap → Prop) (v7 v11 c3 c8 : AVal) (h : AHeap) : Prop :=
 B.pv (V.lenSl v11) fun v109 =>
  B.pv (V.lenSl v7) fun v111 =>
  B.pv (V.bin .neq v109 v111) fun v112 =>
  B.cond v112
  (Q (.bool false) h)
  (LoopR (law16_RowOne.l3 C N Q v7 v11 c3 c8) [(.int .i64 0), (.int .i64 0)] h)
@[simp] def law16_RowOne.k5 (C : CSem) (N : Nat → Nat) (Q : AVal → AHeap → Prop) (v1 v2 v7 c3 c8 : AVal) (h : AHeap) : Prop :=
 B.call C (N 155) [v2, (.int .i64 6)] h fun v26 h =>
  B.pv (V.bin .eql v26 (.int .i64 0)) fun v49 =>
  B.cond v49
  (B.al c8 (B.pv (V.field1 0 c8) fun v51 =>
  B.pv (V.bin .add v51 (.int .i64 1)) fun v52 =>
  B.pv (V.bin .rem v52 (.int .i64 4001)) fun v53 =>
  B.al c8 (B.pv (V.setF 0 v53 c8) fun c8 =>
  B.pv (V.fieldN 0 6 c8) fun v106 =>
  B.call C (N 412) [v106] h fun v107 h =>
  law16_RowOne.k4 C N Q v7 v107 c3 c8 h)))
  (B.pv (V.bin .eql v26 (.int .i64 1)) fun v56 =>
  B.cond v56
  (B.al c8 (B.pv (V.field1 1 c8) fun v58 =>
  B.pv (V.bin .rem v58 (.int .i64 1000)) fun v59 =>
  B.pv (V.bin .add (.int .i64 1) v59) fun v60 =>
  B.al c8 (B.pv (V.setF 1 v60 c8) fun c8 =>
  B.pv (V.fieldN 0 6 c8) fun v106 =>
  B.call C (N 412) [v106] h fun v107 h =>
  law16_RowOne.k4 C N Q v7 v107 c3 c8 h)))
  (B.pv (V.bin .eql v26 (.int .i64 2)) fun v63 =>
  B.cond v63
  (B.al c8 (B.pv (V.field1 2 c8) fun v65 =>
  B.pv (V.bin .rem v65 (.int .i64 1000)) fun v66 =>
  B.pv (V.bin .add (.int .i64 1) v66) fun v67 =>
  B.al c8 (B.pv (V.setF 2 v67 c8) fun c8 =>
  B.pv (V.fieldN 0 6 c8) fun v106 =>
  B.call C (N 412) [v106] h fun v107 h =>
  law16_RowOne.k4 C N Q v7 v107 c3 c8 h)))
  (B.pv (V.bin .eql v26 (.int .i64 3)) fun v70 =>
  B.cond v70
  (B.al c8 (B.pv (V.field1 3 c8) fun v72 =>
  B.pv (V.lenSl v72) fun v73 =>
  B.pv (V.bin .gtr v73 (.int .i64 0)) fun v74 =>
  B.cond v74
  (B.al c8 (B.pv (V.field1 3 c8) fun v76 =>
  B.al c8 (B.pv (V.field1 3 c8) fun v79 =>
  B.pv (V.lenSl v79) fun v80 =>
  B.call C (N 155) [v1, v80] h fun v81 h =>
  B.pv (V.idxS 4 v76 v81) fun v82 =>
  B.pv (V.fieldAddr 3 v82) fun v83 =>
  B.st h v83 .nils fun h =>
  B.pv (V.fieldN 0 6 c8) fun v106 =>
  B.call C (N 412) [v106] h fun v107 h =>
  law16_RowOne.k4 C N Q v7 v107 c3 c8 h)))
  (B.pv (V.fieldN 0 6 c8) fun v106 =>
  B.call C (N 412) [v106] h fun v107 h =>
  law16_RowOne.k4 C N Q v7 v107 c3 c8 h)))
  (B.pv (V.bin .eql v26 (.int .i64 4)) fun v85 =>
  B.cond v85
  (B.al c8 (B.pv (V.field1 4 c8) fun v87 =>
  B.pv (V.lenSl v87) fun v88 =>
  B.pv (V.bin .gtr v88 (.int .i64 0)) fun v89 =>
  B.cond v89
  (B.al c8 (B.pv (V.field1 4 c8) fun v91 =>
  B.al c8 (B.pv (V.field1 4 c8) fun v94 =>
  B.pv (V.lenSl v94) fun v95 =>
  B.call C (N 155) [v1, v95] h fun v96 h =>
  B.pv (V.idxS 6 v91 v96) fun v97 =>
  B.nilCheck v97 fun v100 =>
  B.pv (V.fieldAddr 5 v100) fun v101 =>
  B.ld h v101 fun v102 =>
  B.pv (V.un .not v102) fun v103 =>
  B.nilCheck v97 fun v104 =>
  B.pv (V.fieldAddr 5 v104) fun v105 =>
  B.st h v105 v103 fun h =>
  B.pv (V.fieldN 0 6 c8) fun v106 =>
  B.call C (N 412) [v106] h fun v107 h =>
  law16_RowOne.k4 C N Q v7 v107 c3 c8 h)))
  (B.pv (V.fieldN 0 6 c8) fun v106 =>
  B.call C (N 412) [v106] h fun v107 h =>
  law16_RowOne.k4 C N Q v7 v107 c3 c8 h)))
  (B.al c8 (B.pv (V.field1 5 c8) fun v28 =>
  B.pv (V.lenSl v28) fun v29 =>
  B.pv (V.bin .gtr v29 (.int .i64 0)) fun v30 =>
  B.cond v30
  (B.al c8 (B.pv (V.field1 5 c8) fun v32 =>
  B.al c8 (B.pv (V.field1 5 c8) fun v35 =>
  B.pv (V.lenSl v35) fun v36 =>
  B.call C (N 155) [v1, v36] h fun v37 h =>
  B.pv (V.idxS 8 v32 v37) fun v38 =>
  B.nilCheck v38 fun v41 =>
  B.pv (V.fieldAddr 4 v41) fun v42 =>
  B.ld h v42 fun v43 =>
  B.pv (V.bin .add v43 (.int .i64 1)) fun v44 =>
  B.pv (V.bin .rem v44 (.int .i64 100)) fun v45 =>
  B.nilCheck v38 fun v46 =>
  B.pv (V.fieldAddr 4 v46) fun v47 =>
  B.st h v47 v45 fun h =>
  B.pv (V.fieldN 0 6 c8) fun v106 =>
  B.call C (N 412) [v106] h fun v107 h =>
  law16_RowOne.k4 C N Q v7 v107 c3 c8 h)))
  (B.pv (V.fieldN 0 6 c8) fun v106 =>
  B.call C (N 412) [v106] h fun v107 h =>
  law16_RowOne.k4 C N Q v7 v107 c3 c8 h)))))))
@[simp] def law16_RowOne.k6 (C : CSem) (N : Nat → Nat) (Q : AVal → AHeap → Prop) (v1 v2 v7 c3 c8 : AVal) (h : AHeap) : Prop :=
 B.pv (V.lenSl v7) fun v23 =>
  B.pv (V.bin .eql v23 (.int .i64 0)) fun v24 =>
  B.cond v24
  (Q (.bool true) h)
  (law16_RowOne.k5 C N Q v1 v2 v7 c3 c8 h)
@[simp] def law16_RowOne.k7 (C : CSem) (N : Nat → Nat) (Q : AVal → AHeap → Prop) (v1 v2 v7 c3 : AVal) (h : AHeap) : Prop :=
 B.pv (V.fieldN 0 6 c3) fun v20 =>
  B.call C (N 420) [v20] h fun v21 h =>
  B.pv (V.setN 0 6 v21 (.agg [.int .i64 0, .int .i64 0, .int .i64 0, .nils, .nils, .nils])) fun c8 =>
  law16_RowOne.k6 C N Q v1 v2 v7 c3 c8 h
@[simp] def law16_RowOne.k8 (C : CSem) (N : Nat → Nat) (Q : AVal → AHeap → Prop) (v1 v2 c3 : AVal) (h : AHeap) : Prop :=
 B.pv (V.fieldN 0 6 c3) fun v16 =>
  B.call C (N 416) [v16] h fun v17 h =>
  B.cond v17
  (Q (.bool true) h)
  (B.pv (V.fieldN 0 6 c3) fun v18 =>
  B.call C (N 412) [v18] h fun v19 h =>
  law16_RowOne.k7 C N Q v1 v2 v19 c3 h)
@[simp] def law16_RowOne.k9 (C : CSem) (N : Nat → Nat) (Q : AVal → AHeap → Prop) (v0 v1 v2 : AVal) (h : AHeap) : Prop :=
 B.pv (A.boxN 6 v0) fun c3 =>
  B.call C (N 418) [] h fun v14 h =>
  B.pv (V.un .not v14) fun v15 =>
  B.cond v15
  (Q (.bool false) h)
  (law16_RowOne.k8 C N Q v1 v2 c3 h)
@[simp] def law16_RowOne.cps (C : CSem) (N : Nat → Nat) (v0 v1 v2 : AVal) (h : AHeap) (Q : AVal → AHeap → Prop) : Prop :=
 law16_RowOne.k9 C N Q v0 v1 v2 h
def law16_RowOne.Imp (C : CSem) (N : Nat → Nat) : Prop := ∀ (v0 v1 v2 : AVal) (h : AHeap) (Q : AVal → AHeap → Prop), law16_RowOne.cps C N v0 v1 v2 h (dn Q) → C (N 421) [v0, v1, v2] h Q
@[simp] def law16_small.k1 (C : CSem) (N : Nat → Nat) (Q : AVal → AHeap → Prop) (h : AHeap) : Prop :=
 B.pv (A.bld [(0, none, (.str [65])), (1, none, (.int .i64 5))] [.str [], .int .i64 0, .nils, .nils]) fun v1 =>
  B.newO h (fillL [(0, some 4, v1)] (repL 1 [.str [], .int .i64 0, .nils, .nils])) fun i2 h =>
  B.pv (A.bld [(0, none, (.int .i64 3)), (1, none, (.int .i64 8))] [.int .i64 0, .int .i64 0]) fun v3 =>
  B.pv (A.bld [(0, none, (.int .i64 1)), (1, none, (.str [65])), (2, some 2, v3), (4, none, (.int .i64 5)), (5, none, (.bool true))] [.int .i64 0, .str [], .int .i64 0, .int .i64 0, .int .i64 0, .bool false]) fun v4 =>
  B.newO h (fillL [(0, some 6, v4)] (repL 1 [.int .i64 0, .str [], .int .i64 0, .int .i64 0, .int .i64 0, .bool false])) fun i5 h =>
  B.pv (A.bld [(0, none, (.int .i64 3)), (1, none, (.int .i64 2)), (2, none, (.int .i64 1)), (3, none, (.sl i2 0 0 1 4 1)), (4, none, (.sl i5 0 0 1 6 1))] [.int .i64 0, .int .i64 0, .int .i64 0, .nils, .nils, .nils]) fun v6 =>
  B.pv (V.setN 0 6 v6 (.agg [.int .i64 0, .int .i64 0, .int .i64 0, .nils, .nils, .nils])) fun c0 =>
  B.pv (oneOf (joinV (V.fieldN 0 6 c0) (some []))) fun v => Q v h
@[simp] def law16_small.cps (C : CSem) (N : Nat → Nat) (h : AHeap) (Q : AVal → AHeap → Prop) : Prop :=
 law16_small.k1 C N Q h
def law16_small.Imp (C : CSem) (N : Nat → Nat) : Prop := ∀ (h : AHeap) (Q : AVal → AHeap → Prop), law16_small.cps C N h (dn Q) → C (N 422) [] h Q
@[simp] def lot_Right.k1 (C : CSem) (N : Nat → Nat) (Q : AVal → AHeap → Prop) (v0 : AVal) (h : AHeap) : Prop :=
 B.pv (A.boxN 6 v0) fun c1 =>
  B.al c1 (B.pv (V.field1 0 c1) fun v4 =>
  B.pv (V.bin .gtr v4 (.int .i64 0)) fun v5 =>
  B.al c1 (B.gd h v5 true (fun K => K .undef h) fun _ h =>
  B.gd h v5 true (fun K => B.pv (V.field1 1 c1) fun v => K v h) fun v8 h =>
  B.gd h v5 true (fun K => B.call C (N 53) [v8] h K) fun v9 h =>
  B.pick v5 v9 (.bool false) fun v10 =>
  B.al c1 (B.gd h v10 true (fun K => K .undef h) fun _ h =>
  B.gd h v10 true (fun K => B.pv (V.fieldN 2 2 c1) fun v => K v h) fun v13 h =>
  B.gd h v10 true (fun K => B.call C (N 5) [v13] h K) fun v14 h =>
  B.pick v10 v14 (.bool false) fun v15 =>
  B.al c1 (B.gd h v15 true (fun K => K .undef h) fun _ h =>
  B.al c1 (B.gd h v15 true (fun K => K .undef h) fun _ h =>
  B.gd h v15 true (fun K => B.pv (V.field1 2 c1) fun v => K v h) fun v19 h =>
  B.al c1 (B.gd h v15 true (fun K => K .undef h) fun _ h =>
  B.al c1 (B.gd h v15 true (fun K => K .undef h) fun _ h =>
  B.gd h v15 true (fun K => B.pv (V.field1 3 c1) fun v => K v h) fun v22 h =>
  B.gd h v15 true (fun K => B.pv (V.bin .lss v19 v22) fun v => K v h) fun v23 h =>
  B.pick v15 v23 (.bool false) fun v24 =>
  B.al c1 (B.gd h v24 true (fun K => K .undef h) fun _ h =>
  B.gd h v24 true (fun K => B.pv (V.field1 4 c1) fun v => K v h) fun v27 h =>
  B.gd h v24 true (fun K => B.pv (V.bin .gtr v27 (.int .i64 0)) fun v => K v h) fun v28 h =>
  B.pick v24 v28 (.bool false) fun v29 =>
  B.al c1 (B.gd h v29 true (fun K => K .undef h) fun _ h =>
  B.gd h v29 true (fun K => B.pv (V.field1 4 c1) fun v => K v h) fun v32 h =>
  B.gd h v29 true (fun K => B.pv (V.bin .leq v32 (.int .i64 1073741824)) fun v => K v h) fun v33 h =>
  B.pick v29 v33 (.bool false) fun v34 =>
  Q v34 h)))))))))
@[simp] def lot_Right.cps (C : CSem) (N : Nat → Nat) (v0 : AVal) (h : AHeap) (Q : AVal → AHeap → Prop) : Prop :=
 lot_Right.k1 C N Q v0 h
def lot_Right.Imp (C : CSem) (N : Nat → Nat) : Prop := ∀ (v0 : AVal) (h : AHeap) (Q : AVal → AHeap → Prop), lot_Right.cps C N v0 h (dn Q) → C (N 52) [v0] h Q
@[simp] def rank_Right.k1 (C : CSem) (N : Nat → Nat) (Q : AVal → AHeap → Prop) (v0 : AVal) (h : AHeap) : Prop :=
 B.pv (A.boxN 8 v0) fun c1 =>
  B.al c1 (B.pv (V.field1 0 c1) fun v4 =>
  B.pv (V.bin .lss v4 (.int .i64 1)) fun v5 =>
  B.al c1 (B.gd h v5 false (fun K => K .undef h) fun _ h =>
  B.gd h v5 false (fun K => B.pv (V.field1 1 c1) fun v => K v h) fun v8 h =>
  B.gd h v5 false (fun K => B.call C (N 53) [v8] h K) fun v9 h =>
  B.gd h v5 false (fun K => B.pv (V.un .not v9) fun v => K v h) fun v10 h =>
  B.pick v5 (.bool true) v10 fun v11 =>
  B.al c1 (B.gd h v11 false (fun K => K .undef h) fun _ h =>
  B.gd h v11 false (fun K => B.pv (V.field1 2 c1) fun v => K v h) fun v14 h =>
  B.gd h v11 false (fun K => B.pv (V.bin .lss v14 (.int .i64 1)) fun v => K v h) fun v15 h =>
  B.pick v11 (.bool true) v15 fun v16 =>
  B.al c1 (B.gd h v16 false (fun K => K .undef h) fun _ h =>
  B.gd h v16 false (fun K => B.pv (V.field1 2 c1) fun v => K v h) fun v19 h =>
  B.gd h v16 false (fun K => B.pv (V.bin .gtr v19 (.int .i64 1073741824)) fun v => K v h) fun v20 h =>
  B.pick v16 (.bool true) v20 fun v21 =>
  B.al c1 (B.gd h v21 false (fun K => K .undef h) fun _ h =>
  B.gd h v21 false (fun K => B.pv (V.field1 3 c1) fun v => K v h) fun v24 h =>
  B.gd h v21 false (fun K => B.pv (V.bin .lss v24 (.int .i64 0)) fun v => K v h) fun v25 h =>
  B.pick v21 (.bool true) v25 fun v26 =>
  B.al c1 (B.gd h v26 false (fun K => K .undef h) fun _ h =>
  B.gd h v26 false (fun K => B.pv (V.field1 3 c1) fun v => K v h) fun v29 h =>
  B.gd h v26 false (fun K => B.pv (V.bin .gtr v29 (.int .i64 4000)) fun v => K v h) fun v30 h =>
  B.pick v26 (.bool true) v30 fun v31 =>
  B.al c1 (B.gd h v31 false (fun K => K .undef h) fun _ h =>
  B.gd h v31 false (fun K => B.pv (V.field1 4 c1) fun v => K v h) fun v34 h =>
  B.gd h v31 false (fun K => B.pv (V.bin .lss v34 (.int .i64 0)) fun v => K v h) fun v35 h =>
  B.pick v31 (.bool true) v35 fun v36 =>
  B.al c1 (B.gd h v36 false (fun K => K .undef h) fun _ h =>
  B.gd h v36 false (fun K => B.pv (V.field1 4 c1) fun v => K v h) fun v39 h =>
  B.gd h v36 false (fun K => B.pv (V.bin .gtr v39 (.int .i64 99)) fun v => K v h) fun v40 h =>
  B.pick v36 (.bool true) v40 fun v41 =>
  B.cond v41
  (Q (.bool false) h)
  (B.al c1 (B.pv (V.field1 5 c1) fun v43 =>
  B.pv (V.bin .lss v43 (.int .u8 1)) fun v44 =>
  B.al c1 (B.gd h v44 false (fun K => K .undef h) fun _ h =>
  B.gd h v44 false (fun K => B.pv (V.field1 5 c1) fun v => K v h) fun v47 h =>
  B.gd h v44 false (fun K => B.pv (V.bin .gtr v47 (.int .u8 3)) fun v => K v h) fun v48 h =>
  B.pick v44 (.bool true) v48 fun v49 =>
  B.cond v49
  (Q (.bool false) h)
  (B.al c1 (B.pv (V.field1 6 c1) fun v51 =>
  B.pv (V.bin .eql v51 (.int .i64 (-1))) fun v52 =>
  B.cond v52
  (B.al c1 (B.pv (V.field1 7 c1) fun v54 =>
  B.pv (V.bin .eql v54 (.str [])) fun v55 =>
  B.al c1 (B.gd h v55 true (fun K => K .undef h) fun _ h =>
  B.gd h v55 true (fun K => B.pv (V.field1 5 c1) fun v => K v h) fun v58 h =>
  B.gd h v55 true (fun K => B.pv (V.bin .neq v58 (.int .u8 2)) fun v => K v h) fun v59 h =>
  B.pick v55 v59 (.bool false) fun v60 =>
  Q v60 h)))
  (B.al c1 (B.pv (V.field1 6 c1) fun v62 =>
  B.pv (V.bin .geq v62 (.int .i64 0)) fun v63 =>
  B.al c1 (B.gd h v63 true (fun K => K .undef h) fun _ h =>
  B.gd h v63 true (fun K => B.pv (V.field1 6 c1) fun v => K v h) fun v66 h =>
  B.gd h v63 true (fun K => B.pv (V.bin .leq v66 (.int .i64 4000)) fun v => K v h) fun v67 h =>
  B.pick v63 v67 (.bool false) fun v68 =>
  B.al c1 (B.gd h v68 true (fun K => K .undef h) fun _ h =>
  B.gd h v68 true (fun K => B.pv (V.field1 7 c1) fun v => K v h) fun v71 h =>
  B.gd h v68 true (fun K => B.call C (N 53) [v71] h K) fun v72 h =>
  B.pick v68 v72 (.bool false) fun v73 =>
  B.al c1 (B.gd h v73 true (fun K => K .undef h) fun _ h =>
  B.gd h v73 true (fun K => B.pv (V.field1 5 c1) fun v => K v h) fun v76 h =>
  B.gd h v73 true (fun K => B.pv (V.bin .neq v76 (.int .u8 3)) fun v => K v h) fun v77 h =>
  B.pick v73 v77 (.bool false) fun v78 =>
  Q v78 h))))))))))))))))))
@[simp] def rank_Right.cps (C : CSem) (N : Nat → Nat) (v0 : AVal) (h : AHeap) (Q : AVal → AHeap → Prop) : Prop :=
 rank_Right.k1 C N Q v0 h
def rank_Right.Imp (C : CSem) (N : Nat → Nat) : Prop := ∀ (v0 : AVal) (h : AHeap) (Q : AVal → AHeap → Prop), rank_Right.cps C N v0 h (dn Q) → C (N 179) [v0] h Q
@[simp] def row_All.k1 (C : CSem) (N : Nat → Nat) (Q : AVal → AHeap → Prop) (Y1 : List AVal → AHeap → Prop) (v3 v4 v146 v147 v148 : AVal) (h : AHeap) : Prop :=
 B.pv (V.bin .lss v148 v147) fun v149 =>
  B.cond v149
  (B.pv (V.idxS 8 v146 v148) fun v150 =>
  B.ldn h v150 8 fun v151 =>
  B.pv (V.setN 0 8 v151 (.agg [.int .i64 0, .str [], .int .i64 0, .int .i64 0, .int .i64 0, .int .u8 0, .int .i64 0, .str []])) fun c16 =>
  B.al c16 (B.pv (V.field1 0 c16) fun v156 =>
  B.al c16 (B.pv (V.field1 1 c16) fun v161 =>
  B.al c16 (B.pv (V.field1 2 c16) fun v164 =>
  B.al c16 (B.pv (V.field1 3 c16) fun v167 =>
  B.al c16 (B.pv (V.field1 4 c16) fun v170 =>
  B.pv (V.toInt .u8 v170) fun v171 =>
  B.al c16 (B.pv (V.field1 5 c16) fun v173 =>
  B.al c16 (B.pv (V.field1 6 c16) fun v176 =>
  B.pv (V.bin .add v176 (.int .i64 1)) fun v177 =>
  B.al c16 (B.pv (V.field1 7 c16) fun v180 =>
  B.call C (N 423) [v156, (.int .i64 8)] h fun v157 h =>
  B.newO h (fillL [(0, none, (.int .u8 111))] (repL 1 [.int .u8 0])) fun i153 h =>
  B.conv h (.sl i153 0 0 1 1 1) fun v154 =>
  B.newO h (fillL [(0, none, v154), (1, none, v157)] (repL 2 [.nils])) fun i158 h =>
  B.call C (N 424) [(.sl i158 0 0 2 1 2)] h fun v159 h =>
  B.call C (N 51) [v161] h fun v162 h =>
  B.call C (N 423) [v164, (.int .i64 4)] h fun v165 h =>
  B.call C (N 423) [v167, (.int .i64 2)] h fun v168 h =>
  B.call C (N 423) [v177, (.int .i64 2)] h fun v178 h =>
  B.call C (N 51) [v180] h fun v181 h =>
  B.newO h (fillL [(0, none, v171), (1, none, v173)] (repL 2 [.int .u8 0])) fun i174 h =>
  B.newO h (fillL [(0, none, v162), (1, none, v165), (2, none, v168), (3, none, (.sl i174 0 0 2 1 2)), (4, none, v178), (5, none, v181)] (repL 6 [.nils])) fun i182 h =>
  B.callv h C v4 [v159, (.sl i182 0 0 6 1 6)] fun v183 h =>
  B.pv (V.bin .add v148 (.int .i64 1)) fun v184 =>
  Y1 [v184] h)))))))))
  (B.ld h v3 fun v185 =>
  Q v185 h)
@[simp] def row_All.l2 (C : CSem) (N : Nat → Nat) (Q : AVal → AHeap → Prop) (v3 v4 v146 v147 : AVal) : List AVal → AHeap → (List AVal → AHeap → Prop) → Prop
 | [v148], h, Y1 => row_All.k1 C N Q Y1 v3 v4 v146 v147 v148 h
 | _, _, _ => False
@[simp] def row_All.k3 (C : CSem) (N : Nat → Nat) (Q : AVal → AHeap → Prop) (Y2 : List AVal → AHeap → Prop) (v3 v4 v14 v108 v109 v110 c1 c13 : AVal) (h : AHeap) : Prop :=
 B.al c13 (B.pv (V.field1 0 c13) fun v123 =>
  B.al c13 (B.pv (V.field1 1 c13) fun v128 =>
  B.al c13 (B.al c13 (B.pv (V.field1 2 c13) fun v132 =>
  B.al c13 (B.al c13 (B.pv (V.field1 3 c13) fun v136 =>
  B.al c13 (B.pv (V.field1 4 c13) fun v139 =>
  B.call C (N 423) [v123, (.int .i64 8)] h fun v124 h =>
  B.newO h (fillL [(0, none, (.int .u8 108))] (repL 1 [.int .u8 0])) fun i120 h =>
  B.conv h (.sl i120 0 0 1 1 1) fun v121 =>
  B.newO h (fillL [(0, none, v121), (1, none, v124)] (repL 2 [.nils])) fun i125 h =>
  B.call C (N 424) [(.sl i125 0 0 2 1 2)] h fun v126 h =>
  B.call C (N 51) [v128] h fun v129 h =>
  B.call C (N 423) [v132, (.int .i64 2)] h fun v133 h =>
  B.call C (N 423) [v136, (.int .i64 2)] h fun v137 h =>
  B.call C (N 423) [v139, (.int .i64 4)] h fun v140 h =>
  B.newO h (fillL [(0, none, v129), (1, none, v133), (2, none, v137), (3, none, v140), (4, none, v14)] (repL 5 [.nils])) fun i142 h =>
  B.callv h C v4 [v126, (.sl i142 0 0 5 1 5)] fun v143 h =>
  B.pv (V.bin .add v110 (.int .i64 1)) fun v144 =>
  Y2 [v144] h)))))))
@[simp] def row_All.k4 (C : CSem) (N : Nat → Nat) (Q : AVal → AHeap → Prop) (Y2 : List AVal → AHeap → Prop) (v3 v4 v14 v108 v109 v110 c1 c13 : AVal) (h : AHeap) : Prop :=
 B.al c13 (B.pv (V.field1 5 c13) fun v116 =>
  B.cond v116
  (B.pv (V.idxS 1 v14 (.int .i64 0)) fun v118 =>
  B.st h v118 (.int .u8 1) fun h =>
  row_All.k3 C N Q Y2 v3 v4 v14 v108 v109 v110 c1 c13 h)
  (row_All.k3 C N Q Y2 v3 v4 v14 v108 v109 v110 c1 c13 h))
@[simp] def row_All.k5 (C : CSem) (N : Nat → Nat) (Q : AVal → AHeap → Prop) (Y2 : List AVal → AHeap → Prop) (v3 v4 v108 v109 v110 c1 : AVal) (h : AHeap) : Prop :=
 B.pv (V.idxS 6 v108 v110) fun v112 =>
  B.ldn h v112 6 fun v113 =>
  B.pv (V.setN 0 6 v113 (.agg [.int .i64 0, .str [], .int .i64 0, .int .i64 0, .int .i64 0, .bool false])) fun c13 =>
  B.newO h (fillL [(0, none, (.int .u8 0))] (repL 1 [.int .u8 0])) fun i114 h =>
  row_All.k4 C N Q Y2 v3 v4 (.sl i114 0 0 1 1 1) v108 v109 v110 c1 c13 h
@[simp] def row_All.k6 (C : CSem) (N : Nat → Nat) (Q : AVal → AHeap → Prop) (Y2 : List AVal → AHeap → Prop) (v3 v4 v108 v109 v110 v111 c1 : AVal) (h : AHeap) : Prop :=
 B.cond v111
  (row_All.k5 C N Q Y2 v3 v4 v108 v109 v110 c1 h)
  (B.al c1 (B.pv (V.field1 5 c1) fun v146 =>
  B.pv (V.lenSl v146) fun v147 =>
  LoopR (row_All.l2 C N Q v3 v4 v146 v147) [(.int .i64 0)] h))
@[simp] def row_All.l7 (C : CSem) (N : Nat → Nat) (Q : AVal → AHeap → Prop) (v3 v4 v108 v109 c1 : AVal) : List AVal → AHeap → (List AVal → AHeap → Prop) → Prop
 | [v110], h, Y2 => B.pv (V.bin .lss v110 v109) fun v111 =>
  row_All.k6 C N Q Y2 v3 v4 v108 v109 v110 v111 c1 h
 | _, _, _ => False
@[simp] def row_All.k8 (C : CSem) (N : Nat → Nat) (Q : AVal → AHeap → Prop) (Y3 : List AVal → AHeap → Prop) (v3 v4 v7 v46 v47 v48 c1 c6 : AVal) (h : AHeap) : Prop :=
 B.al c6 (B.pv (V.field1 0 c6) fun v101 =>
  B.pv (V.bin .add (.str [105]) v101) fun v102 =>
  B.strBytes h v102 fun v103 h =>
  B.callv h C v4 [v103, v7] fun v105 h =>
  B.pv (V.bin .add v48 (.int .i64 1)) fun v106 =>
  Y3 [v106] h)
@[simp] def row_All.k9 (C : CSem) (N : Nat → Nat) (Q : AVal → AHeap → Prop) (Y3 : List AVal → AHeap → Prop) (Y4 : List AVal → AHeap → Prop) (v3 v4 v7 v46 v47 v48 v87 v88 v89 c1 c6 : AVal) (h : AHeap) : Prop :=
 B.pv (V.bin .lss v89 v88) fun v90 =>
  B.cond v90
  (B.pv (V.idxS 1 v87 v89) fun v91 =>
  B.ld h v91 fun v92 =>
  B.call C (N 51) [v92] h fun v95 h =>
  B.newO h (fillL [(0, none, v95)] (repL 1 [.nils])) fun i96 h =>
  B.appW h 1 24 v7 (.sl i96 0 0 1 1 1) fun v97 h =>
  B.pv (V.bin .add v89 (.int .i64 1)) fun v98 =>
  Y4 [v97, v98] h)
  (row_All.k8 C N Q Y3 v3 v4 v7 v46 v47 v48 c1 c6 h)
@[simp] def row_All.l10 (C : CSem) (N : Nat → Nat) (Q : AVal → AHeap → Prop) (Y3 : List AVal → AHeap → Prop) (v3 v4 v46 v47 v48 v87 v88 c1 c6 : AVal) : List AVal → AHeap → (List AVal → AHeap → Prop) → Prop
 | [v7, v89], h, Y4 => row_All.k9 C N Q Y3 Y4 v3 v4 v7 v46 v47 v48 v87 v88 v89 c1 c6 h
 | _, _, _ => False
@[simp] def row_All.k11 (C : CSem) (N : Nat → Nat) (Q : AVal → AHeap → Prop) (Y3 : List AVal → AHeap → Prop) (v3 v4 v7 v46 v47 v48 c1 c6 : AVal) (h : AHeap) : Prop :=
 B.al c6 (B.pv (V.field1 3 c6) fun v87 =>
  B.pv (V.lenSl v87) fun v88 =>
  LoopR (row_All.l10 C N Q Y3 v3 v4 v46 v47 v48 v87 v88 c1 c6) [v7, (.int .i64 0)] h)
@[simp] def row_All.k12 (C : CSem) (N : Nat → Nat) (Q : AVal → AHeap → Prop) (Y3 : List AVal → AHeap → Prop) (v3 v4 v7 v46 v47 v48 c1 c6 : AVal) (h : AHeap) : Prop :=
 B.al c6 (B.pv (V.field1 3 c6) fun v80 =>
  B.pv (V.lenSl v80) fun v81 =>
  B.pv (V.toInt .u8 v81) fun v82 =>
  B.newO h (fillL [(0, none, v82)] (repL 1 [.int .u8 0])) fun i83 h =>
  B.newO h (fillL [(0, none, (.sl i83 0 0 1 1 1))] (repL 1 [.nils])) fun i84 h =>
  B.appW h 1 24 v7 (.sl i84 0 0 1 1 1) fun v85 h =>
  row_All.k11 C N Q Y3 v3 v4 v85 v46 v47 v48 c1 c6 h)
@[simp] def row_All.k13 (C : CSem) (N : Nat → Nat) (Q : AVal → AHeap → Prop) (Y3 : List AVal → AHeap → Prop) (Y5 : List AVal → AHeap → Prop) (v3 v4 v7 v46 v47 v48 v62 v63 v64 c1 c6 : AVal) (h : AHeap) : Prop :=
 B.pv (V.bin .lss v64 v63) fun v65 =>
  B.cond v65
  (B.pv (V.idxS 2 v62 v64) fun v66 =>
  B.ldn h v66 2 fun v67 =>
  B.pv (V.setN 0 2 v67 (.agg [.str [], .int .i64 0])) fun c9 =>
  B.al c9 (B.pv (V.field1 0 c9) fun v70 =>
  B.al c9 (B.pv (V.field1 1 c9) fun v73 =>
  B.call C (N 51) [v70] h fun v71 h =>
  B.call C (N 423) [v73, (.int .i64 4)] h fun v74 h =>
  B.newO h (fillL [(0, none, v71), (1, none, v74)] (repL 2 [.nils])) fun i75 h =>
  B.appW h 1 24 v7 (.sl i75 0 0 2 1 2) fun v76 h =>
  B.pv (V.bin .add v64 (.int .i64 1)) fun v77 =>
  Y5 [v76, v77] h)))
  (row_All.k12 C N Q Y3 v3 v4 v7 v46 v47 v48 c1 c6 h)
@[simp] def row_All.l14 (C : CSem) (N : Nat → Nat) (Q : AVal → AHeap → Prop) (Y3 : List AVal → AHeap → Prop) (v3 v4 v46 v47 v48 v62 v63 c1 c6 : AVal) : List AVal → AHeap → (List AVal → AHeap → Prop) → Prop
 | [v7, v64], h, Y5 => row_All.k13 C N Q Y3 Y5 v3 v4 v7 v46 v47 v48 v62 v63 v64 c1 c6 h
 | _, _, _ => False
@[simp] def row_All.k15 (C : CSem) (N : Nat → Nat) (Q : AVal → AHeap → Prop) (Y3 : List AVal → AHeap → Prop) (v3 v4 v7 v46 v47 v48 c1 c6 : AVal) (h : AHeap) : Prop :=
 B.al c6 (B.pv (V.field1 2 c6) fun v62 =>
  B.pv (V.lenSl v62) fun v63 =>
  LoopR (row_All.l14 C N Q Y3 v3 v4 v46 v47 v48 v62 v63 c1 c6) [v7, (.int .i64 0)] h)
@[simp] def row_All.k16 (C : CSem) (N : Nat → Nat) (Q : AVal → AHeap → Prop) (Y3 : List AVal → AHeap → Prop) (v3 v4 v46 v47 v48 c1 c6 : AVal) (h : AHeap) : Prop :=
 B.al c6 (B.pv (V.field1 1 c6) fun v53 =>
  B.al c6 (B.pv (V.field1 2 c6) fun v56 =>
  B.pv (V.lenSl v56) fun v57 =>
  B.pv (V.toInt .u8 v57) fun v58 =>
  B.call C (N 423) [v53, (.int .i64 2)] h fun v54 h =>
  B.newO h (fillL [(0, none, v58)] (repL 1 [.int .u8 0])) fun i59 h =>
  B.newO h (fillL [(0, none, v54), (1, none, (.sl i59 0 0 1 1 1))] (repL 2 [.nils])) fun i60 h =>
  row_All.k15 C N Q Y3 v3 v4 (.sl i60 0 0 2 1 2) v46 v47 v48 c1 c6 h))
@[simp] def row_All.k17 (C : CSem) (N : Nat → Nat) (Q : AVal → AHeap → Prop) (Y3 : List AVal → AHeap → Prop) (v3 v4 v46 v47 v48 c1 : AVal) (h : AHeap) : Prop :=
 B.pv (V.idxS 4 v46 v48) fun v50 =>
  B.ldn h v50 4 fun v51 =>
  B.pv (V.setN 0 4 v51 (.agg [.str [], .int .i64 0, .nils, .nils])) fun c6 =>
  row_All.k16 C N Q Y3 v3 v4 v46 v47 v48 c1 c6 h
@[simp] def row_All.k18 (C : CSem) (N : Nat → Nat) (Q : AVal → AHeap → Prop) (Y3 : List AVal → AHeap → Prop) (v3 v4 v46 v47 v48 v49 c1 : AVal) (h : AHeap) : Prop :=
 B.cond v49
  (row_All.k17 C N Q Y3 v3 v4 v46 v47 v48 c1 h)
  (B.al c1 (B.pv (V.field1 4 c1) fun v108 =>
  B.pv (V.lenSl v108) fun v109 =>
  LoopR (row_All.l7 C N Q v3 v4 v108 v109 c1) [(.int .i64 0)] h))
@[simp] def row_All.l19 (C : CSem) (N : Nat → Nat) (Q : AVal → AHeap → Prop) (v3 v4 v46 v47 c1 : AVal) : List AVal → AHeap → (List AVal → AHeap → Prop) → Prop
 | [v48], h, Y3 => B.pv (V.bin .lss v48 v47) fun v49 =>
  row_All.k18 C N Q Y3 v3 v4 v46 v47 v48 v49 c1 h
 | _, _, _ => False
@[simp] def row_All.k20 (C : CSem) (N : Nat → Nat) (Q : AVal → AHeap → Prop) (v3 v4 c1 : AVal) (h : AHeap) : Prop :=
 B.newO h (fillL [(0, none, (.int .u8 42)), (1, none, (.int .u8 108)), (2, none, (.int .u8 111)), (3, none, (.int .u8 116))] (repL 4 [.int .u8 0])) fun i38 h =>
  B.conv h (.sl i38 0 0 4 1 4) fun v39 =>
  B.al c1 (B.pv (V.field1 1 c1) fun v41 =>
  B.call C (N 423) [v41, (.int .i64 8)] h fun v42 h =>
  B.newO h (fillL [(0, none, v42)] (repL 1 [.nils])) fun i43 h =>
  B.callv h C v4 [v39, (.sl i43 0 0 1 1 1)] fun v44 h =>
  B.al c1 (B.pv (V.field1 3 c1) fun v46 =>
  B.pv (V.lenSl v46) fun v47 =>
  LoopR (row_All.l19 C N Q v3 v4 v46 v47 c1) [(.int .i64 0)] h))
@[simp] def row_All.k21 (C : CSem) (N : Nat → Nat) (Q : AVal → AHeap → Prop) (v3 v4 c1 : AVal) (h : AHeap) : Prop :=
 B.newO h (fillL [(0, none, (.int .u8 42)), (1, none, (.int .u8 108)), (2, none, (.int .u8 105)), (3, none, (.int .u8 110)), (4, none, (.int .u8 101))] (repL 5 [.int .u8 0])) fun i30 h =>
  B.conv h (.sl i30 0 0 5 1 5) fun v31 =>
  B.al c1 (B.pv (V.field1 2 c1) fun v33 =>
  B.call C (N 423) [v33, (.int .i64 8)] h fun v34 h =>
  B.newO h (fillL [(0, none, v34)] (repL 1 [.nils])) fun i35 h =>
  B.callv h C v4 [v31, (.sl i35 0 0 1 1 1)] fun v36 h =>
  row_All.k20 C N Q v3 v4 c1 h)
@[simp] def row_All.k22 (C : CSem) (N : Nat → Nat) (Q : AVal → AHeap → Prop) (v3 v4 c1 : AVal) (h : AHeap) : Prop :=
 B.newO h (fillL [(0, none, (.int .u8 42)), (1, none, (.int .u8 100)), (2, none, (.int .u8 97)), (3, none, (.int .u8 121))] (repL 4 [.int .u8 0])) fun i22 h =>
  B.conv h (.sl i22 0 0 4 1 4) fun v23 =>
  B.al c1 (B.pv (V.field1 0 c1) fun v25 =>
  B.call C (N 423) [v25, (.int .i64 2)] h fun v26 h =>
  B.newO h (fillL [(0, none, v26)] (repL 1 [.nils])) fun i27 h =>
  B.callv h C v4 [v23, (.sl i27 0 0 1 1 1)] fun v28 h =>
  row_All.k21 C N Q v3 v4 c1 h)
@[simp] def row_All.k23 (C : CSem) (N : Nat → Nat) (Q : AVal → AHeap → Prop) (c1 : AVal) (h : AHeap) : Prop :=
 B.pv (V.fieldN 0 6 c1) fun v17 =>
  B.call C (N 426) [v17] h fun v18 h =>
  B.pv (V.un .not v18) fun v19 =>
  B.cond v19
  (Q .nils h)
  (B.newO h (some [.nils]) fun i3 h =>
  row_All.k22 C N Q (.ptr i3 0 0) (.fn (N 425) [] [(.ptr i3 0 0)]) c1 h)
@[simp] def row_All.cps (C : CSem) (N : Nat → Nat) (v0 : AVal) (h : AHeap) (Q : AVal → AHeap → Prop) : Prop :=
 B.pv (A.boxN 6 v0) fun c1 =>
  row_All.k23 C N Q c1 h
def row_All.Imp (C : CSem) (N : Nat → Nat) : Prop := ∀ (v0 : AVal) (h : AHeap) (Q : AVal → AHeap → Prop), row_All.cps C N v0 h (dn Q) → C (N 412) [v0] h Q
@[simp] def row_State.k1 (C : CSem) (N : Nat → Nat) (Q : AVal → AHeap → Prop) (v5 c2 c4 : AVal) (h : AHeap) : Prop :=
 B.pv (V.fieldN 0 6 c4) fun v133 =>
  B.call C (N 412) [v133] h fun v134 h =>
  B.call C (N 431) [v134, v5, (.fn (N 430) [] [])] h fun v137 h =>
  B.pv (V.un .not v137) fun v138 =>
  B.gd h v138 false (fun K => K v5 h) fun v140 h =>
  B.gd h v138 false (fun K => B.pv (V.lenSl v140) fun v => K v h) fun v141 h =>
  B.gd h v138 false (fun K => B.pv (V.bin .eql v141 (.int .i64 0)) fun v => K v h) fun v142 h =>
  B.pick v138 (.bool true) v142 fun v143 =>
  B.cond v143
  (B.pv (A.bld [] [.int .i64 0, .int .i64 0, .int .i64 0, .nils, .nils, .nils]) fun v144 =>
  B.pv (V.setN 0 6 v144 c2) fun c2 =>
  B.pv (oneOf (joinV (V.fieldN 0 6 c2) (joinV (some (.int .i64 4)) (some [])))) fun v => Q v h)
  (B.pv (V.fieldN 0 6 c4) fun v145 =>
  B.pv (V.setN 0 6 v145 c2) fun c2 =>
  B.pv (oneOf (joinV (V.fieldN 0 6 c2) (joinV (some (.int .i64 0)) (some [])))) fun v => Q v h)
@[simp] def row_State.k2 (C : CSem) (N : Nat → Nat) (Q : AVal → AHeap → Prop) (Y1 : List AVal → AHeap → Prop) (v0 v5 v8 v9 v12 v13 v14 c2 c4 : AVal) (h : AHeap) : Prop :=
 B.nilCheck v8 fun v122 =>
  B.pv (V.fieldAddr 1 v122) fun v123 =>
  B.ld h v123 fun v124 =>
  B.gd h v124 false (fun K => K v9 h) fun v126 h =>
  B.gd h v124 false (fun K => B.nilCheck v126 fun v => K v h) fun v127 h =>
  B.gd h v124 false (fun K => B.pv (V.fieldAddr 1 v127) fun v => K v h) fun v128 h =>
  B.gd h v124 false (fun K => B.ld h v128 fun v => K v h) fun v129 h =>
  B.pick v124 (.bool true) v129 fun v130 =>
  B.cond v130
  (B.pv (A.bld [] [.int .i64 0, .int .i64 0, .int .i64 0, .nils, .nils, .nils]) fun v131 =>
  B.pv (V.setN 0 6 v131 c2) fun c2 =>
  B.pv (oneOf (joinV (V.fieldN 0 6 c2) (joinV (some (.int .i64 4)) (some [])))) fun v => Q v h)
  (B.pv (V.bin .add v14 (.int .i64 1)) fun v132 =>
  Y1 [v5, v132, c2, c4] h)
@[simp] def row_State.k3 (C : CSem) (N : Nat → Nat) (Q : AVal → AHeap → Prop) (Y1 : List AVal → AHeap → Prop) (v0 v5 v8 v9 v12 v13 v14 c2 c4 c7 : AVal) (h : AHeap) : Prop :=
 B.al c7 (B.pv (V.field1 0 c7) fun v59 =>
  B.bytesStr h v59 fun v60 =>
  B.pv (V.bin .eql v60 (.str [42, 100, 97, 121])) fun v66 =>
  B.cond v66
  (B.call C (N 432) [v8, (.int .i64 2)] h fun v68 h =>
  B.al c4 (B.pv (V.setF 0 v68 c4) fun c4 =>
  row_State.k2 C N Q Y1 v0 v5 v8 v9 v12 v13 v14 c2 c4 h))
  (B.pv (V.bin .eql v60 (.str [42, 108, 111, 116])) fun v72 =>
  B.cond v72
  (B.call C (N 432) [v8, (.int .i64 8)] h fun v74 h =>
  B.al c4 (B.pv (V.setF 1 v74 c4) fun c4 =>
  row_State.k2 C N Q Y1 v0 v5 v8 v9 v12 v13 v14 c2 c4 h))
  (B.pv (V.bin .eql v60 (.str [42, 108, 105, 110, 101])) fun v78 =>
  B.cond v78
  (B.call C (N 432) [v8, (.int .i64 8)] h fun v80 h =>
  B.al c4 (B.pv (V.setF 2 v80 c4) fun c4 =>
  row_State.k2 C N Q Y1 v0 v5 v8 v9 v12 v13 v14 c2 c4 h))
  (B.pv (V.idxStr v60 (.int .i64 0)) fun v84 =>
  B.pv (V.bin .eql v84 (.int .u8 105)) fun v85 =>
  B.cond v85
  (B.al c4 (B.pv (V.field1 3 c4) fun v87 =>
  B.pv (V.cutStr v60 (some (.int .i64 1)) none) fun v90 =>
  B.call C (N 433) [v8, v90] h fun v91 h =>
  B.newO h (fillL [(0, some 4, v91)] (repL 1 [.str [], .int .i64 0, .nils, .nils])) fun i92 h =>
  B.appW h 4 72 v87 (.sl i92 0 0 1 4 1) fun v93 h =>
  B.al c4 (B.pv (V.setF 3 v93 c4) fun c4 =>
  row_State.k2 C N Q Y1 v0 v5 v8 v9 v12 v13 v14 c2 c4 h)))
  (B.pv (V.idxStr v60 (.int .i64 0)) fun v97 =>
  B.pv (V.bin .eql v97 (.int .u8 108)) fun v98 =>
  B.cond v98
  (B.al c4 (B.pv (V.field1 4 c4) fun v100 =>
  B.call C (N 432) [v9, (.int .i64 8)] h fun v103 h =>
  B.call C (N 434) [v8, v103] h fun v104 h =>
  B.newO h (fillL [(0, some 6, v104)] (repL 1 [.int .i64 0, .str [], .int .i64 0, .int .i64 0, .int .i64 0, .bool false])) fun i105 h =>
  B.appW h 6 56 v100 (.sl i105 0 0 1 6 1) fun v106 h =>
  B.al c4 (B.pv (V.setF 4 v106 c4) fun c4 =>
  row_State.k2 C N Q Y1 v0 v5 v8 v9 v12 v13 v14 c2 c4 h)))
  (B.pv (V.idxStr v60 (.int .i64 0)) fun v110 =>
  B.pv (V.bin .eql v110 (.int .u8 111)) fun v111 =>
  B.cond v111
  (B.al c4 (B.pv (V.field1 5 c4) fun v113 =>
  B.call C (N 432) [v9, (.int .i64 8)] h fun v116 h =>
  B.call C (N 435) [v8, v116] h fun v117 h =>
  B.newO h (fillL [(0, some 8, v117)] (repL 1 [.int .i64 0, .str [], .int .i64 0, .int .i64 0, .int .i64 0, .int .u8 0, .int .i64 0, .str []])) fun i118 h =>
  B.appW h 8 80 v113 (.sl i118 0 0 1 8 1) fun v119 h =>
  B.al c4 (B.pv (V.setF 5 v119 c4) fun c4 =>
  row_State.k2 C N Q Y1 v0 v5 v8 v9 v12 v13 v14 c2 c4 h)))
  (B.nilCheck v8 fun v62 =>
  B.pv (V.fieldAddr 1 v62) fun v63 =>
  B.st h v63 (.bool true) fun h =>
  row_State.k2 C N Q Y1 v0 v5 v8 v9 v12 v13 v14 c2 c4 h)))))))
@[simp] def row_State.k4 (C : CSem) (N : Nat → Nat) (Q : AVal → AHeap → Prop) (Y1 : List AVal → AHeap → Prop) (v0 v5 v12 v13 v14 c2 c4 c7 : AVal) (h : AHeap) : Prop :=
 B.al c7 (B.pv (V.field1 1 c7) fun v50 =>
  B.pv (A.bld [(0, none, v50)] [.nils, .bool false]) fun v51 =>
  B.al c7 (B.pv (V.field1 0 c7) fun v54 =>
  B.pv (V.cutSl 1 v54 (some (.int .i64 1)) none) fun v55 =>
  B.pv (A.bld [(0, none, v55)] [.nils, .bool false]) fun v56 =>
  B.newO h (A.cellsN 2 v51) fun i52 h =>
  B.newO h (A.cellsN 2 v56) fun i57 h =>
  row_State.k3 C N Q Y1 v0 v5 (.ptr i52 0 0) (.ptr i57 0 0) v12 v13 v14 c2 c4 c7 h))
@[simp] def row_State.k5 (C : CSem) (N : Nat → Nat) (Q : AVal → AHeap → Prop) (Y1 : List AVal → AHeap → Prop) (v0 v5 v12 v13 v14 c2 c4 c7 : AVal) (h : AHeap) : Prop :=
 B.pv (V.fieldN 0 2 c7) fun v46 =>
  B.newO h (fillL [(0, some 2, v46)] (repL 1 [.nils, .nils])) fun i47 h =>
  B.appW h 2 48 v5 (.sl i47 0 0 1 2 1) fun v48 h =>
  row_State.k4 C N Q Y1 v0 v48 v12 v13 v14 c2 c4 c7 h
@[simp] def row_State.k6 (C : CSem) (N : Nat → Nat) (Q : AVal → AHeap → Prop) (Y1 : List AVal → AHeap → Prop) (v0 v5 v12 v13 v14 c2 c4 c7 : AVal) (h : AHeap) : Prop :=
 B.al c7 (B.pv (V.field1 0 c7) fun v41 =>
  B.pv (V.idxS 1 v41 (.int .i64 0)) fun v42 =>
  B.ld h v42 fun v43 =>
  B.pv (V.bin .eql v43 (.int .u8 97)) fun v44 =>
  B.cond v44
  (B.pv (V.bin .add v14 (.int .i64 1)) fun v132 =>
  Y1 [v5, v132, c2, c4] h)
  (row_State.k5 C N Q Y1 v0 v5 v12 v13 v14 c2 c4 c7 h))
@[simp] def row_State.k7 (C : CSem) (N : Nat → Nat) (Q : AVal → AHeap → Prop) (Y1 : List AVal → AHeap → Prop) (v0 v5 v6 v12 v13 v14 c2 c4 c7 : AVal) (h : AHeap) : Prop :=
 B.pv (V.bin .gtr v6 (.int .i64 0)) fun v20 =>
  B.gd h v20 true (fun K => K v0 h) fun v22 h =>
  B.gd h v20 true (fun K => K v6 h) fun v23 h =>
  B.gd h v20 true (fun K => B.pv (V.bin .sub v23 (.int .i64 1)) fun v => K v h) fun v24 h =>
  B.gd h v20 true (fun K => B.pv (V.idxS 2 v22 v24) fun v => K v h) fun v25 h =>
  B.gd h v20 true (fun K => B.pv (V.fieldAddr 0 v25) fun v => K v h) fun v26 h =>
  B.gd h v20 true (fun K => B.ld h v26 fun v => K v h) fun v27 h =>
  B.al c7 (B.gd h v20 true (fun K => K .undef h) fun _ h =>
  B.gd h v20 true (fun K => B.pv (V.field1 0 c7) fun v => K v h) fun v29 h =>
  B.gd h v20 true (fun K => B.call C (N 274) [v27, v29] h K) fun v30 h =>
  B.gd h v20 true (fun K => B.pv (V.bin .geq v30 (.int .i64 0)) fun v => K v h) fun v31 h =>
  B.pick v20 v31 (.bool false) fun v32 =>
  B.al c7 (B.gd h v32 false (fun K => K .undef h) fun _ h =>
  B.gd h v32 false (fun K => B.pv (V.field1 0 c7) fun v => K v h) fun v35 h =>
  B.gd h v32 false (fun K => B.pv (V.lenSl v35) fun v => K v h) fun v36 h =>
  B.gd h v32 false (fun K => B.pv (V.bin .eql v36 (.int .i64 0)) fun v => K v h) fun v37 h =>
  B.pick v32 (.bool true) v37 fun v38 =>
  B.cond v38
  (B.pv (A.bld [] [.int .i64 0, .int .i64 0, .int .i64 0, .nils, .nils, .nils]) fun v39 =>
  B.pv (V.setN 0 6 v39 c2) fun c2 =>
  B.pv (oneOf (joinV (V.fieldN 0 6 c2) (joinV (some (.int .i64 4)) (some [])))) fun v => Q v h)
  (row_State.k6 C N Q Y1 v0 v5 v12 v13 v14 c2 c4 c7 h)))
@[simp] def row_State.k8 (C : CSem) (N : Nat → Nat) (Q : AVal → AHeap → Prop) (Y1 : List AVal → AHeap → Prop) (v0 v5 v12 v13 v14 c2 c4 : AVal) (h : AHeap) : Prop :=
 B.pv (V.idxS 2 v12 v14) fun v17 =>
  B.ldn h v17 2 fun v18 =>
  B.pv (V.setN 0 2 v18 (.agg [.nils, .nils])) fun c7 =>
  row_State.k7 C N Q Y1 v0 v5 v14 v12 v13 v14 c2 c4 c7 h
@[simp] def row_State.l9 (C : CSem) (N : Nat → Nat) (Q : AVal → AHeap → Prop) (v0 v12 v13 : AVal) : List AVal → AHeap → (List AVal → AHeap → Prop) → Prop
 | [v5, v14, c2, c4], h, Y1 => B.pv (V.bin .lss v14 v13) fun v15 =>
  B.cond v15
  (row_State.k8 C N Q Y1 v0 v5 v12 v13 v14 c2 c4 h)
  (row_State.k1 C N Q v5 c2 c4 h)
 | _, _, _ => False
@[simp] def row_State.k10 (C : CSem) (N : Nat → Nat) (Q : AVal → AHeap → Prop) (v0 c2 : AVal) (h : AHeap) : Prop :=
 B.pv (V.lenSl v0) fun v13 =>
  LoopR (row_State.l9 C N Q v0 v0 v13) [.nils, (.int .i64 0), c2, (.agg [.int .i64 0, .int .i64 0, .int .i64 0, .nils, .nils, .nils])] h
@[simp] def row_State.cps (C : CSem) (N : Nat → Nat) (v0 : AVal) (h : AHeap) (Q : AVal → AHeap → Prop) : Prop :=
 row_State.k10 C N Q v0 (.agg [.int .i64 0, .int .i64 0, .int .i64 0, .nils, .nils, .nils]) h
def row_State.Imp (C : CSem) (N : Nat → Nat) : Prop := ∀ (v0 : AVal) (h : AHeap) (Q : AVal → AHeap → Prop), row_State.cps C N v0 h (dn Q) → C (N 413) [v0] h Q
@[simp] def row_Answered.k1 (C : CSem) (N : Nat → Nat) (Q : AVal → AHeap → Prop) (v9 v11 c6 : AVal) (h : AHeap) : Prop :=
 B.call C (N 38) [v9] h fun v81 h =>
  B.pv (V.ext 0 v81) fun v82 =>
  B.pv (V.ext 1 v81) fun v83 =>
  B.pv (V.ext 2 v81) fun v84 =>
  B.pv (V.setN 0 7 v82 (.agg [.int .i64 0, .int .i64 0, .int .i64 0, .str [], .int .u8 0, .nils, .nils])) fun c14 =>
  B.pv (V.un .not v11) fun v86 =>
  B.gd h v86 false (fun K => K v84 h) fun v88 h =>
  B.gd h v86 false (fun K => B.pv (V.bin .neq v88 (.int .i64 0)) fun v => K v h) fun v89 h =>
  B.pick v86 (.bool true) v89 fun v90 =>
  B.gd h v90 false (fun K => K v83 h) fun v92 h =>
  B.gd h v90 false (fun K => K v9 h) fun v93 h =>
  B.gd h v90 false (fun K => B.pv (V.lenSl v93) fun v => K v h) fun v94 h =>
  B.gd h v90 false (fun K => B.pv (V.bin .neq v92 v94) fun v => K v h) fun v95 h =>
  B.pick v90 (.bool true) v95 fun v96 =>
  B.cond v96
  (B.pv (A.bld [] [.int .i64 0, .int .i64 0, .int .i64 0, .str [], .int .u8 0, .nils, .nils]) fun v97 =>
  B.pv (V.setN 0 7 v97 c6) fun c6 =>
  B.pv (oneOf (joinV (V.fieldN 0 7 c6) (joinV (some (.bool false)) (some [])))) fun v => Q v h)
  (B.pv (V.fieldN 0 7 c14) fun v98 =>
  B.pv (V.setN 0 7 v98 c6) fun c6 =>
  B.pv (oneOf (joinV (V.fieldN 0 7 c6) (joinV (some (.bool true)) (some [])))) fun v => Q v h)
@[simp] def row_Answered.k2 (C : CSem) (N : Nat → Nat) (Q : AVal → AHeap → Prop) (Y1 : List AVal → AHeap → Prop) (v0 v1 v8 v9 v10 v11 v23 v24 v25 c6 : AVal) (h : AHeap) : Prop :=
 B.pv (V.bin .lss v25 v24) fun v26 =>
  B.cond v26
  (B.pv (V.idxS 2 v23 v25) fun v27 =>
  B.ldn h v27 2 fun v28 =>
  B.pv (V.setN 0 2 v28 (.agg [.nils, .nils])) fun c13 =>
  B.al c13 (B.pv (V.field1 0 c13) fun v30 =>
  B.pv (V.lenSl v30) fun v31 =>
  B.pv (V.lenSl v8) fun v33 =>
  B.pv (V.bin .neq v31 v33) fun v34 =>
  B.al c13 (B.gd h v34 false (fun K => K .undef h) fun _ h =>
  B.gd h v34 false (fun K => B.pv (V.field1 0 c13) fun v => K v h) fun v37 h =>
  B.gd h v34 false (fun K => K v8 h) fun v38 h =>
  B.gd h v34 false (fun K => B.pv (V.cutSl 1 v38 none (some (.int .i64 10))) fun v => K v h) fun v39 h =>
  B.gd h v34 false (fun K => B.call C (N 436) [v37, v39] h K) fun v40 h =>
  B.gd h v34 false (fun K => B.pv (V.un .not v40) fun v => K v h) fun v41 h =>
  B.pick v34 (.bool true) v41 fun v42 =>
  B.cond v42
  (B.pv (V.bin .add v25 (.int .i64 1)) fun v78 =>
  Y1 [v9, v10, v11, v78] h)
  (B.al c13 (B.gd h v11 true (fun K => K .undef h) fun _ h =>
  B.gd h v11 true (fun K => B.pv (V.field1 0 c13) fun v => K v h) fun v46 h =>
  B.gd h v11 true (fun K => K v0 h) fun v47 h =>
  B.gd h v11 true (fun K => K v1 h) fun v48 h =>
  B.gd h v11 true (fun K => K v10 h) fun v49 h =>
  B.gd h v11 true (fun K => B.call C (N 427) [v47, v48, v49] h K) fun v50 h =>
  B.gd h v11 true (fun K => B.call C (N 273) [v46, v50] h K) fun v51 h =>
  B.pick v11 v51 (.bool false) fun v52 =>
  B.gd h v52 true (fun K => K v9 h) fun v54 h =>
  B.gd h v52 true (fun K => B.pv (V.lenSl v54) fun v => K v h) fun v55 h =>
  B.gd h v52 true (fun K => K v10 h) fun v56 h =>
  B.gd h v52 true (fun K => B.pv (V.bin .mul v56 (.int .i64 180)) fun v => K v h) fun v57 h =>
  B.gd h v52 true (fun K => B.pv (V.bin .eql v55 v57) fun v => K v h) fun v58 h =>
  B.pick v52 v58 (.bool false) fun v59 =>
  B.al c13 (B.gd h v59 true (fun K => K .undef h) fun _ h =>
  B.gd h v59 true (fun K => B.pv (V.field1 1 c13) fun v => K v h) fun v62 h =>
  B.gd h v59 true (fun K => B.pv (V.lenSl v62) fun v => K v h) fun v63 h =>
  B.gd h v59 true (fun K => B.pv (V.bin .gtr v63 (.int .i64 0)) fun v => K v h) fun v64 h =>
  B.pick v59 v64 (.bool false) fun v65 =>
  B.al c13 (B.gd h v65 true (fun K => K .undef h) fun _ h =>
  B.gd h v65 true (fun K => B.pv (V.field1 1 c13) fun v => K v h) fun v68 h =>
  B.gd h v65 true (fun K => B.pv (V.lenSl v68) fun v => K v h) fun v69 h =>
  B.gd h v65 true (fun K => B.pv (V.bin .leq v69 (.int .i64 180)) fun v => K v h) fun v70 h =>
  B.pick v65 v70 (.bool false) fun v71 =>
  B.al c13 (B.pv (V.field1 1 c13) fun v74 =>
  B.appW h 1 1 v9 v74 fun v75 h =>
  B.pv (V.bin .add v10 (.int .i64 1)) fun v77 =>
  B.pv (V.bin .add v25 (.int .i64 1)) fun v78 =>
  Y1 [v75, v77, v71, v78] h))))))))
  (row_Answered.k1 C N Q v9 v11 c6 h)
@[simp] def row_Answered.l3 (C : CSem) (N : Nat → Nat) (Q : AVal → AHeap → Prop) (v0 v1 v8 v23 v24 c6 : AVal) : List AVal → AHeap → (List AVal → AHeap → Prop) → Prop
 | [v9, v10, v11, v25], h, Y1 => row_Answered.k2 C N Q Y1 v0 v1 v8 v9 v10 v11 v23 v24 v25 c6 h
 | _, _, _ => False
@[simp] def row_Answered.k4 (C : CSem) (N : Nat → Nat) (Q : AVal → AHeap → Prop) (v0 v1 v2 v8 c6 : AVal) (h : AHeap) : Prop :=
 B.pv (V.eqSl .eql v8 .nils) fun v21 =>
  B.cond v21
  (B.pv (A.bld [] [.int .i64 0, .int .i64 0, .int .i64 0, .str [], .int .u8 0, .nils, .nils]) fun v22 =>
  B.pv (V.setN 0 7 v22 c6) fun c6 =>
  B.pv (oneOf (joinV (V.fieldN 0 7 c6) (joinV (some (.bool false)) (some [])))) fun v => Q v h)
  (B.pv (V.lenSl v2) fun v24 =>
  LoopR (row_Answered.l3 C N Q v0 v1 v8 v2 v24 c6) [.nils, (.int .i64 0), (.bool true), (.int .i64 0)] h)
@[simp] def row_Answered.k5 (C : CSem) (N : Nat → Nat) (Q : AVal → AHeap → Prop) (v0 v1 v2 : AVal) (h : AHeap) : Prop :=
 B.call C (N 427) [v0, v1, (.int .i64 0)] h fun v19 h =>
  row_Answered.k4 C N Q v0 v1 v2 v19 (.agg [.int .i64 0, .int .i64 0, .int .i64 0, .str [], .int .u8 0, .nils, .nils]) h
@[simp] def row_Answered.cps (C : CSem) (N : Nat → Nat) (v0 v1 v2 : AVal) (h : AHeap) (Q : AVal → AHeap → Prop) : Prop :=
 row_Answered.k5 C N Q v0 v1 v2 h
def row_Answered.Imp (C : CSem) (N : Nat → Nat) : Prop := ∀ (v0 v1 v2 : AVal) (h : AHeap) (Q : AVal → AHeap → Prop), row_Answered.cps C N v0 v1 v2 h (dn Q) → C (N 414) [v0, v1, v2] h Q
@[simp] def row_Answer.k1 (C : CSem) (N : Nat → Nat) (Q : AVal → AHeap → Prop) (Z1 : Nat → AHeap → Prop) (v3 v4 v10 v27 : AVal) (h : AHeap) : Prop :=
 B.ld h v10 fun v28 =>
  B.ld h v3 fun v29 =>
  B.ld h v4 fun v30 =>
  B.ld h v10 fun v31 =>
  B.pv (V.lenSl v31) fun v32 =>
  B.call C (N 427) [v29, v30, v32] h (B.keepS h [(v10, none)] (fun v33 h => B.call C (N 428) [v27] h (B.keepS h [(v10, none)] (fun v35 h => B.pv (A.bld [(0, none, v33), (1, none, v35)] [.nils, .nils]) fun v36 =>
  B.newO h (fillL [(0, some 2, v36)] (repL 1 [.nils, .nils])) fun i37 h =>
  B.appW h 2 48 v28 (.sl i37 0 0 1 2 1) fun v38 h =>
  B.st h v10 v38 fun h =>
  Z1 0 h))))
@[simp] def row_Answer.r2 (C : CSem) (N : Nat → Nat) (Q : AVal → AHeap → Prop) (v3 v4 v10 : AVal) (v27 : AVal) (h : AHeap) (Z1 : Nat → AHeap → Prop) : Prop :=
 row_Answer.k1 C N Q Z1 v3 v4 v10 v27 h
@[simp] def row_Answer.k3 (C : CSem) (N : Nat → Nat) (Q : AVal → AHeap → Prop) (v3 v4 v8 v10 : AVal) (h : AHeap) : Prop :=
 B.call C (N 429) [v8, (.int .i64 180)] h fun v26 h =>
  RangeG C v26 (W1 fun v27 h Z1 => row_Answer.r2 C N Q v3 v4 v10 v27 h Z1) h (RK [(0, fun h => B.ld h v10 fun v39 =>
  Q (.tup [v39, (.int .i64 0)]) h)])
@[simp] def row_Answer.k4 (C : CSem) (N : Nat → Nat) (Q : AVal → AHeap → Prop) (v3 v4 v8 v9 : AVal) (h : AHeap) : Prop :=
 B.pv (V.bin .neq v9 (.int .i64 0)) fun v18 =>
  B.gd h v18 false (fun K => B.ld h v3 fun v => K v h) fun v20 h =>
  B.gd h v18 false (fun K => B.ld h v4 fun v => K v h) fun v21 h =>
  B.gd h v18 false (fun K => B.call C (N 427) [v20, v21, (.int .i64 0)] h K) fun v22 h =>
  B.gd h v18 false (fun K => B.pv (V.eqSl .eql v22 .nils) fun v => K v h) fun v23 h =>
  B.pick v18 (.bool true) v23 fun v24 =>
  B.cond v24
  (Q (.tup [.nils, (.int .i64 2)]) h)
  (B.newO h (some [.nils]) fun i10 h =>
  row_Answer.k3 C N Q v3 v4 v8 (.ptr i10 0 0) h)
@[simp] def row_Answer.k5 (C : CSem) (N : Nat → Nat) (Q : AVal → AHeap → Prop) (v3 v4 c5 : AVal) (h : AHeap) : Prop :=
 B.pv (V.fieldN 0 7 c5) fun v13 =>
  B.call C (N 28) [v13] h fun v14 h =>
  B.pv (V.ext 0 v14) fun v15 =>
  B.pv (V.ext 1 v14) fun v16 =>
  row_Answer.k4 C N Q v3 v4 v15 v16 h
@[simp] def row_Answer.k6 (C : CSem) (N : Nat → Nat) (Q : AVal → AHeap → Prop) (v0 v1 v2 : AVal) (h : AHeap) : Prop :=
 B.newO h (A.cells1 v0) fun i3 h =>
  B.newO h (A.cells1 v1) fun i4 h =>
  B.pv (A.boxN 7 v2) fun c5 =>
  row_Answer.k5 C N Q (.ptr i3 0 0) (.ptr i4 0 0) c5 h
@[simp] def row_Answer.cps (C : CSem) (N : Nat → Nat) (v0 v1 v2 : AVal) (h : AHeap) (Q : AVal → AHeap → Prop) : Prop :=
 row_Answer.k6 C N Q v0 v1 v2 h
def row_Answer.Imp (C : CSem) (N : Nat → Nat) : Prop := ∀ (v0 v1 v2 : AVal) (h : AHeap) (Q : AVal → AHeap → Prop), row_Answer.cps C N v0 v1 v2 h (dn Q) → C (N 415) [v0, v1, v2] h Q
@[simp] def row_number.k1 (C : CSem) (N : Nat → Nat) (Q : AVal → AHeap → Prop) (Y1 : List AVal → AHeap → Prop) (v0 v1 v5 v10 v11 : AVal) (h : AHeap) : Prop :=
 B.pv (V.bin .lss v11 v10) fun v12 =>
  B.cond v12
  (B.pv (V.bin .sub v1 (.int .i64 1)) fun v18 =>
  B.pv (V.bin .sub v18 v11) fun v20 =>
  B.pv (V.bin .mul (.int .i64 8) v20) fun v21 =>
  B.pv (V.bin .shr v0 v21) fun v22 =>
  B.pv (V.toInt .u8 v22) fun v23 =>
  B.pv (V.idxS 1 v5 v11) fun v24 =>
  B.st h v24 v23 fun h =>
  B.pv (V.bin .add v11 (.int .i64 1)) fun v25 =>
  Y1 [v25] h)
  (Q v5 h)
@[simp] def row_number.l2 (C : CSem) (N : Nat → Nat) (Q : AVal → AHeap → Prop) (v0 v1 v5 v10 : AVal) : List AVal → AHeap → (List AVal → AHeap → Prop) → Prop
 | [v11], h, Y1 => row_number.k1 C N Q Y1 v0 v1 v5 v10 v11 h
 | _, _, _ => False
@[simp] def row_number.cps (C : CSem) (N : Nat → Nat) (v0 v1 : AVal) (h : AHeap) (Q : AVal → AHeap → Prop) : Prop :=
 0 < 1 ∧ B.mks h 1 (some [.int .u8 0]) v1 v1 fun v8 h =>
  B.pv (V.lenSl v8) fun v10 =>
  LoopR (row_number.l2 C N Q v0 v1 v8 v10) [(.int .i64 0)] h
def row_number.Imp (C : CSem) (N : Nat → Nat) : Prop := ∀ (v0 v1 : AVal) (h : AHeap) (Q : AVal → AHeap → Prop), row_number.cps C N v0 v1 h (dn Q) → C (N 423) [v0, v1] h Q
@[simp] def row_join.cps (C : CSem) (N : Nat → Nat) (v0 : AVal) (h : AHeap) (Q : AVal → AHeap → Prop) : Prop :=
 B.call C (N 439) [v0] h fun v4 h =>
  Q v4 h
def row_join.Imp (C : CSem) (N : Nat → Nat) : Prop := ∀ (v0 : AVal) (h : AHeap) (Q : AVal → AHeap → Prop), row_join.cps C N v0 h (dn Q) → C (N 424) [v0] h Q
@[simp] def row_All_1.k1 (C : CSem) (N : Nat → Nat) (Q : AVal → AHeap → Prop) (v0 v1 v2 : AVal) (h : AHeap) : Prop :=
 B.ld h v2 fun v5 =>
  B.call C (N 424) [v1] h (B.keepS h [(v2, none)] (fun v8 h => B.pv (A.bld [(0, none, v0), (1, none, v8)] [.nils, .nils]) fun v9 =>
  B.newO h (fillL [(0, some 2, v9)] (repL 1 [.nils, .nils])) fun i10 h =>
  B.appW h 2 48 v5 (.sl i10 0 0 1 2 1) fun v11 h =>
  B.st h v2 v11 fun h =>
  Q (.tup []) h))
@[simp] def row_All_1.cps (C : CSem) (N : Nat → Nat) (v0 v1 v2 : AVal) (h : AHeap) (Q : AVal → AHeap → Prop) : Prop :=
 row_All_1.k1 C N Q v0 v1 v2 h
def row_All_1.Imp (C : CSem) (N : Nat → Nat) : Prop := ∀ (v0 v1 v2 : AVal) (h : AHeap) (Q : AVal → AHeap → Prop), row_All_1.cps C N v0 v1 v2 h (dn Q) → C (N 425) [v0, v1, v2] h Q
@[simp] def row_plain.k1 (C : CSem) (N : Nat → Nat) (Q : AVal → AHeap → Prop) (Y1 : List AVal → AHeap → Prop) (v3 v99 v100 v101 c1 : AVal) (h : AHeap) : Prop :=
 B.pv (V.bin .lss v101 v100) fun v102 =>
  B.cond v102
  (B.pv (V.idxS 8 v99 v101) fun v104 =>
  B.ldn h v104 8 fun v105 =>
  B.pv (V.setN 0 8 v105 (.agg [.int .i64 0, .str [], .int .i64 0, .int .i64 0, .int .i64 0, .int .u8 0, .int .i64 0, .str []])) fun c9 =>
  B.gd h v3 true (fun K => B.pv (V.fieldN 0 8 c9) fun v => K v h) fun v108 h =>
  B.gd h v3 true (fun K => B.call C (N 179) [v108] h K) fun v109 h =>
  B.pick v3 v109 (.bool false) fun v110 =>
  B.gd h v110 true (fun K => K v101 h) fun v112 h =>
  B.gd h v110 true (fun K => B.pv (V.bin .eql v112 (.int .i64 0)) fun v => K v h) fun v113 h =>
  B.gd h v110 true (fun K => K v113 h) fun v114 h =>
  B.al c1 (B.gd h v114 false (fun K => K .undef h) fun _ h =>
  B.gd h v114 false (fun K => B.pv (V.field1 5 c1) fun v => K v h) fun v116 h =>
  B.gd h v114 false (fun K => K v101 h) fun v117 h =>
  B.gd h v114 false (fun K => B.pv (V.bin .sub v117 (.int .i64 1)) fun v => K v h) fun v118 h =>
  B.gd h v114 false (fun K => B.pv (V.idxS 8 v116 v118) fun v => K v h) fun v119 h =>
  B.gd h v114 false (fun K => B.pv (V.fieldAddr 0 v119) fun v => K v h) fun v120 h =>
  B.gd h v114 false (fun K => B.ld h v120 fun v => K v h) fun v121 h =>
  B.al c9 (B.gd h v114 false (fun K => K .undef h) fun _ h =>
  B.gd h v114 false (fun K => B.pv (V.field1 0 c9) fun v => K v h) fun v123 h =>
  B.gd h v114 false (fun K => B.pv (V.bin .lss v121 v123) fun v => K v h) fun v124 h =>
  B.gd h v110 true (fun K => B.pick v114 (.bool true) v124 fun v => K v h) fun v125 h =>
  B.pick v110 v125 (.bool false) fun v126 =>
  B.pv (V.bin .add v101 (.int .i64 1)) fun v127 =>
  Y1 [v126, v127] h)))
  (Q v3 h)
@[simp] def row_plain.l2 (C : CSem) (N : Nat → Nat) (Q : AVal → AHeap → Prop) (v99 v100 c1 : AVal) : List AVal → AHeap → (List AVal → AHeap → Prop) → Prop
 | [v3, v101], h, Y1 => row_plain.k1 C N Q Y1 v3 v99 v100 v101 c1 h
 | _, _, _ => False
@[simp] def row_plain.k3 (C : CSem) (N : Nat → Nat) (Q : AVal → AHeap → Prop) (Y2 : List AVal → AHeap → Prop) (v3 v69 v70 v71 c1 : AVal) (h : AHeap) : Prop :=
 B.pv (V.bin .lss v71 v70) fun v72 =>
  B.cond v72
  (B.pv (V.idxS 6 v69 v71) fun v74 =>
  B.ldn h v74 6 fun v75 =>
  B.pv (V.setN 0 6 v75 (.agg [.int .i64 0, .str [], .int .i64 0, .int .i64 0, .int .i64 0, .bool false])) fun c7 =>
  B.gd h v3 true (fun K => B.pv (V.fieldN 0 6 c7) fun v => K v h) fun v78 h =>
  B.gd h v3 true (fun K => B.call C (N 52) [v78] h K) fun v79 h =>
  B.pick v3 v79 (.bool false) fun v80 =>
  B.gd h v80 true (fun K => K v71 h) fun v82 h =>
  B.gd h v80 true (fun K => B.pv (V.bin .eql v82 (.int .i64 0)) fun v => K v h) fun v83 h =>
  B.gd h v80 true (fun K => K v83 h) fun v84 h =>
  B.al c1 (B.gd h v84 false (fun K => K .undef h) fun _ h =>
  B.gd h v84 false (fun K => B.pv (V.field1 4 c1) fun v => K v h) fun v86 h =>
  B.gd h v84 false (fun K => K v71 h) fun v87 h =>
  B.gd h v84 false (fun K => B.pv (V.bin .sub v87 (.int .i64 1)) fun v => K v h) fun v88 h =>
  B.gd h v84 false (fun K => B.pv (V.idxS 6 v86 v88) fun v => K v h) fun v89 h =>
  B.gd h v84 false (fun K => B.pv (V.fieldAddr 0 v89) fun v => K v h) fun v90 h =>
  B.gd h v84 false (fun K => B.ld h v90 fun v => K v h) fun v91 h =>
  B.al c7 (B.gd h v84 false (fun K => K .undef h) fun _ h =>
  B.gd h v84 false (fun K => B.pv (V.field1 0 c7) fun v => K v h) fun v93 h =>
  B.gd h v84 false (fun K => B.pv (V.bin .lss v91 v93) fun v => K v h) fun v94 h =>
  B.gd h v80 true (fun K => B.pick v84 (.bool true) v94 fun v => K v h) fun v95 h =>
  B.pick v80 v95 (.bool false) fun v96 =>
  B.pv (V.bin .add v71 (.int .i64 1)) fun v97 =>
  Y2 [v96, v97] h)))
  (B.al c1 (B.pv (V.field1 5 c1) fun v99 =>
  B.pv (V.lenSl v99) fun v100 =>
  LoopR (row_plain.l2 C N Q v99 v100 c1) [v3, (.int .i64 0)] h))
@[simp] def row_plain.l4 (C : CSem) (N : Nat → Nat) (Q : AVal → AHeap → Prop) (v69 v70 c1 : AVal) : List AVal → AHeap → (List AVal → AHeap → Prop) → Prop
 | [v3, v71], h, Y2 => row_plain.k3 C N Q Y2 v3 v69 v70 v71 c1 h
 | _, _, _ => False
@[simp] def row_plain.k5 (C : CSem) (N : Nat → Nat) (Q : AVal → AHeap → Prop) (Y3 : List AVal → AHeap → Prop) (v3 v39 v40 v41 c1 : AVal) (h : AHeap) : Prop :=
 B.pv (V.bin .lss v41 v40) fun v42 =>
  B.cond v42
  (B.pv (V.idxS 4 v39 v41) fun v44 =>
  B.ldn h v44 4 fun v45 =>
  B.pv (V.setN 0 4 v45 (.agg [.str [], .int .i64 0, .nils, .nils])) fun c5 =>
  B.gd h v3 true (fun K => B.pv (V.fieldN 0 4 c5) fun v => K v h) fun v48 h =>
  B.gd h v3 true (fun K => B.call C (N 438) [v48] h K) fun v49 h =>
  B.pick v3 v49 (.bool false) fun v50 =>
  B.gd h v50 true (fun K => K v41 h) fun v52 h =>
  B.gd h v50 true (fun K => B.pv (V.bin .eql v52 (.int .i64 0)) fun v => K v h) fun v53 h =>
  B.gd h v50 true (fun K => K v53 h) fun v54 h =>
  B.al c1 (B.gd h v54 false (fun K => K .undef h) fun _ h =>
  B.gd h v54 false (fun K => B.pv (V.field1 3 c1) fun v => K v h) fun v56 h =>
  B.gd h v54 false (fun K => K v41 h) fun v57 h =>
  B.gd h v54 false (fun K => B.pv (V.bin .sub v57 (.int .i64 1)) fun v => K v h) fun v58 h =>
  B.gd h v54 false (fun K => B.pv (V.idxS 4 v56 v58) fun v => K v h) fun v59 h =>
  B.gd h v54 false (fun K => B.pv (V.fieldAddr 0 v59) fun v => K v h) fun v60 h =>
  B.gd h v54 false (fun K => B.ld h v60 fun v => K v h) fun v61 h =>
  B.al c5 (B.gd h v54 false (fun K => K .undef h) fun _ h =>
  B.gd h v54 false (fun K => B.pv (V.field1 0 c5) fun v => K v h) fun v63 h =>
  B.gd h v54 false (fun K => B.pv (V.bin .lss v61 v63) fun v => K v h) fun v64 h =>
  B.gd h v50 true (fun K => B.pick v54 (.bool true) v64 fun v => K v h) fun v65 h =>
  B.pick v50 v65 (.bool false) fun v66 =>
  B.pv (V.bin .add v41 (.int .i64 1)) fun v67 =>
  Y3 [v66, v67] h)))
  (B.al c1 (B.pv (V.field1 4 c1) fun v69 =>
  B.pv (V.lenSl v69) fun v70 =>
  LoopR (row_plain.l4 C N Q v69 v70 c1) [v3, (.int .i64 0)] h))
@[simp] def row_plain.l6 (C : CSem) (N : Nat → Nat) (Q : AVal → AHeap → Prop) (v39 v40 c1 : AVal) : List AVal → AHeap → (List AVal → AHeap → Prop) → Prop
 | [v3, v41], h, Y3 => row_plain.k5 C N Q Y3 v3 v39 v40 v41 c1 h
 | _, _, _ => False
@[simp] def row_plain.k7 (C : CSem) (N : Nat → Nat) (Q : AVal → AHeap → Prop) (c1 : AVal) (h : AHeap) : Prop :=
 B.al c1 (B.pv (V.field1 0 c1) fun v11 =>
  B.pv (V.bin .geq v11 (.int .i64 0)) fun v12 =>
  B.al c1 (B.gd h v12 true (fun K => K .undef h) fun _ h =>
  B.gd h v12 true (fun K => B.pv (V.field1 0 c1) fun v => K v h) fun v15 h =>
  B.gd h v12 true (fun K => B.pv (V.bin .leq v15 (.int .i64 4000)) fun v => K v h) fun v16 h =>
  B.pick v12 v16 (.bool false) fun v17 =>
  B.al c1 (B.gd h v17 true (fun K => K .undef h) fun _ h =>
  B.gd h v17 true (fun K => B.pv (V.field1 1 c1) fun v => K v h) fun v20 h =>
  B.gd h v17 true (fun K => B.pv (V.bin .gtr v20 (.int .i64 0)) fun v => K v h) fun v21 h =>
  B.pick v17 v21 (.bool false) fun v22 =>
  B.al c1 (B.gd h v22 true (fun K => K .undef h) fun _ h =>
  B.gd h v22 true (fun K => B.pv (V.field1 1 c1) fun v => K v h) fun v25 h =>
  B.gd h v22 true (fun K => B.pv (V.bin .leq v25 (.int .i64 4611686018427387904)) fun v => K v h) fun v26 h =>
  B.pick v22 v26 (.bool false) fun v27 =>
  B.al c1 (B.gd h v27 true (fun K => K .undef h) fun _ h =>
  B.gd h v27 true (fun K => B.pv (V.field1 2 c1) fun v => K v h) fun v30 h =>
  B.gd h v27 true (fun K => B.pv (V.bin .gtr v30 (.int .i64 0)) fun v => K v h) fun v31 h =>
  B.pick v27 v31 (.bool false) fun v32 =>
  B.al c1 (B.gd h v32 true (fun K => K .undef h) fun _ h =>
  B.gd h v32 true (fun K => B.pv (V.field1 2 c1) fun v => K v h) fun v35 h =>
  B.gd h v32 true (fun K => B.pv (V.bin .leq v35 (.int .i64 4611686018427387904)) fun v => K v h) fun v36 h =>
  B.pick v32 v36 (.bool false) fun v37 =>
  B.al c1 (B.pv (V.field1 3 c1) fun v39 =>
  B.pv (V.lenSl v39) fun v40 =>
  LoopR (row_plain.l6 C N Q v39 v40 c1) [v37, (.int .i64 0)] h)))))))
@[simp] def row_plain.cps (C : CSem) (N : Nat → Nat) (v0 : AVal) (h : AHeap) (Q : AVal → AHeap → Prop) : Prop :=
 B.pv (A.boxN 6 v0) fun c1 =>
  row_plain.k7 C N Q c1 h
def row_plain.Imp (C : CSem) (N : Nat → Nat) : Prop := ∀ (v0 : AVal) (h : AHeap) (Q : AVal → AHeap → Prop), row_plain.cps C N v0 h (dn Q) → C (N 426) [v0] h Q
@[simp] def row_Key.k1 (C : CSem) (N : Nat → Nat) (Q : AVal → AHeap → Prop) (v0 v1 v2 : AVal) (h : AHeap) : Prop :=
 B.pv (V.bin .lss v0 (.int .i64 0)) fun v8 =>
  B.gd h v8 false (fun K => K v0 h) fun v10 h =>
  B.gd h v8 false (fun K => B.pv (V.bin .geq v10 (.int .i64 4)) fun v => K v h) fun v11 h =>
  B.pick v8 (.bool true) v11 fun v12 =>
  B.gd h v12 false (fun K => K v1 h) fun v14 h =>
  B.gd h v12 false (fun K => B.pv (V.bin .lss v14 (.int .i64 1)) fun v => K v h) fun v15 h =>
  B.pick v12 (.bool true) v15 fun v16 =>
  B.gd h v16 false (fun K => K v1 h) fun v18 h =>
  B.gd h v16 false (fun K => B.pv (V.bin .gtr v18 (.int .i64 4611686018427387904)) fun v => K v h) fun v19 h =>
  B.pick v16 (.bool true) v19 fun v20 =>
  B.gd h v20 false (fun K => K v2 h) fun v22 h =>
  B.gd h v20 false (fun K => B.pv (V.bin .lss v22 (.int .i64 0)) fun v => K v h) fun v23 h =>
  B.pick v20 (.bool true) v23 fun v24 =>
  B.gd h v24 false (fun K => K v2 h) fun v26 h =>
  B.gd h v24 false (fun K => B.pv (V.bin .geq v26 (.int .i64 1000)) fun v => K v h) fun v27 h =>
  B.pick v24 (.bool true) v27 fun v28 =>
  B.cond v28
  (Q .nils h)
  (B.pv (V.toInt .u8 v0) fun v30 =>
  B.newO h (fillL [(0, none, (.int .u8 97)), (1, none, v30)] (repL 2 [.int .u8 0])) fun i31 h =>
  B.call C (N 423) [v1, (.int .i64 8)] h fun v33 h =>
  B.call C (N 423) [v2, (.int .i64 2)] h fun v35 h =>
  B.newO h (fillL [(0, none, (.sl i31 0 0 2 1 2)), (1, none, v33), (2, none, v35)] (repL 3 [.nils])) fun i36 h =>
  B.call C (N 424) [(.sl i36 0 0 3 1 3)] h fun v37 h =>
  Q v37 h)
@[simp] def row_Key.cps (C : CSem) (N : Nat → Nat) (v0 v1 v2 : AVal) (h : AHeap) (Q : AVal → AHeap → Prop) : Prop :=
 row_Key.k1 C N Q v0 v1 v2 h
def row_Key.Imp (C : CSem) (N : Nat → Nat) : Prop := ∀ (v0 v1 v2 : AVal) (h : AHeap) (Q : AVal → AHeap → Prop), row_Key.cps C N v0 v1 v2 h (dn Q) → C (N 427) [v0, v1, v2] h Q
@[simp] def row_State_1.k1 (C : CSem) (N : Nat → Nat) (Q : AVal → AHeap → Prop) (v0 v1 : AVal) (h : AHeap) : Prop :=
 B.pv (A.boxN 2 v0) fun c2 =>
  B.pv (A.boxN 2 v1) fun c3 =>
  B.al c2 (B.pv (V.field1 0 c2) fun v6 =>
  B.al c3 (B.pv (V.field1 0 c3) fun v8 =>
  B.call C (N 273) [v6, v8] h fun v9 h =>
  B.al c2 (B.gd h v9 true (fun K => K .undef h) fun _ h =>
  B.gd h v9 true (fun K => B.pv (V.field1 1 c2) fun v => K v h) fun v12 h =>
  B.al c3 (B.gd h v9 true (fun K => K .undef h) fun _ h =>
  B.gd h v9 true (fun K => B.pv (V.field1 1 c3) fun v => K v h) fun v14 h =>
  B.gd h v9 true (fun K => B.call C (N 273) [v12, v14] h K) fun v15 h =>
  B.pick v9 v15 (.bool false) fun v16 =>
  Q v16 h))))
@[simp] def row_State_1.cps (C : CSem) (N : Nat → Nat) (v0 v1 : AVal) (h : AHeap) (Q : AVal → AHeap → Prop) : Prop :=
 row_State_1.k1 C N Q v0 v1 h
def row_State_1.Imp (C : CSem) (N : Nat → Nat) : Prop := ∀ (v0 v1 : AVal) (h : AHeap) (Q : AVal → AHeap → Prop), row_State_1.cps C N v0 v1 h (dn Q) → C (N 430) [v0, v1] h Q
@[simp] def row_reader_number.k1 (C : CSem) (N : Nat → Nat) (Q : AVal → AHeap → Prop) (v0 v1 v5 : AVal) (h : AHeap) : Prop :=
 B.nilCheck v0 fun v47 =>
  B.pv (V.fieldAddr 0 v47) fun v48 =>
  B.ld h v48 fun v49 =>
  B.pv (V.cutSl 1 v49 (some v1) none) fun v51 =>
  B.nilCheck v0 fun v52 =>
  B.pv (V.fieldAddr 0 v52) fun v53 =>
  B.st h v53 v51 fun h =>
  Q v5 h
@[simp] def row_reader_number.k2 (C : CSem) (N : Nat → Nat) (Q : AVal → AHeap → Prop) (Y1 : List AVal → AHeap → Prop) (v0 v1 v5 v33 v34 v35 : AVal) (h : AHeap) : Prop :=
 B.pv (V.bin .lss v35 v34) fun v36 =>
  B.cond v36
  (B.pv (V.idxS 1 v33 v35) fun v37 =>
  B.ld h v37 fun v38 =>
  B.pv (V.bin .shl v5 (.int .u64 8)) fun v40 =>
  B.pv (V.toInt .i64 v38) fun v42 =>
  B.pv (V.bin .or v40 v42) fun v43 =>
  B.pv (V.bin .add v35 (.int .i64 1)) fun v44 =>
  Y1 [v43, v44] h)
  (row_reader_number.k1 C N Q v0 v1 v5 h)
@[simp] def row_reader_number.l3 (C : CSem) (N : Nat → Nat) (Q : AVal → AHeap → Prop) (v0 v1 v33 v34 : AVal) : List AVal → AHeap → (List AVal → AHeap → Prop) → Prop
 | [v5, v35], h, Y1 => row_reader_number.k2 C N Q Y1 v0 v1 v5 v33 v34 v35 h
 | _, _, _ => False
@[simp] def row_reader_number.k4 (C : CSem) (N : Nat → Nat) (Q : AVal → AHeap → Prop) (v0 v1 v5 : AVal) (h : AHeap) : Prop :=
 B.nilCheck v0 fun v29 =>
  B.pv (V.fieldAddr 0 v29) fun v30 =>
  B.ld h v30 fun v31 =>
  B.pv (V.cutSl 1 v31 none (some v1)) fun v33 =>
  B.pv (V.lenSl v33) fun v34 =>
  LoopR (row_reader_number.l3 C N Q v0 v1 v33 v34) [v5, (.int .i64 0)] h
@[simp] def row_reader_number.k5 (C : CSem) (N : Nat → Nat) (Q : AVal → AHeap → Prop) (v0 v1 : AVal) (h : AHeap) : Prop :=
 B.nilCheck v0 fun v10 =>
  B.pv (V.fieldAddr 1 v10) fun v11 =>
  B.ld h v11 fun v12 =>
  B.gd h v12 false (fun K => K v1 h) fun v14 h =>
  B.gd h v12 false (fun K => K v0 h) fun v15 h =>
  B.gd h v12 false (fun K => B.nilCheck v15 fun v => K v h) fun v16 h =>
  B.gd h v12 false (fun K => B.pv (V.fieldAddr 0 v16) fun v => K v h) fun v17 h =>
  B.gd h v12 false (fun K => B.ld h v17 fun v => K v h) fun v18 h =>
  B.gd h v12 false (fun K => B.pv (V.lenSl v18) fun v => K v h) fun v19 h =>
  B.gd h v12 false (fun K => B.pv (V.bin .gtr v14 v19) fun v => K v h) fun v20 h =>
  B.pick v12 (.bool true) v20 fun v21 =>
  B.nilCheck v0 fun v22 =>
  B.pv (V.fieldAddr 1 v22) fun v23 =>
  B.st h v23 v21 fun h =>
  B.nilCheck v0 fun v25 =>
  B.pv (V.fieldAddr 1 v25) fun v26 =>
  B.ld h v26 fun v27 =>
  B.cond v27
  (Q (.int .i64 0) h)
  (row_reader_number.k4 C N Q v0 v1 (.int .i64 0) h)
@[simp] def row_reader_number.cps (C : CSem) (N : Nat → Nat) (v0 v1 : AVal) (h : AHeap) (Q : AVal → AHeap → Prop) : Prop :=
 row_reader_number.k5 C N Q v0 v1 h
def row_reader_number.Imp (C : CSem) (N : Nat → Nat) : Prop := ∀ (v0 v1 : AVal) (h : AHeap) (Q : AVal → AHeap → Prop), row_reader_number.cps C N v0 v1 h (dn Q) → C (N 432) [v0, v1] h Q
@[simp] def row_reader_item.k1 (C : CSem) (N : Nat → Nat) (Q : AVal → AHeap → Prop) (Y1 : List AVal → AHeap → Prop) (v0 v8 c4 c5 : AVal) (h : AHeap) : Prop :=
 B.pv (V.bin .gtr v8 (.int .i64 0)) fun v41 =>
  B.gd h v41 true (fun K => K v0 h) fun v43 h =>
  B.gd h v41 true (fun K => B.nilCheck v43 fun v => K v h) fun v44 h =>
  B.gd h v41 true (fun K => B.pv (V.fieldAddr 1 v44) fun v => K v h) fun v45 h =>
  B.gd h v41 true (fun K => B.ld h v45 fun v => K v h) fun v46 h =>
  B.gd h v41 true (fun K => B.pv (V.un .not v46) fun v => K v h) fun v47 h =>
  B.pick v41 v47 (.bool false) fun v48 =>
  B.cond v48
  (B.al c5 (B.pv (V.field1 3 c5) fun v52 =>
  B.call C (N 440) [v0] h fun v54 h =>
  B.newO h (fillL [(0, none, v54)] (repL 1 [.str []])) fun i55 h =>
  B.appW h 1 16 v52 (.sl i55 0 0 1 1 1) fun v56 h =>
  B.al c5 (B.pv (V.setF 3 v56 c5) fun c5 =>
  B.pv (V.bin .sub v8 (.int .i64 1)) fun v50 =>
  Y1 [v50, c5] h)))
  (B.pv (V.fieldN 0 4 c5) fun v58 =>
  B.pv (V.setN 0 4 v58 c4) fun c4 =>
  B.pv (oneOf (joinV (V.fieldN 0 4 c4) (some []))) fun v => Q v h)
@[simp] def row_reader_item.l2 (C : CSem) (N : Nat → Nat) (Q : AVal → AHeap → Prop) (v0 c4 : AVal) : List AVal → AHeap → (List AVal → AHeap → Prop) → Prop
 | [v8, c5], h, Y1 => row_reader_item.k1 C N Q Y1 v0 v8 c4 c5 h
 | _, _, _ => False
@[simp] def row_reader_item.k3 (C : CSem) (N : Nat → Nat) (Q : AVal → AHeap → Prop) (Y2 : List AVal → AHeap → Prop) (v0 v6 c4 c5 : AVal) (h : AHeap) : Prop :=
 B.pv (V.bin .gtr v6 (.int .i64 0)) fun v16 =>
  B.gd h v16 true (fun K => K v0 h) fun v18 h =>
  B.gd h v16 true (fun K => B.nilCheck v18 fun v => K v h) fun v19 h =>
  B.gd h v16 true (fun K => B.pv (V.fieldAddr 1 v19) fun v => K v h) fun v20 h =>
  B.gd h v16 true (fun K => B.ld h v20 fun v => K v h) fun v21 h =>
  B.gd h v16 true (fun K => B.pv (V.un .not v21) fun v => K v h) fun v22 h =>
  B.pick v16 v22 (.bool false) fun v23 =>
  B.cond v23
  (B.call C (N 440) [v0] h fun v27 h =>
  B.pv (A.bld [(0, none, v27)] [.str [], .int .i64 0]) fun v28 =>
  B.pv (V.setN 0 2 v28 (.agg [.str [], .int .i64 0])) fun c7 =>
  B.call C (N 432) [v0, (.int .i64 4)] h fun v30 h =>
  B.al c7 (B.pv (V.setF 1 v30 c7) fun c7 =>
  B.al c5 (B.pv (V.field1 2 c5) fun v33 =>
  B.pv (V.fieldN 0 2 c7) fun v34 =>
  B.newO h (fillL [(0, some 2, v34)] (repL 1 [.str [], .int .i64 0])) fun i35 h =>
  B.appW h 2 24 v33 (.sl i35 0 0 1 2 1) fun v36 h =>
  B.al c5 (B.pv (V.setF 2 v36 c5) fun c5 =>
  B.pv (V.bin .sub v6 (.int .i64 1)) fun v25 =>
  Y2 [v25, c5] h))))
  (B.call C (N 432) [v0, (.int .i64 1)] h fun v39 h =>
  LoopR (row_reader_item.l2 C N Q v0 c4) [v39, c5] h)
@[simp] def row_reader_item.l4 (C : CSem) (N : Nat → Nat) (Q : AVal → AHeap → Prop) (v0 c4 : AVal) : List AVal → AHeap → (List AVal → AHeap → Prop) → Prop
 | [v6, c5], h, Y2 => row_reader_item.k3 C N Q Y2 v0 v6 c4 c5 h
 | _, _, _ => False
@[simp] def row_reader_item.k5 (C : CSem) (N : Nat → Nat) (Q : AVal → AHeap → Prop) (v0 v1 c4 : AVal) (h : AHeap) : Prop :=
 B.call C (N 432) [v0, (.int .i64 2)] h fun v11 h =>
  B.pv (A.bld [(0, none, v1), (1, none, v11)] [.str [], .int .i64 0, .nils, .nils]) fun v12 =>
  B.pv (V.setN 0 4 v12 (.agg [.str [], .int .i64 0, .nils, .nils])) fun c5 =>
  B.call C (N 432) [v0, (.int .i64 1)] h fun v14 h =>
  LoopR (row_reader_item.l4 C N Q v0 c4) [v14, c5] h
@[simp] def row_reader_item.cps (C : CSem) (N : Nat → Nat) (v0 v1 : AVal) (h : AHeap) (Q : AVal → AHeap → Prop) : Prop :=
 row_reader_item.k5 C N Q v0 v1 (.agg [.str [], .int .i64 0, .nils, .nils]) h
def row_reader_item.Imp (C : CSem) (N : Nat → Nat) : Prop := ∀ (v0 v1 : AVal) (h : AHeap) (Q : AVal → AHeap → Prop), row_reader_item.cps C N v0 v1 h (dn Q) → C (N 433) [v0, v1] h Q
@[simp] def row_reader_lot.k1 (C : CSem) (N : Nat → Nat) (Q : AVal → AHeap → Prop) (v0 v1 : AVal) (h : AHeap) : Prop :=
 B.call C (N 440) [v0] h fun v8 h =>
  B.pv (A.bld [(0, none, v1), (1, none, v8)] [.int .i64 0, .str [], .int .i64 0, .int .i64 0, .int .i64 0, .bool false]) fun v9 =>
  B.pv (V.setN 0 6 v9 (.agg [.int .i64 0, .str [], .int .i64 0, .int .i64 0, .int .i64 0, .bool false])) fun c5 =>
  B.call C (N 432) [v0, (.int .i64 2)] h fun v11 h =>
  B.call C (N 432) [v0, (.int .i64 2)] h fun v13 h =>
  B.al c5 (B.al c5 (B.pv (V.setF 2 v11 c5) fun c5 =>
  B.al c5 (B.al c5 (B.pv (V.setF 3 v13 c5) fun c5 =>
  B.call C (N 432) [v0, (.int .i64 4)] h fun v19 h =>
  B.al c5 (B.pv (V.setF 4 v19 c5) fun c5 =>
  B.call C (N 432) [v0, (.int .i64 1)] h fun v22 h =>
  B.pv (V.bin .eql v22 (.int .i64 1)) fun v23 =>
  B.al c5 (B.pv (V.setF 5 v23 c5) fun c5 =>
  B.pv (V.fieldN 0 6 c5) fun v25 =>
  B.pv (V.setN 0 6 v25 (.agg [.int .i64 0, .str [], .int .i64 0, .int .i64 0, .int .i64 0, .bool false])) fun c4 =>
  B.pv (oneOf (joinV (V.fieldN 0 6 c4) (some []))) fun v => Q v h))))))
@[simp] def row_reader_lot.cps (C : CSem) (N : Nat → Nat) (v0 v1 : AVal) (h : AHeap) (Q : AVal → AHeap → Prop) : Prop :=
 row_reader_lot.k1 C N Q v0 v1 h
def row_reader_lot.Imp (C : CSem) (N : Nat → Nat) : Prop := ∀ (v0 v1 : AVal) (h : AHeap) (Q : AVal → AHeap → Prop), row_reader_lot.cps C N v0 v1 h (dn Q) → C (N 434) [v0, v1] h Q
@[simp] def row_reader_line.k1 (C : CSem) (N : Nat → Nat) (Q : AVal → AHeap → Prop) (v0 v1 : AVal) (h : AHeap) : Prop :=
 B.call C (N 440) [v0] h fun v8 h =>
  B.pv (A.bld [(0, none, v1), (1, none, v8)] [.int .i64 0, .str [], .int .i64 0, .int .i64 0, .int .i64 0, .int .u8 0, .int .i64 0, .str []]) fun v9 =>
  B.pv (V.setN 0 8 v9 (.agg [.int .i64 0, .str [], .int .i64 0, .int .i64 0, .int .i64 0, .int .u8 0, .int .i64 0, .str []])) fun c5 =>
  B.call C (N 432) [v0, (.int .i64 4)] h fun v11 h =>
  B.al c5 (B.pv (V.setF 2 v11 c5) fun c5 =>
  B.call C (N 432) [v0, (.int .i64 2)] h fun v14 h =>
  B.call C (N 432) [v0, (.int .i64 1)] h fun v16 h =>
  B.al c5 (B.pv (V.setF 3 v14 c5) fun c5 =>
  B.al c5 (B.pv (V.setF 4 v16 c5) fun c5 =>
  B.call C (N 432) [v0, (.int .i64 1)] h fun v20 h =>
  B.pv (V.toInt .u8 v20) fun v21 =>
  B.al c5 (B.pv (V.setF 5 v21 c5) fun c5 =>
  B.call C (N 432) [v0, (.int .i64 2)] h fun v24 h =>
  B.pv (V.bin .sub v24 (.int .i64 1)) fun v25 =>
  B.al c5 (B.pv (V.setF 6 v25 c5) fun c5 =>
  B.call C (N 440) [v0] h fun v28 h =>
  B.al c5 (B.pv (V.setF 7 v28 c5) fun c5 =>
  B.pv (V.fieldN 0 8 c5) fun v30 =>
  B.pv (V.setN 0 8 v30 (.agg [.int .i64 0, .str [], .int .i64 0, .int .i64 0, .int .i64 0, .int .u8 0, .int .i64 0, .str []])) fun c4 =>
  B.pv (oneOf (joinV (V.fieldN 0 8 c4) (some []))) fun v => Q v h))))))
@[simp] def row_reader_line.cps (C : CSem) (N : Nat → Nat) (v0 v1 : AVal) (h : AHeap) (Q : AVal → AHeap → Prop) : Prop :=
 row_reader_line.k1 C N Q v0 v1 h
def row_reader_line.Imp (C : CSem) (N : Nat → Nat) : Prop := ∀ (v0 v1 : AVal) (h : AHeap) (Q : AVal → AHeap → Prop), row_reader_line.cps C N v0 v1 h (dn Q) → C (N 435) [v0, v1] h Q
@[simp] def row_kept.k1 (C : CSem) (N : Nat → Nat) (Q : AVal → AHeap → Prop) (v3 c1 : AVal) (h : AHeap) : Prop :=
 B.al c1 (B.pv (V.field1 1 c1) fun v48 =>
  B.pv (V.bin .eql v48 (.int .i64 0)) fun v49 =>
  B.gd h v49 true (fun K => K v3 h) fun v51 h =>
  B.gd h v49 true (fun K => B.call C (N 441) [(.int .i64 8), v51] h K) fun v52 h =>
  B.pick v49 v52 (.bool false) fun v53 =>
  Q v53 h)
@[simp] def row_kept.k2 (C : CSem) (N : Nat → Nat) (Q : AVal → AHeap → Prop) (Y1 : List AVal → AHeap → Prop) (v3 v27 v28 v29 c1 : AVal) (h : AHeap) : Prop :=
 B.pv (V.bin .lss v29 v28) fun v30 =>
  B.cond v30
  (B.pv (V.idxS 2 v27 v29) fun v31 =>
  B.ldn h v31 2 fun v32 =>
  B.pv (V.setN 0 2 v32 (.agg [.str [], .int .i64 0])) fun c5 =>
  B.al c5 (B.pv (V.field1 1 c5) fun v34 =>
  B.pv (V.bin .lss v34 (.int .i64 1)) fun v35 =>
  B.al c5 (B.gd h v35 false (fun K => K .undef h) fun _ h =>
  B.gd h v35 false (fun K => B.pv (V.field1 1 c5) fun v => K v h) fun v38 h =>
  B.gd h v35 false (fun K => B.pv (V.bin .gtr v38 (.int .i64 1073741824)) fun v => K v h) fun v39 h =>
  B.pick v35 (.bool true) v39 fun v40 =>
  B.cond v40
  (Q (.bool false) h)
  (B.al c5 (B.pv (V.field1 0 c5) fun v43 =>
  B.newO h (fillL [(0, none, v43)] (repL 1 [.str []])) fun i44 h =>
  B.appW h 1 16 v3 (.sl i44 0 0 1 1 1) fun v45 h =>
  B.pv (V.bin .add v29 (.int .i64 1)) fun v46 =>
  Y1 [v45, v46] h)))))
  (row_kept.k1 C N Q v3 c1 h)
@[simp] def row_kept.l3 (C : CSem) (N : Nat → Nat) (Q : AVal → AHeap → Prop) (v27 v28 c1 : AVal) : List AVal → AHeap → (List AVal → AHeap → Prop) → Prop
 | [v3, v29], h, Y1 => row_kept.k2 C N Q Y1 v3 v27 v28 v29 c1 h
 | _, _, _ => False
@[simp] def row_kept.k4 (C : CSem) (N : Nat → Nat) (Q : AVal → AHeap → Prop) (c1 : AVal) (h : AHeap) : Prop :=
 B.al c1 (B.pv (V.field1 2 c1) fun v15 =>
  B.pv (V.lenSl v15) fun v16 =>
  B.pv (V.bin .eql v16 (.int .i64 0)) fun v17 =>
  B.cond v17
  (B.al c1 (B.pv (V.field1 1 c1) fun v19 =>
  B.pv (V.bin .gtr v19 (.int .i64 0)) fun v20 =>
  B.al c1 (B.gd h v20 true (fun K => K .undef h) fun _ h =>
  B.gd h v20 true (fun K => B.pv (V.field1 1 c1) fun v => K v h) fun v23 h =>
  B.gd h v20 true (fun K => B.pv (V.bin .leq v23 (.int .i64 2000)) fun v => K v h) fun v24 h =>
  B.pick v20 v24 (.bool false) fun v25 =>
  Q v25 h)))
  (B.al c1 (B.pv (V.field1 2 c1) fun v27 =>
  B.pv (V.lenSl v27) fun v28 =>
  LoopR (row_kept.l3 C N Q v27 v28 c1) [.nils, (.int .i64 0)] h)))
@[simp] def row_kept.k5 (C : CSem) (N : Nat → Nat) (Q : AVal → AHeap → Prop) (c1 : AVal) (h : AHeap) : Prop :=
 B.al c1 (B.pv (V.field1 0 c1) fun v7 =>
  B.newO h (fillL [(0, none, v7)] (repL 1 [.str []])) fun i8 h =>
  B.al c1 (B.pv (V.field1 3 c1) fun v10 =>
  B.appW h 1 16 (.sl i8 0 0 1 1 1) v10 fun v11 h =>
  B.call C (N 441) [(.int .i64 5), v11] h fun v12 h =>
  B.pv (V.un .not v12) fun v13 =>
  B.cond v13
  (Q (.bool false) h)
  (row_kept.k4 C N Q c1 h)))
@[simp] def row_kept.cps (C : CSem) (N : Nat → Nat) (v0 : AVal) (h : AHeap) (Q : AVal → AHeap → Prop) : Prop :=
 B.pv (A.boxN 4 v0) fun c1 =>
  row_kept.k5 C N Q c1 h
def row_kept.Imp (C : CSem) (N : Nat → Nat) : Prop := ∀ (v0 : AVal) (h : AHeap) (Q : AVal → AHeap → Prop), row_kept.cps C N v0 h (dn Q) → C (N 438) [v0] h Q
@[simp] def row_reader_code.k1 (C : CSem) (N : Nat → Nat) (Q : AVal → AHeap → Prop) (v0 : AVal) (h : AHeap) : Prop :=
 B.nilCheck v0 fun v7 =>
  B.pv (V.fieldAddr 1 v7) fun v8 =>
  B.ld h v8 fun v9 =>
  B.cond v9
  (Q (.str []) h)
  (B.nilCheck v0 fun v12 =>
  B.pv (V.fieldAddr 0 v12) fun v13 =>
  B.ld h v13 fun v14 =>
  B.call C (N 103) [v14] h fun v15 h =>
  B.pv (V.ext 0 v15) fun v16 =>
  B.pv (V.ext 1 v15) fun v17 =>
  B.pv (V.ext 2 v15) fun v18 =>
  B.pv (V.un .not v18) fun v21 =>
  B.nilCheck v0 fun v22 =>
  B.pv (V.fieldAddr 1 v22) fun v23 =>
  B.st h v23 v21 fun h =>
  B.nilCheck v0 fun v26 =>
  B.pv (V.fieldAddr 0 v26) fun v27 =>
  B.ld h v27 fun v28 =>
  B.pv (V.cutSl 1 v28 (some v17) none) fun v30 =>
  B.nilCheck v0 fun v31 =>
  B.pv (V.fieldAddr 0 v31) fun v32 =>
  B.st h v32 v30 fun h =>
  Q v16 h)
@[simp] def row_reader_code.cps (C : CSem) (N : Nat → Nat) (v0 : AVal) (h : AHeap) (Q : AVal → AHeap → Prop) : Prop :=
 row_reader_code.k1 C N Q v0 h
def row_reader_code.Imp (C : CSem) (N : Nat → Nat) : Prop := ∀ (v0 : AVal) (h : AHeap) (Q : AVal → AHeap → Prop), row_reader_code.cps C N v0 h (dn Q) → C (N 440) [v0] h Q
@[simp] def row_coded.k1 (C : CSem) (N : Nat → Nat) (Q : AVal → AHeap → Prop) (Y1 : List AVal → AHeap → Prop) (v0 v1 v7 v8 v9 : AVal) (h : AHeap) : Prop :=
 B.pv (V.bin .lss v9 v8) fun v10 =>
  B.cond v10
  (B.pv (V.idxS 1 v7 v9) fun v12 =>
  B.ld h v12 fun v13 =>
  B.call C (N 53) [v13] h fun v15 h =>
  B.pv (V.un .not v15) fun v16 =>
  B.gd h v16 false (fun K => K v1 h) fun v18 h =>
  B.gd h v16 false (fun K => K v9 h) fun v19 h =>
  B.gd h v16 false (fun K => B.pv (V.cutSl 1 v18 none (some v19)) fun v => K v h) fun v20 h =>
  B.gd h v16 false (fun K => K v13 h) fun v21 h =>
  B.gd h v16 false (fun K => B.call C (N 442) [v20, v21] h K) fun v22 h =>
  B.pick v16 (.bool true) v22 fun v23 =>
  B.cond v23
  (Q (.bool false) h)
  (B.pv (V.bin .add v9 (.int .i64 1)) fun v24 =>
  Y1 [v24] h))
  (B.pv (V.lenSl v1) fun v26 =>
  B.pv (V.bin .leq v26 v0) fun v28 =>
  Q v28 h)
@[simp] def row_coded.l2 (C : CSem) (N : Nat → Nat) (Q : AVal → AHeap → Prop) (v0 v1 v7 v8 : AVal) : List AVal → AHeap → (List AVal → AHeap → Prop) → Prop
 | [v9], h, Y1 => row_coded.k1 C N Q Y1 v0 v1 v7 v8 v9 h
 | _, _, _ => False
@[simp] def row_coded.cps (C : CSem) (N : Nat → Nat) (v0 v1 : AVal) (h : AHeap) (Q : AVal → AHeap → Prop) : Prop :=
 B.pv (V.lenSl v1) fun v8 =>
  LoopR (row_coded.l2 C N Q v0 v1 v1 v8) [(.int .i64 0)] h
def row_coded.Imp (C : CSem) (N : Nat → Nat) : Prop := ∀ (v0 v1 : AVal) (h : AHeap) (Q : AVal → AHeap → Prop), row_coded.cps C N v0 v1 h (dn Q) → C (N 441) [v0, v1] h Q
@[simp] def slices_GrowG.k1 (C : CSem) (E : ElOps) (Q : AVal → AHeap → Prop) (v0 v1 : AVal) (h : AHeap) : Prop :=
 B.pv (V.capSl v0) fun v10 =>
  B.pv (V.lenSl v0) fun v12 =>
  B.pv (V.bin .sub v10 v12) fun v13 =>
  B.pv (V.bin .sub v1 v13) fun v14 =>
  B.pv (V.bin .gtr v14 (.int .i64 0)) fun v16 =>
  B.cond v16
  (B.pv (V.capSl v0) fun v19 =>
  B.pv (V.cutSl E.es v0 none (some v19)) fun v20 =>
  B.appZ h E.es E.bytes E.z v20 v14 fun v22 h =>
  B.pv (V.lenSl v0) fun v24 =>
  B.pv (V.cutSl E.es v22 none (some v24)) fun v25 =>
  Q v25 h)
  (Q v0 h)
@[simp] def slices_GrowG.cps (C : CSem) (E : ElOps) (v0 v1 : AVal) (h : AHeap) (Q : AVal → AHeap → Prop) : Prop :=
 B.pv (V.bin .lss v1 (.int .i64 0)) fun v6 =>
  B.cond v6
  (False)
  (slices_GrowG.k1 C E Q v0 v1 h)
@[simp] def slices_ChunkG.k1 (C : CSem) (E : ElOps) (f1 : Nat) (Q : AVal → AHeap → Prop) (v0 v1 : AVal) (h : AHeap) : Prop :=
 B.newO h (A.cells1 v0) fun i2 h =>
  B.newO h (A.cells1 v1) fun i3 h =>
  B.ld h (.ptr i3 0 0) fun v5 =>
  B.pv (V.bin .lss v5 (.int .i64 1)) fun v6 =>
  B.cond v6
  (False)
  (Q (.fn f1 [] [(.ptr i2 0 0), (.ptr i3 0 0)]) h)
@[simp] def slices_ChunkG.cps (C : CSem) (E : ElOps) (f1 : Nat) (v0 v1 : AVal) (h : AHeap) (Q : AVal → AHeap → Prop) : Prop :=
 slices_ChunkG.k1 C E f1 Q v0 v1 h
@[simp] def slices_ContainsG.cps (C : CSem) (E : ElOps) (f1 : Nat) (v0 v1 : AVal) (h : AHeap) (Q : AVal → AHeap → Prop) : Prop :=
 B.call C f1 [v0, v1] h fun v7 h =>
  B.pv (V.bin .geq v7 (.int .i64 0)) fun v8 =>
  Q v8 h
@[simp] def slices_IndexG.k1 (C : CSem) (E : ElOps) (Q : AVal → AHeap → Prop) (Y1 : List AVal → AHeap → Prop) (v0 v1 v7 v8 : AVal) (h : AHeap) : Prop :=
 B.pv (V.bin .lss v8 v7) fun v9 =>
  B.cond v9
  (B.pv (V.idxS E.es v0 v8) fun v14 =>
  E.ld h v14 fun v15 =>
  B.pv (V.bin .eql v1 v15) fun v16 =>
  B.cond v16
  (Q v8 h)
  (B.pv (V.bin .add v8 (.int .i64 1)) fun v18 =>
  Y1 [v18] h))
  (Q (.int .i64 (-1)) h)
@[simp] def slices_IndexG.l2 (C : CSem) (E : ElOps) (Q : AVal → AHeap → Prop) (v0 v1 v7 : AVal) : List AVal → AHeap → (List AVal → AHeap → Prop) → Prop
 | [v8], h, Y1 => slices_IndexG.k1 C E Q Y1 v0 v1 v7 v8 h
 | _, _, _ => False
@[simp] def slices_IndexG.cps (C : CSem) (E : ElOps) (v0 v1 : AVal) (h : AHeap) (Q : AVal → AHeap → Prop) : Prop :=
 B.pv (V.lenSl v0) fun v7 =>
  LoopR (slices_IndexG.l2 C E Q v0 v1 v7) [(.int .i64 0)] h
def slices_Chunk_byte_byte.cps (C : CSem) (N : Nat → Nat) (v0 v1 : AVal) (h : AHeap) (Q : AVal → AHeap → Prop) : Prop :=
 slices_ChunkG.cps C (opsS 1 (.int .u8 0) 0) (N 443) v0 v1 h Q
def slices_Chunk_byte_byte.Imp (C : CSem) (N : Nat → Nat) : Prop := ∀ (v0 v1 : AVal) (h : AHeap) (Q : AVal → AHeap → Prop), slices_Chunk_byte_byte.cps C N v0 v1 h (dn Q) → C (N 429) [v0, v1] h Q
@[simp] def slices_EqualFunc_api_Row_api_Row_api_Row_api_Row.k1 (C : CSem) (N : Nat → Nat) (Q : AVal → AHeap → Prop) (Y1 : List AVal → AHeap → Prop) (v1 v2 v15 v16 v17 : AVal) (h : AHeap) : Prop :=
 B.pv (V.bin .lss v17 v16) fun v18 =>
  B.cond v18
  (B.pv (V.idxS 2 v15 v17) fun v20 =>
  B.ldn h v20 2 fun v21 =>
  B.pv (V.setN 0 2 v21 (.agg [.nils, .nils])) fun c8 =>
  B.pv (V.idxS 2 v1 v17) fun v24 =>
  B.ldn h v24 2 fun v25 =>
  B.pv (V.setN 0 2 v25 (.agg [.nils, .nils])) fun c9 =>
  B.pv (V.fieldN 0 2 c8) fun v27 =>
  B.pv (V.fieldN 0 2 c9) fun v28 =>
  B.callv h C v2 [v27, v28] fun v29 h =>
  B.pv (V.un .not v29) fun v30 =>
  B.cond v30
  (Q (.bool false) h)
  (B.pv (V.bin .add v17 (.int .i64 1)) fun v31 =>
  Y1 [v31] h))
  (Q (.bool true) h)
@[simp] def slices_EqualFunc_api_Row_api_Row_api_Row_api_Row.l2 (C : CSem) (N : Nat → Nat) (Q : AVal → AHeap → Prop) (v1 v2 v15 v16 : AVal) : List AVal → AHeap → (List AVal → AHeap → Prop) → Prop
 | [v17], h, Y1 => slices_EqualFunc_api_Row_api_Row_api_Row_api_Row.k1 C N Q Y1 v1 v2 v15 v16 v17 h
 | _, _, _ => False
@[simp] def slices_EqualFunc_api_Row_api_Row_api_Row_api_Row.k3 (C : CSem) (N : Nat → Nat) (Q : AVal → AHeap → Prop) (v0 v1 v2 : AVal) (h : AHeap) : Prop :=
 B.pv (V.lenSl v0) fun v11 =>
  B.pv (V.lenSl v1) fun v13 =>
  B.pv (V.bin .neq v11 v13) fun v14 =>
  B.cond v14
  (Q (.bool false) h)
  (B.pv (V.lenSl v0) fun v16 =>
  LoopR (slices_EqualFunc_api_Row_api_Row_api_Row_api_Row.l2 C N Q v1 v2 v0 v16) [(.int .i64 0)] h)
@[simp] def slices_EqualFunc_api_Row_api_Row_api_Row_api_Row.cps (C : CSem) (N : Nat → Nat) (v0 v1 v2 : AVal) (h : AHeap) (Q : AVal → AHeap → Prop) : Prop :=
 slices_EqualFunc_api_Row_api_Row_api_Row_api_Row.k3 C N Q v0 v1 v2 h
def slices_EqualFunc_api_Row_api_Row_api_Row_api_Row.Imp (C : CSem) (N : Nat → Nat) : Prop := ∀ (v0 v1 v2 : AVal) (h : AHeap) (Q : AVal → AHeap → Prop), slices_EqualFunc_api_Row_api_Row_api_Row_api_Row.cps C N v0 v1 v2 h (dn Q) → C (N 431) [v0, v1, v2] h Q
@[simp] def slices_Concat_byte_byte.k1 (C : CSem) (N : Nat → Nat) (Q : AVal → AHeap → Prop) (Y1 : List AVal → AHeap → Prop) (v6 v25 v26 v27 : AVal) (h : AHeap) : Prop :=
 B.pv (V.bin .lss v27 v26) fun v28 =>
  B.cond v28
  (B.pv (V.idxS 1 v25 v27) fun v29 =>
  B.ld h v29 fun v30 =>
  B.appW h 1 1 v6 v30 fun v33 h =>
  B.pv (V.bin .add v27 (.int .i64 1)) fun v34 =>
  Y1 [v33, v34] h)
  (Q v6 h)
@[simp] def slices_Concat_byte_byte.l2 (C : CSem) (N : Nat → Nat) (Q : AVal → AHeap → Prop) (v25 v26 : AVal) : List AVal → AHeap → (List AVal → AHeap → Prop) → Prop
 | [v6, v27], h, Y1 => slices_Concat_byte_byte.k1 C N Q Y1 v6 v25 v26 v27 h
 | _, _, _ => False
@[simp] def slices_Concat_byte_byte.k3 (C : CSem) (N : Nat → Nat) (Q : AVal → AHeap → Prop) (Y2 : List AVal → AHeap → Prop) (v0 v3 v9 v10 v11 : AVal) (h : AHeap) : Prop :=
 B.pv (V.bin .lss v11 v10) fun v12 =>
  B.cond v12
  (B.pv (V.idxS 1 v9 v11) fun v13 =>
  B.ld h v13 fun v14 =>
  B.pv (V.lenSl v14) fun v17 =>
  B.pv (V.bin .add v3 v17) fun v18 =>
  B.pv (V.bin .lss v18 (.int .i64 0)) fun v20 =>
  B.cond v20
  (False)
  (B.pv (V.bin .add v11 (.int .i64 1)) fun v22 =>
  Y2 [v18, v22] h))
  (B.call C (N 444) [.nils, v3] h fun v24 h =>
  B.pv (V.lenSl v0) fun v26 =>
  LoopR (slices_Concat_byte_byte.l2 C N Q v0 v26) [v24, (.int .i64 0)] h)
@[simp] def slices_Concat_byte_byte.l4 (C : CSem) (N : Nat → Nat) (Q : AVal → AHeap → Prop) (v0 v9 v10 : AVal) : List AVal → AHeap → (List AVal → AHeap → Prop) → Prop
 | [v3, v11], h, Y2 => slices_Concat_byte_byte.k3 C N Q Y2 v0 v3 v9 v10 v11 h
 | _, _, _ => False
@[simp] def slices_Concat_byte_byte.cps (C : CSem) (N : Nat → Nat) (v0 : AVal) (h : AHeap) (Q : AVal → AHeap → Prop) : Prop :=
 B.pv (V.lenSl v0) fun v10 =>
  LoopR (slices_Concat_byte_byte.l4 C N Q v0 v0 v10) [(.int .i64 0), (.int .i64 0)] h
def slices_Concat_byte_byte.Imp (C : CSem) (N : Nat → Nat) : Prop := ∀ (v0 : AVal) (h : AHeap) (Q : AVal → AHeap → Prop), slices_Concat_byte_byte.cps C N v0 h (dn Q) → C (N 439) [v0] h Q
def slices_Contains_string_string.cps (C : CSem) (N : Nat → Nat) (v0 v1 : AVal) (h : AHeap) (Q : AVal → AHeap → Prop) : Prop :=
 slices_ContainsG.cps C (opsS 16 (.str []) 0) (N 445) v0 v1 h Q
def slices_Contains_string_string.Imp (C : CSem) (N : Nat → Nat) : Prop := ∀ (v0 v1 : AVal) (h : AHeap) (Q : AVal → AHeap → Prop), slices_Contains_string_string.cps C N v0 v1 h (dn Q) → C (N 442) [v0, v1] h Q
@[simp] def slices_Chunk_byte_byte_1.k1 (C : CSem) (N : Nat → Nat) (Q : AVal → AHeap → Prop) (Y1 : List AVal → AHeap → Prop) (v0 v1 v2 v4 : AVal) (h : AHeap) : Prop :=
 B.ld h v1 fun v7 =>
  B.pv (V.lenSl v7) fun v8 =>
  B.pv (V.bin .lss v4 v8) fun v9 =>
  B.cond v9
  (B.ld h v2 fun v13 =>
  B.ld h v1 fun v14 =>
  B.pv (V.cutSl 1 v14 (some v4) none) fun v16 =>
  B.pv (V.lenSl v16) fun v17 =>
  B.pv (V.min2 v13 v17) fun v18 =>
  B.ld h v1 fun v20 =>
  B.pv (V.bin .add v4 v18) fun v24 =>
  B.pv (V.bin .add v4 v18) fun v27 =>
  B.pv (V.cut3 1 v20 v4 v24 v27) fun v28 =>
  B.callv h C v0 [v28] fun v29 h =>
  B.pv (V.un .not v29) fun v30 =>
  B.cond v30
  (Q (.tup []) h)
  (B.ld h v2 fun v11 =>
  B.pv (V.bin .add v4 v11) fun v12 =>
  Y1 [v12] h))
  (Q (.tup []) h)
@[simp] def slices_Chunk_byte_byte_1.l2 (C : CSem) (N : Nat → Nat) (Q : AVal → AHeap → Prop) (v0 v1 v2 : AVal) : List AVal → AHeap → (List AVal → AHeap → Prop) → Prop
 | [v4], h, Y1 => slices_Chunk_byte_byte_1.k1 C N Q Y1 v0 v1 v2 v4 h
 | _, _, _ => False
@[simp] def slices_Chunk_byte_byte_1.cps (C : CSem) (N : Nat → Nat) (v0 v1 v2 : AVal) (h : AHeap) (Q : AVal → AHeap → Prop) : Prop :=
 LoopR (slices_Chunk_byte_byte_1.l2 C N Q v0 v1 v2) [(.int .i64 0)] h
def slices_Chunk_byte_byte_1.Imp (C : CSem) (N : Nat → Nat) : Prop := ∀ (v0 v1 v2 : AVal) (h : AHeap) (Q : AVal → AHeap → Prop), slices_Chunk_byte_byte_1.cps C N v0 v1 v2 h (dn Q) → C (N 443) [v0, v1, v2] h Q
def slices_Grow_byte_byte.cps (C : CSem) (N : Nat → Nat) (v0 v1 : AVal) (h : AHeap) (Q : AVal → AHeap → Prop) : Prop :=
 slices_GrowG.cps C (opsS 1 (.int .u8 0) 0) v0 v1 h Q
def slices_Grow_byte_byte.Imp (C : CSem) (N : Nat → Nat) : Prop := ∀ (v0 v1 : AVal) (h : AHeap) (Q : AVal → AHeap → Prop), slices_Grow_byte_byte.cps C N v0 v1 h (dn Q) → C (N 444) [v0, v1] h Q
def slices_Index_string_string.cps (C : CSem) (N : Nat → Nat) (v0 v1 : AVal) (h : AHeap) (Q : AVal → AHeap → Prop) : Prop :=
 slices_IndexG.cps C (opsS 16 (.str []) 0) v0 v1 h Q
def slices_Index_string_string.Imp (C : CSem) (N : Nat → Nat) : Prop := ∀ (v0 v1 : AVal) (h : AHeap) (Q : AVal → AHeap → Prop), slices_Index_string_string.cps C N v0 v1 h (dn Q) → C (N 445) [v0, v1] h Q
@[simp] def tell_Put.k1 (C : CSem) (N : Nat → Nat) (Q : AVal → AHeap → Prop) (Y1 : List AVal → AHeap → Prop) (v4 v86 v87 v88 : AVal) (h : AHeap) : Prop :=
 B.pv (V.bin .lss v88 v87) fun v89 =>
  B.cond v89
  (B.pv (V.idxS 3 v86 v88) fun v90 =>
  B.ldn h v90 3 fun v91 =>
  B.pv (V.setN 0 3 v91 (.agg [.int .i64 0, .int .i64 0, .int .i64 0])) fun c9 =>
  B.al c9 (B.pv (V.field1 0 c9) fun v94 =>
  B.call C (N 50) [v4, v94, (.int .i64 8)] h fun v95 h =>
  B.al c9 (B.pv (V.field1 1 c9) fun v98 =>
  B.call C (N 50) [v95, v98, (.int .i64 8)] h fun v99 h =>
  B.al c9 (B.pv (V.field1 2 c9) fun v102 =>
  B.call C (N 50) [v99, v102, (.int .i64 8)] h fun v103 h =>
  B.pv (V.bin .add v88 (.int .i64 1)) fun v104 =>
  Y1 [v103, v104] h))))
  (Q (.tup [v4, (.int .i64 0)]) h)
@[simp] def tell_Put.l2 (C : CSem) (N : Nat → Nat) (Q : AVal → AHeap → Prop) (v86 v87 : AVal) : List AVal → AHeap → (List AVal → AHeap → Prop) → Prop
 | [v4, v88], h, Y1 => tell_Put.k1 C N Q Y1 v4 v86 v87 v88 h
 | _, _, _ => False
@[simp] def tell_Put.k3 (C : CSem) (N : Nat → Nat) (Q : AVal → AHeap → Prop) (v4 c1 : AVal) (h : AHeap) : Prop :=
 B.al c1 (B.pv (V.field1 6 c1) fun v82 =>
  B.pv (V.lenSl v82) fun v83 =>
  B.call C (N 50) [v4, v83, (.int .i64 2)] h fun v84 h =>
  B.al c1 (B.pv (V.field1 6 c1) fun v86 =>
  B.pv (V.lenSl v86) fun v87 =>
  LoopR (tell_Put.l2 C N Q v86 v87) [v84, (.int .i64 0)] h))
@[simp] def tell_Put.k4 (C : CSem) (N : Nat → Nat) (Q : AVal → AHeap → Prop) (Y2 : List AVal → AHeap → Prop) (v4 v45 v46 v47 c1 : AVal) (h : AHeap) : Prop :=
 B.pv (V.bin .lss v47 v46) fun v48 =>
  B.cond v48
  (B.pv (V.idxS 6 v45 v47) fun v49 =>
  B.ldn h v49 6 fun v50 =>
  B.pv (V.setN 0 6 v50 (.agg [.int .i64 0, .str [], .int .i64 0, .int .i64 0, .int .i64 0, .bool false])) fun c6 =>
  B.al c6 (B.pv (V.field1 0 c6) fun v53 =>
  B.call C (N 50) [v4, v53, (.int .i64 8)] h fun v54 h =>
  B.al c6 (B.pv (V.field1 1 c6) fun v57 =>
  B.call C (N 51) [v57] h fun v58 h =>
  B.appW h 1 1 v54 v58 fun v59 h =>
  B.al c6 (B.al c6 (B.pv (V.field1 2 c6) fun v63 =>
  B.call C (N 50) [v59, v63, (.int .i64 2)] h fun v64 h =>
  B.al c6 (B.al c6 (B.pv (V.field1 3 c6) fun v68 =>
  B.call C (N 50) [v64, v68, (.int .i64 2)] h fun v69 h =>
  B.al c6 (B.pv (V.field1 4 c6) fun v72 =>
  B.call C (N 50) [v69, v72, (.int .i64 8)] h fun v73 h =>
  B.al c6 (B.pv (V.field1 5 c6) fun v75 =>
  B.cond v75
  (B.call C (N 50) [v73, (.int .i64 1), (.int .i64 1)] h fun v78 h =>
  B.pv (V.bin .add v47 (.int .i64 1)) fun v79 =>
  Y2 [v78, v79] h)
  (B.call C (N 50) [v73, (.int .i64 0), (.int .i64 1)] h fun v78 h =>
  B.pv (V.bin .add v47 (.int .i64 1)) fun v79 =>
  Y2 [v78, v79] h))))))))))
  (tell_Put.k3 C N Q v4 c1 h)
@[simp] def tell_Put.l5 (C : CSem) (N : Nat → Nat) (Q : AVal → AHeap → Prop) (v45 v46 c1 : AVal) : List AVal → AHeap → (List AVal → AHeap → Prop) → Prop
 | [v4, v47], h, Y2 => tell_Put.k4 C N Q Y2 v4 v45 v46 v47 c1 h
 | _, _, _ => False
@[simp] def tell_Put.k6 (C : CSem) (N : Nat → Nat) (Q : AVal → AHeap → Prop) (v4 c1 : AVal) (h : AHeap) : Prop :=
 B.al c1 (B.pv (V.field1 5 c1) fun v41 =>
  B.pv (V.lenSl v41) fun v42 =>
  B.call C (N 50) [v4, v42, (.int .i64 2)] h fun v43 h =>
  B.al c1 (B.pv (V.field1 5 c1) fun v45 =>
  B.pv (V.lenSl v45) fun v46 =>
  LoopR (tell_Put.l5 C N Q v45 v46 c1) [v43, (.int .i64 0)] h))
@[simp] def tell_Put.k7 (C : CSem) (N : Nat → Nat) (Q : AVal → AHeap → Prop) (v4 c1 : AVal) (h : AHeap) : Prop :=
 B.al c1 (B.pv (V.field1 4 c1) fun v36 =>
  B.newO h (fillL [(0, none, v36)] (repL 1 [.int .u8 0])) fun i37 h =>
  B.appW h 1 1 v4 (.sl i37 0 0 1 1 1) fun v38 h =>
  tell_Put.k6 C N Q v38 c1 h)
@[simp] def tell_Put.k8 (C : CSem) (N : Nat → Nat) (Q : AVal → AHeap → Prop) (v4 c1 : AVal) (h : AHeap) : Prop :=
 B.al c1 (B.pv (V.field1 2 c1) fun v26 =>
  B.pv (V.bin .add v26 (.int .i64 1)) fun v27 =>
  B.call C (N 50) [v4, v27, (.int .i64 2)] h fun v28 h =>
  B.al c1 (B.pv (V.field1 3 c1) fun v31 =>
  B.call C (N 51) [v31] h fun v32 h =>
  B.appW h 1 1 v28 v32 fun v33 h =>
  tell_Put.k7 C N Q v33 c1 h))
@[simp] def tell_Put.k9 (C : CSem) (N : Nat → Nat) (Q : AVal → AHeap → Prop) (v4 c1 : AVal) (h : AHeap) : Prop :=
 B.al c1 (B.pv (V.field1 0 c1) fun v17 =>
  B.pv (V.bin .gtr v17 (.int .i64 0)) fun v18 =>
  B.cond v18
  (Q (.tup [v4, (.int .i64 0)]) h)
  (B.al c1 (B.pv (V.field1 1 c1) fun v22 =>
  B.call C (N 50) [v4, v22, (.int .i64 8)] h fun v23 h =>
  tell_Put.k8 C N Q v23 c1 h)))
@[simp] def tell_Put.k10 (C : CSem) (N : Nat → Nat) (Q : AVal → AHeap → Prop) (c1 : AVal) (h : AHeap) : Prop :=
 B.pv (V.fieldN 0 7 c1) fun v10 =>
  B.call C (N 29) [v10] h fun v11 h =>
  B.pv (V.un .not v11) fun v12 =>
  B.cond v12
  (Q (.tup [.nils, (.int .i64 2)]) h)
  (B.al c1 (B.pv (V.field1 0 c1) fun v14 =>
  B.call C (N 50) [.nils, v14, (.int .i64 2)] h fun v15 h =>
  tell_Put.k9 C N Q v15 c1 h))
@[simp] def tell_Put.cps (C : CSem) (N : Nat → Nat) (v0 : AVal) (h : AHeap) (Q : AVal → AHeap → Prop) : Prop :=
 B.pv (A.boxN 7 v0) fun c1 =>
  tell_Put.k10 C N Q c1 h
def tell_Put.Imp (C : CSem) (N : Nat → Nat) : Prop := ∀ (v0 : AVal) (h : AHeap) (Q : AVal → AHeap → Prop), tell_Put.cps C N v0 h (dn Q) → C (N 28) [v0] h Q
@[simp] def tell_Right.k1 (C : CSem) (N : Nat → Nat) (Q : AVal → AHeap → Prop) (Y1 : List AVal → AHeap → Prop) (v104 v105 v106 : AVal) (h : AHeap) : Prop :=
 B.pv (V.bin .lss v106 v105) fun v107 =>
  B.cond v107
  (B.pv (V.idxS 3 v104 v106) fun v108 =>
  B.ldn h v108 3 fun v109 =>
  B.pv (V.setN 0 3 v109 (.agg [.int .i64 0, .int .i64 0, .int .i64 0])) fun c7 =>
  B.al c7 (B.pv (V.field1 0 c7) fun v111 =>
  B.pv (V.bin .lss v111 (.int .i64 0)) fun v112 =>
  B.al c7 (B.gd h v112 false (fun K => K .undef h) fun _ h =>
  B.gd h v112 false (fun K => B.pv (V.field1 1 c7) fun v => K v h) fun v115 h =>
  B.gd h v112 false (fun K => B.pv (V.bin .lss v115 (.int .i64 1)) fun v => K v h) fun v116 h =>
  B.pick v112 (.bool true) v116 fun v117 =>
  B.al c7 (B.gd h v117 false (fun K => K .undef h) fun _ h =>
  B.gd h v117 false (fun K => B.pv (V.field1 2 c7) fun v => K v h) fun v120 h =>
  B.gd h v117 false (fun K => B.pv (V.bin .lss v120 (.int .i64 1)) fun v => K v h) fun v121 h =>
  B.pick v117 (.bool true) v121 fun v122 =>
  B.cond v122
  (Q (.bool false) h)
  (B.pv (V.bin .add v106 (.int .i64 1)) fun v123 =>
  Y1 [v123] h)))))
  (Q (.bool true) h)
@[simp] def tell_Right.l2 (C : CSem) (N : Nat → Nat) (Q : AVal → AHeap → Prop) (v104 v105 : AVal) : List AVal → AHeap → (List AVal → AHeap → Prop) → Prop
 | [v106], h, Y1 => tell_Right.k1 C N Q Y1 v104 v105 v106 h
 | _, _, _ => False
@[simp] def tell_Right.k3 (C : CSem) (N : Nat → Nat) (Q : AVal → AHeap → Prop) (Y2 : List AVal → AHeap → Prop) (v93 v94 v95 c1 : AVal) (h : AHeap) : Prop :=
 B.pv (V.bin .lss v95 v94) fun v96 =>
  B.cond v96
  (B.pv (V.idxS 6 v93 v95) fun v97 =>
  B.ldn h v97 6 fun v98 =>
  B.pv (V.setN 0 6 v98 (.agg [.int .i64 0, .str [], .int .i64 0, .int .i64 0, .int .i64 0, .bool false])) fun c5 =>
  B.pv (V.fieldN 0 6 c5) fun v99 =>
  B.call C (N 52) [v99] h fun v100 h =>
  B.pv (V.un .not v100) fun v101 =>
  B.cond v101
  (Q (.bool false) h)
  (B.pv (V.bin .add v95 (.int .i64 1)) fun v102 =>
  Y2 [v102] h))
  (B.al c1 (B.pv (V.field1 6 c1) fun v104 =>
  B.pv (V.lenSl v104) fun v105 =>
  LoopR (tell_Right.l2 C N Q v104 v105) [(.int .i64 0)] h))
@[simp] def tell_Right.l4 (C : CSem) (N : Nat → Nat) (Q : AVal → AHeap → Prop) (v93 v94 c1 : AVal) : List AVal → AHeap → (List AVal → AHeap → Prop) → Prop
 | [v95], h, Y2 => tell_Right.k3 C N Q Y2 v93 v94 v95 c1 h
 | _, _, _ => False
@[simp] def tell_Right.k5 (C : CSem) (N : Nat → Nat) (Q : AVal → AHeap → Prop) (v3 c1 : AVal) (h : AHeap) : Prop :=
 B.al c1 (B.pv (V.field1 0 c1) fun v38 =>
  B.pv (V.bin .lss v38 (.int .i64 0)) fun v39 =>
  B.al c1 (B.gd h v39 false (fun K => K .undef h) fun _ h =>
  B.gd h v39 false (fun K => B.pv (V.field1 0 c1) fun v => K v h) fun v42 h =>
  B.gd h v39 false (fun K => B.pv (V.bin .gtr v42 (.int .i64 999)) fun v => K v h) fun v43 h =>
  B.pick v39 (.bool true) v43 fun v44 =>
  B.cond v44
  (Q (.bool false) h)
  (B.al c1 (B.pv (V.field1 0 c1) fun v47 =>
  B.pv (V.bin .gtr v47 (.int .i64 0)) fun v48 =>
  B.cond v48
  (Q v3 h)
  (B.al c1 (B.pv (V.field1 1 c1) fun v52 =>
  B.pv (V.bin .lss v52 (.int .i64 0)) fun v53 =>
  B.al c1 (B.gd h v53 false (fun K => K .undef h) fun _ h =>
  B.gd h v53 false (fun K => B.pv (V.field1 2 c1) fun v => K v h) fun v56 h =>
  B.gd h v53 false (fun K => B.pv (V.bin .lss v56 (.int .i64 (-1))) fun v => K v h) fun v57 h =>
  B.pick v53 (.bool true) v57 fun v58 =>
  B.al c1 (B.gd h v58 false (fun K => K .undef h) fun _ h =>
  B.gd h v58 false (fun K => B.pv (V.field1 2 c1) fun v => K v h) fun v61 h =>
  B.gd h v58 false (fun K => B.pv (V.bin .gtr v61 (.int .i64 4000)) fun v => K v h) fun v62 h =>
  B.pick v58 (.bool true) v62 fun v63 =>
  B.al c1 (B.gd h v63 false (fun K => K .undef h) fun _ h =>
  B.gd h v63 false (fun K => B.pv (V.field1 3 c1) fun v => K v h) fun v66 h =>
  B.gd h v63 false (fun K => B.pv (V.bin .neq v66 (.str [])) fun v => K v h) fun v67 h =>
  B.gd h v63 false (fun K => K v67 h) fun v68 h =>
  B.al c1 (B.gd h v68 true (fun K => K .undef h) fun _ h =>
  B.gd h v68 true (fun K => B.pv (V.field1 3 c1) fun v => K v h) fun v70 h =>
  B.gd h v68 true (fun K => B.call C (N 53) [v70] h K) fun v71 h =>
  B.gd h v68 true (fun K => B.pv (V.un .not v71) fun v => K v h) fun v72 h =>
  B.gd h v63 false (fun K => B.pick v68 v72 (.bool false) fun v => K v h) fun v73 h =>
  B.pick v63 (.bool true) v73 fun v74 =>
  B.al c1 (B.gd h v74 false (fun K => K .undef h) fun _ h =>
  B.gd h v74 false (fun K => B.pv (V.field1 4 c1) fun v => K v h) fun v77 h =>
  B.gd h v74 false (fun K => B.pv (V.bin .gtr v77 (.int .u8 3)) fun v => K v h) fun v78 h =>
  B.pick v74 (.bool true) v78 fun v79 =>
  B.al c1 (B.gd h v79 false (fun K => K .undef h) fun _ h =>
  B.gd h v79 false (fun K => B.pv (V.field1 5 c1) fun v => K v h) fun v82 h =>
  B.gd h v79 false (fun K => B.pv (V.lenSl v82) fun v => K v h) fun v83 h =>
  B.gd h v79 false (fun K => B.pv (V.bin .gtr v83 (.int .i64 300)) fun v => K v h) fun v84 h =>
  B.pick v79 (.bool true) v84 fun v85 =>
  B.al c1 (B.gd h v85 false (fun K => K .undef h) fun _ h =>
  B.gd h v85 false (fun K => B.pv (V.field1 6 c1) fun v => K v h) fun v88 h =>
  B.gd h v85 false (fun K => B.pv (V.lenSl v88) fun v => K v h) fun v89 h =>
  B.gd h v85 false (fun K => B.pv (V.bin .gtr v89 (.int .i64 2000)) fun v => K v h) fun v90 h =>
  B.pick v85 (.bool true) v90 fun v91 =>
  B.cond v91
  (Q (.bool false) h)
  (B.al c1 (B.pv (V.field1 5 c1) fun v93 =>
  B.pv (V.lenSl v93) fun v94 =>
  LoopR (tell_Right.l4 C N Q v93 v94 c1) [(.int .i64 0)] h)))))))))))))))
@[simp] def tell_Right.k6 (C : CSem) (N : Nat → Nat) (Q : AVal → AHeap → Prop) (c1 : AVal) (h : AHeap) : Prop :=
 B.al c1 (B.pv (V.field1 1 c1) fun v9 =>
  B.pv (V.bin .eql v9 (.int .i64 0)) fun v10 =>
  B.al c1 (B.gd h v10 true (fun K => K .undef h) fun _ h =>
  B.gd h v10 true (fun K => B.pv (V.field1 2 c1) fun v => K v h) fun v13 h =>
  B.gd h v10 true (fun K => B.pv (V.bin .eql v13 (.int .i64 0)) fun v => K v h) fun v14 h =>
  B.pick v10 v14 (.bool false) fun v15 =>
  B.al c1 (B.gd h v15 true (fun K => K .undef h) fun _ h =>
  B.gd h v15 true (fun K => B.pv (V.field1 3 c1) fun v => K v h) fun v18 h =>
  B.gd h v15 true (fun K => B.pv (V.bin .eql v18 (.str [])) fun v => K v h) fun v19 h =>
  B.pick v15 v19 (.bool false) fun v20 =>
  B.al c1 (B.gd h v20 true (fun K => K .undef h) fun _ h =>
  B.gd h v20 true (fun K => B.pv (V.field1 4 c1) fun v => K v h) fun v23 h =>
  B.gd h v20 true (fun K => B.pv (V.bin .eql v23 (.int .u8 0)) fun v => K v h) fun v24 h =>
  B.pick v20 v24 (.bool false) fun v25 =>
  B.al c1 (B.gd h v25 true (fun K => K .undef h) fun _ h =>
  B.gd h v25 true (fun K => B.pv (V.field1 5 c1) fun v => K v h) fun v28 h =>
  B.gd h v25 true (fun K => B.pv (V.lenSl v28) fun v => K v h) fun v29 h =>
  B.al c1 (B.gd h v25 true (fun K => K .undef h) fun _ h =>
  B.gd h v25 true (fun K => B.pv (V.field1 6 c1) fun v => K v h) fun v31 h =>
  B.gd h v25 true (fun K => B.pv (V.lenSl v31) fun v => K v h) fun v32 h =>
  B.gd h v25 true (fun K => B.pv (V.bin .add v29 v32) fun v => K v h) fun v33 h =>
  B.gd h v25 true (fun K => B.pv (V.bin .eql v33 (.int .i64 0)) fun v => K v h) fun v34 h =>
  B.pick v25 v34 (.bool false) fun v35 =>
  tell_Right.k5 C N Q v35 c1 h))))))
@[simp] def tell_Right.cps (C : CSem) (N : Nat → Nat) (v0 : AVal) (h : AHeap) (Q : AVal → AHeap → Prop) : Prop :=
 B.pv (A.boxN 7 v0) fun c1 =>
  tell_Right.k6 C N Q c1 h
def tell_Right.Imp (C : CSem) (N : Nat → Nat) : Prop := ∀ (v0 : AVal) (h : AHeap) (Q : AVal → AHeap → Prop), tell_Right.cps C N v0 h (dn Q) → C (N 29) [v0] h Q
@[simp] def tell_Get.k1 (C : CSem) (N : Nat → Nat) (Q : AVal → AHeap → Prop) (v2 v5 c6 : AVal) (h : AHeap) : Prop :=
 B.nilCheck v5 fun v41 =>
  B.pv (V.fieldAddr 2 v41) fun v42 =>
  B.ld h v42 fun v43 =>
  B.gd h v43 false (fun K => B.pv (V.fieldN 0 7 c6) fun v => K v h) fun v45 h =>
  B.gd h v43 false (fun K => B.call C (N 29) [v45] h K) fun v46 h =>
  B.gd h v43 false (fun K => B.pv (V.un .not v46) fun v => K v h) fun v47 h =>
  B.pick v43 (.bool true) v47 fun v48 =>
  B.cond v48
  (B.pv (A.bld [] [.int .i64 0, .int .i64 0, .int .i64 0, .str [], .int .u8 0, .nils, .nils]) fun v49 =>
  B.stn h v2 7 v49 fun h =>
  B.pv (oneOf (joinV (A.ldnv h v2 7) (joinV (some (.int .i64 0)) (joinV (some (.int .i64 4)) (some []))))) fun v => Q v h)
  (B.pv (V.fieldN 0 7 c6) fun v50 =>
  B.nilCheck v5 fun v52 =>
  B.pv (V.fieldAddr 1 v52) fun v53 =>
  B.ld h v53 fun v54 =>
  (fun K => B.stn h v2 7 v50 fun h => K .undef h) (B.keepS h [(v53, none)] (fun _ h => B.pv (oneOf (joinV (A.ldnv h v2 7) (joinV (some v54) (joinV (some (.int .i64 0)) (some []))))) fun v => Q v h)))
@[simp] def tell_Get.k2 (C : CSem) (N : Nat → Nat) (Q : AVal → AHeap → Prop) (v2 v5 c6 : AVal) (h : AHeap) : Prop :=
 B.al c6 (B.pv (V.field1 0 c6) fun v14 =>
  B.pv (V.bin .eql v14 (.int .i64 0)) fun v15 =>
  B.cond v15
  (B.call C (N 65) [v5, (.int .i64 8)] h fun v17 h =>
  B.al c6 (B.pv (V.setF 1 v17 c6) fun c6 =>
  B.call C (N 65) [v5, (.int .i64 2)] h fun v20 h =>
  B.pv (V.bin .sub v20 (.int .i64 1)) fun v21 =>
  B.al c6 (B.pv (V.setF 2 v21 c6) fun c6 =>
  B.call C (N 66) [v5] h fun v24 h =>
  B.al c6 (B.pv (V.setF 3 v24 c6) fun c6 =>
  B.call C (N 65) [v5, (.int .i64 1)] h fun v27 h =>
  B.pv (V.toInt .u8 v27) fun v28 =>
  B.al c6 (B.pv (V.setF 4 v28 c6) fun c6 =>
  B.call C (N 68) [v5, (.fn (N 67) [v5] [])] h fun v33 h =>
  B.al c6 (B.pv (V.setF 5 v33 c6) fun c6 =>
  B.call C (N 70) [v5, (.fn (N 69) [v5] [])] h fun v38 h =>
  B.al c6 (B.pv (V.setF 6 v38 c6) fun c6 =>
  tell_Get.k1 C N Q v2 v5 c6 h)))))))
  (tell_Get.k1 C N Q v2 v5 c6 h))
@[simp] def tell_Get.k3 (C : CSem) (N : Nat → Nat) (Q : AVal → AHeap → Prop) (v2 v5 : AVal) (h : AHeap) : Prop :=
 B.call C (N 65) [v5, (.int .i64 2)] h fun v11 h =>
  B.pv (A.bld [(0, none, v11)] [.int .i64 0, .int .i64 0, .int .i64 0, .str [], .int .u8 0, .nils, .nils]) fun v12 =>
  B.pv (V.setN 0 7 v12 (.agg [.int .i64 0, .int .i64 0, .int .i64 0, .str [], .int .u8 0, .nils, .nils])) fun c6 =>
  tell_Get.k2 C N Q v2 v5 c6 h
@[simp] def tell_Get.k4 (C : CSem) (N : Nat → Nat) (Q : AVal → AHeap → Prop) (v0 : AVal) (h : AHeap) : Prop :=
 B.newO h (some [.int .i64 0, .int .i64 0, .int .i64 0, .str [], .int .u8 0, .nils, .nils]) fun i2 h =>
  B.pv (A.bld [(0, none, v0)] [.nils, .int .i64 0, .bool false]) fun v8 =>
  B.newO h (A.cellsN 3 v8) fun i9 h =>
  tell_Get.k3 C N Q (.ptr i2 0 0) (.ptr i9 0 0) h
@[simp] def tell_Get.cps (C : CSem) (N : Nat → Nat) (v0 : AVal) (h : AHeap) (Q : AVal → AHeap → Prop) : Prop :=
 tell_Get.k4 C N Q v0 h
def tell_Get.Imp (C : CSem) (N : Nat → Nat) : Prop := ∀ (v0 : AVal) (h : AHeap) (Q : AVal → AHeap → Prop), tell_Get.cps C N v0 h (dn Q) → C (N 38) [v0] h Q
@[simp] def tell_put.k1 (C : CSem) (N : Nat → Nat) (Q : AVal → AHeap → Prop) (Y1 : List AVal → AHeap → Prop) (v0 v1 v7 : AVal) (h : AHeap) : Prop :=
 B.pv (V.bin .geq v7 (.int .i64 0)) fun v11 =>
  B.cond v11
  (B.pv (V.bin .mul (.int .i64 8) v7) fun v17 =>
  B.pv (V.bin .shr v1 v17) fun v18 =>
  B.pv (V.toInt .u8 v18) fun v19 =>
  B.newO h (fillL [(0, none, v19)] (repL 1 [.int .u8 0])) fun i20 h =>
  B.appW h 1 1 v0 (.sl i20 0 0 1 1 1) fun v21 h =>
  B.pv (V.bin .sub v7 (.int .i64 1)) fun v13 =>
  Y1 [v21, v13] h)
  (Q v0 h)
@[simp] def tell_put.l2 (C : CSem) (N : Nat → Nat) (Q : AVal → AHeap → Prop) (v1 : AVal) : List AVal → AHeap → (List AVal → AHeap → Prop) → Prop
 | [v0, v7], h, Y1 => tell_put.k1 C N Q Y1 v0 v1 v7 h
 | _, _, _ => False
@[simp] def tell_put.cps (C : CSem) (N : Nat → Nat) (v0 v1 v2 : AVal) (h : AHeap) (Q : AVal → AHeap → Prop) : Prop :=
 B.pv (V.bin .sub v2 (.int .i64 1)) fun v9 =>
  LoopR (tell_put.l2 C N Q v1) [v0, v9] h
def tell_put.Imp (C : CSem) (N : Nat → Nat) : Prop := ∀ (v0 v1 v2 : AVal) (h : AHeap) (Q : AVal → AHeap → Prop), tell_put.cps C N v0 v1 v2 h (dn Q) → C (N 50) [v0, v1, v2] h Q
@[simp] def tell_reader_number.k1 (C : CSem) (N : Nat → Nat) (Q : AVal → AHeap → Prop) (v0 v1 v5 : AVal) (h : AHeap) : Prop :=
 B.nilCheck v0 fun v60 =>
  B.pv (V.fieldAddr 1 v60) fun v61 =>
  B.ld h v61 fun v62 =>
  B.pv (V.bin .add v62 v1) fun v64 =>
  B.nilCheck v0 fun v65 =>
  B.pv (V.fieldAddr 1 v65) fun v66 =>
  B.st h v66 v64 fun h =>
  Q v5 h
@[simp] def tell_reader_number.k2 (C : CSem) (N : Nat → Nat) (Q : AVal → AHeap → Prop) (Y1 : List AVal → AHeap → Prop) (v0 v1 v5 v47 v48 v49 : AVal) (h : AHeap) : Prop :=
 B.pv (V.bin .lss v49 v48) fun v50 =>
  B.cond v50
  (B.pv (V.idxS 1 v47 v49) fun v51 =>
  B.ld h v51 fun v52 =>
  B.pv (V.bin .shl v5 (.int .u64 8)) fun v54 =>
  B.pv (V.toInt .i64 v52) fun v56 =>
  B.pv (V.bin .or v54 v56) fun v57 =>
  B.pv (V.bin .add v49 (.int .i64 1)) fun v58 =>
  Y1 [v57, v58] h)
  (tell_reader_number.k1 C N Q v0 v1 v5 h)
@[simp] def tell_reader_number.l3 (C : CSem) (N : Nat → Nat) (Q : AVal → AHeap → Prop) (v0 v1 v47 v48 : AVal) : List AVal → AHeap → (List AVal → AHeap → Prop) → Prop
 | [v5, v49], h, Y1 => tell_reader_number.k2 C N Q Y1 v0 v1 v5 v47 v48 v49 h
 | _, _, _ => False
@[simp] def tell_reader_number.k4 (C : CSem) (N : Nat → Nat) (Q : AVal → AHeap → Prop) (v0 v1 v5 : AVal) (h : AHeap) : Prop :=
 B.nilCheck v0 fun v34 =>
  B.pv (V.fieldAddr 0 v34) fun v35 =>
  B.ld h v35 fun v36 =>
  B.nilCheck v0 fun v38 =>
  B.pv (V.fieldAddr 1 v38) fun v39 =>
  B.ld h v39 fun v40 =>
  B.nilCheck v0 fun v42 =>
  B.pv (V.fieldAddr 1 v42) fun v43 =>
  B.ld h v43 fun v44 =>
  B.pv (V.bin .add v44 v1) fun v46 =>
  B.pv (V.cutSl 1 v36 (some v40) (some v46)) fun v47 =>
  B.pv (V.lenSl v47) fun v48 =>
  LoopR (tell_reader_number.l3 C N Q v0 v1 v47 v48) [v5, (.int .i64 0)] h
@[simp] def tell_reader_number.k5 (C : CSem) (N : Nat → Nat) (Q : AVal → AHeap → Prop) (v0 v1 : AVal) (h : AHeap) : Prop :=
 B.nilCheck v0 fun v10 =>
  B.pv (V.fieldAddr 2 v10) fun v11 =>
  B.ld h v11 fun v12 =>
  B.gd h v12 false (fun K => K v1 h) fun v14 h =>
  B.gd h v12 false (fun K => K v0 h) fun v15 h =>
  B.gd h v12 false (fun K => B.nilCheck v15 fun v => K v h) fun v16 h =>
  B.gd h v12 false (fun K => B.pv (V.fieldAddr 0 v16) fun v => K v h) fun v17 h =>
  B.gd h v12 false (fun K => B.ld h v17 fun v => K v h) fun v18 h =>
  B.gd h v12 false (fun K => B.pv (V.lenSl v18) fun v => K v h) fun v19 h =>
  B.gd h v12 false (fun K => K v0 h) fun v20 h =>
  B.gd h v12 false (fun K => B.nilCheck v20 fun v => K v h) fun v21 h =>
  B.gd h v12 false (fun K => B.pv (V.fieldAddr 1 v21) fun v => K v h) fun v22 h =>
  B.gd h v12 false (fun K => B.ld h v22 fun v => K v h) fun v23 h =>
  B.gd h v12 false (fun K => B.pv (V.bin .sub v19 v23) fun v => K v h) fun v24 h =>
  B.gd h v12 false (fun K => B.pv (V.bin .gtr v14 v24) fun v => K v h) fun v25 h =>
  B.pick v12 (.bool true) v25 fun v26 =>
  B.nilCheck v0 fun v27 =>
  B.pv (V.fieldAddr 2 v27) fun v28 =>
  B.st h v28 v26 fun h =>
  B.nilCheck v0 fun v30 =>
  B.pv (V.fieldAddr 2 v30) fun v31 =>
  B.ld h v31 fun v32 =>
  B.cond v32
  (Q (.int .i64 0) h)
  (tell_reader_number.k4 C N Q v0 v1 (.int .i64 0) h)
@[simp] def tell_reader_number.cps (C : CSem) (N : Nat → Nat) (v0 v1 : AVal) (h : AHeap) (Q : AVal → AHeap → Prop) : Prop :=
 tell_reader_number.k5 C N Q v0 v1 h
def tell_reader_number.Imp (C : CSem) (N : Nat → Nat) : Prop := ∀ (v0 v1 : AVal) (h : AHeap) (Q : AVal → AHeap → Prop), tell_reader_number.cps C N v0 v1 h (dn Q) → C (N 65) [v0, v1] h Q
@[simp] def tell_reader_code.k1 (C : CSem) (N : Nat → Nat) (Q : AVal → AHeap → Prop) (v0 : AVal) (h : AHeap) : Prop :=
 B.nilCheck v0 fun v7 =>
  B.pv (V.fieldAddr 2 v7) fun v8 =>
  B.ld h v8 fun v9 =>
  B.cond v9
  (Q (.str []) h)
  (B.nilCheck v0 fun v12 =>
  B.pv (V.fieldAddr 0 v12) fun v13 =>
  B.ld h v13 fun v14 =>
  B.nilCheck v0 fun v16 =>
  B.pv (V.fieldAddr 1 v16) fun v17 =>
  B.ld h v17 fun v18 =>
  B.pv (V.cutSl 1 v14 (some v18) none) fun v19 =>
  B.call C (N 103) [v19] h fun v20 h =>
  B.pv (V.ext 0 v20) fun v21 =>
  B.pv (V.ext 1 v20) fun v22 =>
  B.pv (V.ext 2 v20) fun v23 =>
  B.pv (V.un .not v23) fun v26 =>
  B.nilCheck v0 fun v27 =>
  B.pv (V.fieldAddr 2 v27) fun v28 =>
  B.st h v28 v26 fun h =>
  B.nilCheck v0 fun v30 =>
  B.pv (V.fieldAddr 1 v30) fun v31 =>
  B.ld h v31 fun v32 =>
  B.pv (V.bin .add v32 v22) fun v34 =>
  B.nilCheck v0 fun v35 =>
  B.pv (V.fieldAddr 1 v35) fun v36 =>
  B.st h v36 v34 fun h =>
  Q v21 h)
@[simp] def tell_reader_code.cps (C : CSem) (N : Nat → Nat) (v0 : AVal) (h : AHeap) (Q : AVal → AHeap → Prop) : Prop :=
 tell_reader_code.k1 C N Q v0 h
def tell_reader_code.Imp (C : CSem) (N : Nat → Nat) : Prop := ∀ (v0 : AVal) (h : AHeap) (Q : AVal → AHeap → Prop), tell_reader_code.cps C N v0 h (dn Q) → C (N 66) [v0] h Q
@[simp] def tell_reader_lot.k1 (C : CSem) (N : Nat → Nat) (Q : AVal → AHeap → Prop) (v0 : AVal) (h : AHeap) : Prop :=
 B.call C (N 65) [v0, (.int .i64 8)] h fun v6 h =>
  B.call C (N 66) [v0] h fun v8 h =>
  B.pv (A.bld [(0, none, v6), (1, none, v8)] [.int .i64 0, .str [], .int .i64 0, .int .i64 0, .int .i64 0, .bool false]) fun v9 =>
  B.pv (V.setN 0 6 v9 (.agg [.int .i64 0, .str [], .int .i64 0, .int .i64 0, .int .i64 0, .bool false])) fun c3 =>
  B.call C (N 65) [v0, (.int .i64 2)] h fun v11 h =>
  B.call C (N 65) [v0, (.int .i64 2)] h fun v13 h =>
  B.al c3 (B.al c3 (B.pv (V.setF 2 v11 c3) fun c3 =>
  B.al c3 (B.al c3 (B.pv (V.setF 3 v13 c3) fun c3 =>
  B.call C (N 65) [v0, (.int .i64 8)] h fun v19 h =>
  B.al c3 (B.pv (V.setF 4 v19 c3) fun c3 =>
  B.call C (N 65) [v0, (.int .i64 1)] h fun v22 h =>
  B.pv (V.bin .eql v22 (.int .i64 1)) fun v24 =>
  B.al c3 (B.pv (V.setF 5 v24 c3) fun c3 =>
  B.nilCheck v0 fun v28 =>
  B.pv (V.fieldAddr 2 v28) fun v29 =>
  B.ld h v29 fun v30 =>
  B.gd h v30 false (fun K => K v22 h) fun v32 h =>
  B.gd h v30 false (fun K => B.pv (V.bin .gtr v32 (.int .i64 1)) fun v => K v h) fun v33 h =>
  B.pick v30 (.bool true) v33 fun v34 =>
  B.nilCheck v0 fun v35 =>
  B.pv (V.fieldAddr 2 v35) fun v36 =>
  B.st h v36 v34 fun h =>
  B.pv (V.fieldN 0 6 c3) fun v37 =>
  B.pv (V.setN 0 6 v37 (.agg [.int .i64 0, .str [], .int .i64 0, .int .i64 0, .int .i64 0, .bool false])) fun c2 =>
  B.pv (oneOf (joinV (V.fieldN 0 6 c2) (some []))) fun v => Q v h))))))
@[simp] def tell_reader_lot.cps (C : CSem) (N : Nat → Nat) (v0 : AVal) (h : AHeap) (Q : AVal → AHeap → Prop) : Prop :=
 tell_reader_lot.k1 C N Q v0 h
def tell_reader_lot.Imp (C : CSem) (N : Nat → Nat) : Prop := ∀ (v0 : AVal) (h : AHeap) (Q : AVal → AHeap → Prop), tell_reader_lot.cps C N v0 h (dn Q) → C (N 67) [v0] h Q
@[simp] def tell_list_api_Lot.k1 (C : CSem) (N : Nat → Nat) (Q : AVal → AHeap → Prop) (Y1 : List AVal → AHeap → Prop) (v0 v1 v5 v6 : AVal) (h : AHeap) : Prop :=
 B.pv (V.bin .gtr v6 (.int .i64 0)) fun v10 =>
  B.gd h v10 true (fun K => K v0 h) fun v12 h =>
  B.gd h v10 true (fun K => B.nilCheck v12 fun v => K v h) fun v13 h =>
  B.gd h v10 true (fun K => B.pv (V.fieldAddr 2 v13) fun v => K v h) fun v14 h =>
  B.gd h v10 true (fun K => B.ld h v14 fun v => K v h) fun v15 h =>
  B.gd h v10 true (fun K => B.pv (V.un .not v15) fun v => K v h) fun v16 h =>
  B.pick v10 v16 (.bool false) fun v17 =>
  B.cond v17
  (B.callv h C v1 [] fun v22 h =>
  B.newO h (fillL [(0, some 6, v22)] (repL 1 [.int .i64 0, .str [], .int .i64 0, .int .i64 0, .int .i64 0, .bool false])) fun i23 h =>
  B.appW h 6 56 v5 (.sl i23 0 0 1 6 1) fun v24 h =>
  B.pv (V.bin .sub v6 (.int .i64 1)) fun v19 =>
  Y1 [v24, v19] h)
  (Q v5 h)
@[simp] def tell_list_api_Lot.l2 (C : CSem) (N : Nat → Nat) (Q : AVal → AHeap → Prop) (v0 v1 : AVal) : List AVal → AHeap → (List AVal → AHeap → Prop) → Prop
 | [v5, v6], h, Y1 => tell_list_api_Lot.k1 C N Q Y1 v0 v1 v5 v6 h
 | _, _, _ => False
@[simp] def tell_list_api_Lot.cps (C : CSem) (N : Nat → Nat) (v0 v1 : AVal) (h : AHeap) (Q : AVal → AHeap → Prop) : Prop :=
 B.call C (N 65) [v0, (.int .i64 2)] h fun v8 h =>
  LoopR (tell_list_api_Lot.l2 C N Q v0 v1) [.nils, v8] h
def tell_list_api_Lot.Imp (C : CSem) (N : Nat → Nat) : Prop := ∀ (v0 v1 : AVal) (h : AHeap) (Q : AVal → AHeap → Prop), tell_list_api_Lot.cps C N v0 v1 h (dn Q) → C (N 68) [v0, v1] h Q
@[simp] def tell_reader_use.k1 (C : CSem) (N : Nat → Nat) (Q : AVal → AHeap → Prop) (v0 : AVal) (h : AHeap) : Prop :=
 B.call C (N 65) [v0, (.int .i64 8)] h fun v4 h =>
  B.call C (N 65) [v0, (.int .i64 8)] h fun v6 h =>
  B.call C (N 65) [v0, (.int .i64 8)] h fun v8 h =>
  B.pv (A.bld [(0, none, v4), (1, none, v6), (2, none, v8)] [.int .i64 0, .int .i64 0, .int .i64 0]) fun v9 =>
  B.pv (V.setN 0 3 v9 (.agg [.int .i64 0, .int .i64 0, .int .i64 0])) fun c2 =>
  B.pv (oneOf (joinV (V.fieldN 0 3 c2) (some []))) fun v => Q v h
@[simp] def tell_reader_use.cps (C : CSem) (N : Nat → Nat) (v0 : AVal) (h : AHeap) (Q : AVal → AHeap → Prop) : Prop :=
 tell_reader_use.k1 C N Q v0 h
def tell_reader_use.Imp (C : CSem) (N : Nat → Nat) : Prop := ∀ (v0 : AVal) (h : AHeap) (Q : AVal → AHeap → Prop), tell_reader_use.cps C N v0 h (dn Q) → C (N 69) [v0] h Q
@[simp] def tell_list_api_Use.k1 (C : CSem) (N : Nat → Nat) (Q : AVal → AHeap → Prop) (Y1 : List AVal → AHeap → Prop) (v0 v1 v5 v6 : AVal) (h : AHeap) : Prop :=
 B.pv (V.bin .gtr v6 (.int .i64 0)) fun v10 =>
  B.gd h v10 true (fun K => K v0 h) fun v12 h =>
  B.gd h v10 true (fun K => B.nilCheck v12 fun v => K v h) fun v13 h =>
  B.gd h v10 true (fun K => B.pv (V.fieldAddr 2 v13) fun v => K v h) fun v14 h =>
  B.gd h v10 true (fun K => B.ld h v14 fun v => K v h) fun v15 h =>
  B.gd h v10 true (fun K => B.pv (V.un .not v15) fun v => K v h) fun v16 h =>
  B.pick v10 v16 (.bool false) fun v17 =>
  B.cond v17
  (B.callv h C v1 [] fun v22 h =>
  B.newO h (fillL [(0, some 3, v22)] (repL 1 [.int .i64 0, .int .i64 0, .int .i64 0])) fun i23 h =>
  B.appW h 3 24 v5 (.sl i23 0 0 1 3 1) fun v24 h =>
  B.pv (V.bin .sub v6 (.int .i64 1)) fun v19 =>
  Y1 [v24, v19] h)
  (Q v5 h)
@[simp] def tell_list_api_Use.l2 (C : CSem) (N : Nat → Nat) (Q : AVal → AHeap → Prop) (v0 v1 : AVal) : List AVal → AHeap → (List AVal → AHeap → Prop) → Prop
 | [v5, v6], h, Y1 => tell_list_api_Use.k1 C N Q Y1 v0 v1 v5 v6 h
 | _, _, _ => False
@[simp] def tell_list_api_Use.cps (C : CSem) (N : Nat → Nat) (v0 v1 : AVal) (h : AHeap) (Q : AVal → AHeap → Prop) : Prop :=
 B.call C (N 65) [v0, (.int .i64 2)] h fun v8 h =>
  LoopR (tell_list_api_Use.l2 C N Q v0 v1) [.nils, v8] h
def tell_list_api_Use.Imp (C : CSem) (N : Nat → Nat) : Prop := ∀ (v0 v1 : AVal) (h : AHeap) (Q : AVal → AHeap → Prop), tell_list_api_Use.cps C N v0 v1 h (dn Q) → C (N 70) [v0, v1] h Q
@[simp] def window_Right.k1 (C : CSem) (N : Nat → Nat) (Q : AVal → AHeap → Prop) (v0 : AVal) (h : AHeap) : Prop :=
 B.pv (A.boxN 2 v0) fun c1 =>
  B.al c1 (B.pv (V.field1 0 c1) fun v4 =>
  B.pv (V.bin .leq (.int .i64 0) v4) fun v5 =>
  B.al c1 (B.gd h v5 true (fun K => K .undef h) fun _ h =>
  B.gd h v5 true (fun K => B.pv (V.field1 0 c1) fun v => K v h) fun v8 h =>
  B.al c1 (B.gd h v5 true (fun K => K .undef h) fun _ h =>
  B.gd h v5 true (fun K => B.pv (V.field1 1 c1) fun v => K v h) fun v10 h =>
  B.gd h v5 true (fun K => B.pv (V.bin .leq v8 v10) fun v => K v h) fun v11 h =>
  B.pick v5 v11 (.bool false) fun v12 =>
  B.al c1 (B.gd h v12 true (fun K => K .undef h) fun _ h =>
  B.gd h v12 true (fun K => B.pv (V.field1 1 c1) fun v => K v h) fun v15 h =>
  B.gd h v12 true (fun K => B.pv (V.bin .leq v15 (.int .i64 4001)) fun v => K v h) fun v16 h =>
  B.pick v12 v16 (.bool false) fun v17 =>
  Q v17 h))))
@[simp] def window_Right.cps (C : CSem) (N : Nat → Nat) (v0 : AVal) (h : AHeap) (Q : AVal → AHeap → Prop) : Prop :=
 window_Right.k1 C N Q v0 h
def window_Right.Imp (C : CSem) (N : Nat → Nat) : Prop := ∀ (v0 : AVal) (h : AHeap) (Q : AVal → AHeap → Prop), window_Right.cps C N v0 h (dn Q) → C (N 5) [v0] h Q
end Go.Ab
