/- What is proved: a part of the way to the statement: AcJ, AcL, AcM, AcN, AcO, Ctypes, AcR, AdD, Ramount, Rcmp, Rcode, Rflow, Rkit, Rlaw06, Rleast, Rlot, Rmathbits, Rref01, Rref03, Rref04, Rref05, Rref06, Rgen, Rslices, Rwindow. No conditions. -/
import Derived.Test.YteckamcjoodjfaaQ3
import Derived.Test.YteckamcjoodjfaaQ5
import Derived.KernelRfl
set_option linter.unusedVariables false
set_option linter.unusedSimpArgs false
namespace Go.Ab
theorem zsd {T : Type} {H : za} {bytes es : Nat} {e : Ty} {v : AVal} (cs : T → List AVal) (hd : ∀ p, zia H e p → ∃ t, p = cs t) (h : zia H (.sl bytes es e) [v]) :
  ∃ L : List T, SlIs H es v (L.map cs) ∧ L.length * bytes ≤ reach := by
 rcases h with h | h | ⟨id, parts, h1, h2, h3, h4⟩
 ·cases h; exact ⟨[], SlX.nils H es, by simp⟩
 ·cases h; exact ⟨[], SlX.sz H es, by simp⟩
 ·cases h1
  have : ∃ L : List T, parts = L.map cs := by
   clear h2 h3
   induction parts with
   | nil => exact ⟨[], rfl⟩
   | cons p r ih =>
    obtain ⟨L, rfl⟩ := ih fun q hq => h4 q (by simp [hq])
    obtain ⟨t, rfl⟩ := hd p (h4 p (by simp)).1
    exact ⟨t :: L, rfl⟩
  obtain ⟨L, rfl⟩ := this
  have hl : ∀ p ∈ L.map cs ++ [], p.length = es := fun p hp => (h4 p (by simpa using hp)).2
  have hfl : (L.map cs).flatten.length = L.length * es := by
   have := zkn (css := L.map cs) (n := es) fun p hp => (h4 p hp).2
   simpa using this
  refine ⟨L, ⟨hl, .inr ⟨id, 0, 0, (L.map cs).length, roOf (L.map cs).flatten, (L.map cs).flatten.length, rfl, by simp, h2, zhz .., ?_, Nat.le_refl _, ?_⟩⟩, by simpa using h3⟩
  ·rw [hfl]; simp
  ·simp only [roOf, List.drop_zero, List.append_nil, List.length_nil, Nat.add_zero, List.length_map]
   rw [← hfl, List.take_length]
end Go.Ab
namespace Go.Ab
variable {C : CSem} {N : Nat → Nat}
structure zx where
 es : Nat
 bytes : Nat
 z : List AVal
 f : Nat
 kp : Option Nat
 ld : za → AVal → (AVal → Prop) → Prop
 st : za → AVal → AVal → (za → Prop) → Prop
 eq : za → AVal → AVal → (AVal → za → Prop) → Prop
section
variable (E : zx)
def opsF (es bytes : Nat) (z : List AVal) (f : Nat) (sh : List Ck) : zx where
 es := es; bytes := bytes; z := z; f := f; kp := some es
 ld := fun h p K => B.ldn h p es K
 st := fun h p v K => B.stn h p es v K
 eq := fun h a b K => B.pv (V.zjn .eql sh a b) fun v => K v h
def opsS (bytes : Nat) (z : AVal) (f : Nat) : zx where
 es := 1; bytes := bytes; z := [z]; f := f; kp := none
 ld := fun h p K => B.ld h p K
 st := fun h p v K => B.st h p v K
 eq := fun h a b K => B.pv (V.bin .eql a b) fun v => K v h
end
end Go.Ab
namespace Go.Ab
variable {C : CSem} {N : Nat → Nat}
def aoff : AVal → Nat
 | .sl _ _ off _ _ _ => off
 | _ => 0
structure Old (h : za) (es : Nat) (x : AVal) (L : List (List AVal)) (y : AVal) (M : List (List AVal)) : Prop where
 at_ : SlX h es x L []
 ft : foot x = none ∨ (foot x = foot y ∧ aoff x = aoff y)
 len : L.length ≤ M.length
theorem Old.other {h h' : za} {es : Nat} {x y z : AVal} {L M : List (List AVal)} (ho : Old h es x L y M) (hb : But z h h') (hne : ∀ id, foot y = some id → foot z ≠ some id) : Old h' es x L y M :=
 ⟨hb.sl ho.at_ fun id hf => hne id (by rcases ho.ft with e | ⟨e, _⟩ <;> rw [e] at hf; cases hf; exact hf), ho.ft, ho.len⟩
section
variable {h H h0 : za} {es : Nat} {x : AVal} {L R : List (List AVal)}
end
section
variable {h0 h h' : za} {l : List Ob}
theorem Owns.ne (ho : Owns h0 h l) {i j : Nat} {a b : Ob} (hi : l[i]? = some a) (hj : l[j]? = some b) (hij : i ≠ j) : ∀ id, a.foot = some id → b.foot ≠ some id := fun id ha hb => by
 rcases Nat.lt_or_gt_of_ne hij with hlt | hgt
 ·have := List.pairwise_iff_getElem.1 ho.apart i j (List.getElem?_eq_some_iff.1 hi).1 (List.getElem?_eq_some_iff.1 hj).1 hlt
  rw [(List.getElem?_eq_some_iff.1 hi).2, (List.getElem?_eq_some_iff.1 hj).2] at this
  exact this id ha hb
 ·have := List.pairwise_iff_getElem.1 ho.apart j i (List.getElem?_eq_some_iff.1 hj).1 (List.getElem?_eq_some_iff.1 hi).1 hgt
  rw [(List.getElem?_eq_some_iff.1 hj).2, (List.getElem?_eq_some_iff.1 hi).2] at this
  exact this id hb ha
end
def Kp (h : za) (p : AVal) (o : Option Nat) : Prop := match o with | none => ∃ x, A.ldv h p = some x | some n => ∃ x, A.ldnv h p n = some x
theorem keepS_same {h : za} {ls : List (AVal × Option Nat)} {K : AVal → za → Prop} {v : AVal} (hl : ∀ p ∈ ls, Kp h p.1 p.2) (hk : K v h) : B.zso h ls K v h := by
 refine ⟨fun p hp => ?_, hk⟩
 have := hl p hp
 obtain ⟨p, o⟩ := p
 cases o with
 | none => obtain ⟨x, e⟩ := this; exact ⟨x, e, e⟩
 | some n => obtain ⟨x, e⟩ := this; exact ⟨x, e, e⟩
theorem keepS1 {h : za} {p : AVal} {o : Option Nat} {K : AVal → za → Prop} {v : AVal} (h1 : Kp h p o) (hk : K v h) : B.zso h [(p, o)] K v h :=
 keepS_same (fun q hq => by rw [List.mem_singleton.1 hq]; exact h1) hk
def upf {α : Type} (f : Nat → α) (k : Nat) (v : α) : Nat → α := fun j => if j = k then v else f j
def Objs (es n : Nat) (xs : Nat → AVal) (D R : Nat → List (List AVal)) : List Ob := (List.range n).map fun j => Ob.sl es (xs j) (D j) (R j)
section
variable {es n k : Nat} {xs : Nat → AVal} {D R : Nat → List (List AVal)}
@[simp] theorem Objs.length : (Objs es n xs D R).length = n := by simp [Objs]
theorem Objs.get (hk : k < n) : (Objs es n xs D R)[k]? = some (.sl es (xs k) (D k) (R k)) := by simp [Objs, hk]
theorem Objs.congr {ys : Nat → AVal} {E S : Nat → List (List AVal)} (h : ∀ j, j < n → xs j = ys j ∧ D j = E j ∧ R j = S j) : Objs es n xs D R = Objs es n ys E S :=
 List.map_congr_left fun j hj => by obtain ⟨a, b, c⟩ := h j (by simpa using hj); rw [a, b, c]
theorem Objs.getA {l : List Ob} (hk : k < n) : (Objs es n xs D R ++ l)[k]? = some (.sl es (xs k) (D k) (R k)) := by
 rw [List.getElem?_append_left (by simpa using hk)]; exact Objs.get hk
theorem Objs.getL {o : Ob} : (Objs es n xs D R ++ [o])[n]? = some o := by
 rw [List.getElem?_append_right (by simp)]; simp
theorem Objs.setL {o o' : Ob} : (Objs es n xs D R ++ [o]).set n o' = Objs es n xs D R ++ [o'] := by
 rw [List.set_append_right _ _ (by simp)]; simp
end
end Go.Ab
namespace Go.Ab
variable {C : CSem} {N : Nat → Nat}
def mkTo (m : Int → Int → List AVal) (k n : Nat) : List (List AVal) := (List.range n).map fun (i : Nat) => m (k : Int) (i : Int)
section
variable {m : Int → Int → List AVal} {k n i : Nat}
@[simp] theorem mkTo_len : (mkTo m k n).length = n := by simp [mkTo]
@[simp] theorem mkTo_zero : mkTo m k 0 = [] := rfl
end
section
variable {h : za} {x : AVal} {n k : Nat} {xs : Nat → AVal} {W : List (List AVal)} (hx : SlX h 1 x (zg9 n fun j => [xs j]) W)
include hx
theorem ls_ld (hk : k < n) : A.ldv h (elp 1 x k 0) = some (xs k) := by rw [hx.ldv (zgy _ hk) (by omega)]; rfl
end
structure FS (E : zx) (m : Int → Int → List AVal) (h0 h : za) (v5 : AVal) (n : Nat) (xs : Nat → AVal) (len : Nat → Nat) (ys : Nat → AVal) (F : Nat → List (List AVal)) (gs : Nat → AVal) : Prop where
 own : Owns h0 h (Objs E.es n ys F (fun _ => []) ++ [.sl 1 v5 (zg9 n fun j => [gs j]) []])
 old : ∀ j, j < n → Old h E.es (xs j) (mkTo m j (len j)) (ys j) (F j)
section
variable {E : zx} {m : Int → Int → List AVal} {v : Int → Int → AVal} {h0 h h' : za} {x v5 : AVal} {n k : Nat} {xs ys gs : Nat → AVal} {len : Nat → Nat} {F : Nat → List (List AVal)} {W : List (List AVal)} {Q : AVal → za → Prop}
theorem FS.store (fs : FS E m h0 h v5 n xs len ys F gs) (hk : k < n) {y : AVal} (hy : y.zd1 = true) {K : za → Prop} (hK : ∀ h', FS E m h0 h' v5 n xs len ys F (upf gs k y) → K h') : A.st h (elp 1 v5 k 0) y K := by
 refine fs.own.st n Objs.getL (zgy _ hk) (by omega) hy fun h' ho hb => hK h' ⟨?_, fun j hj => ?_⟩
 ·rw [Objs.setL] at ho
  have e : (zg9 n fun j => [gs j]).set k ([gs k].set 0 y) = zg9 n fun j => [upf gs k y j] := by
   rw [zli]
   refine zf2 fun j hj => ?_
   unfold upf
   split <;> rfl
  rwa [e] at ho
 ·exact (fs.old j hj).other hb (fs.own.ne (Objs.getA hj) Objs.getL (by omega))
end
end Go.Ab
namespace Go.Ab
variable {C : CSem} {N : Nat → Nat}
structure Scal (T : Type) [DecidableEq T] where
 c : T → AVal
 cell : ∀ t, (c t).zd1 = true
 eql : ∀ a b, V.bin .eql (c a) (c b) = some (.bool (decide (a = b)))
 neq : ∀ a b, V.bin .neq (c a) (c b) = some (.bool (!decide (a = b)))
theorem SlX.cell {h : za} {x c : AVal} {L R : List (List AVal)} {i : Nat} (hs : SlX h 1 x L R) (hc : L[i]? = some [c]) : A.ldv h (elp 1 x i 0) = some c := by
 rw [hs.ldv hc (by omega)]; rfl
section
variable {T : Type} [DecidableEq T] (F : Scal T)
abbrev Scal.cs (t : T) : List AVal := [F.c t]
end
def za.zk8 (h : za) (l : List Ob) : za := ⟨fun i => bif l.any (fun o => o.foot == some i) then none else h i, by
 obtain ⟨n, k⟩ := h.2
 refine ⟨n, fun i hi => ?_⟩
 show (bif l.any (fun o => o.foot == some i) then none else h i) = none
 cases l.any (fun o => o.foot == some i)
 ·exact k i hi
 ·rfl⟩
theorem zst {h : za} {l : List Ob} {i : Nat} {o : Ob} (hm : o ∈ l) (hf : o.foot = some i) : h.zk8 l i = none := by
 have : (l.any fun o => o.foot == some i) = true := List.any_eq_true.2 ⟨o, hm, by simp [hf]⟩
 show (bif l.any (fun o => o.foot == some i) then none else h i) = none
 rw [this]; rfl
theorem zmz {h : za} {l : List Ob} {i : Nat} (hm : ∀ o ∈ l, o.foot ≠ some i) : h.zk8 l i = h i := by
 have : (l.any fun o => o.foot == some i) = false := by
  rw [← Bool.not_eq_true, List.any_eq_true]
  rintro ⟨o, h1, h2⟩
  exact hm o h1 (by simpa using h2)
 show (bif l.any (fun o => o.foot == some i) then none else h i) = _
 rw [this]; rfl
theorem without_le (h : za) (l : List Ob) : (h.zk8 l).le h := fun i b e => by
 by_cases hm : ∃ o ∈ l, o.foot = some i
 ·obtain ⟨o, h1, h2⟩ := hm
  rw [zst h1 h2] at e; cases e
 ·rw [zmz fun o h1 h2 => hm ⟨o, h1, h2⟩] at e; exact e
theorem Owns.out {h0 h : za} {l1 l2 : List Ob} (ho : Owns h0 h (l1 ++ l2)) : Owns h0 (h.zk8 l2) l1 ∧ Owns (h.zk8 l2) h l2 := by
 obtain ⟨a1, a2, a3⟩ := List.pairwise_append.1 ho.apart
 have h1 : h0.le (h.zk8 l2) := fun i b e => by
  rw [zmz fun o hm hf => by rw [(ho.own o (List.mem_append_right _ hm) i hf).1] at e; cases e]
  exact ho.le i b e
 have keep : ∀ o ∈ l1, ∀ id, o.foot = some id → (h.zk8 l2) id = h id := fun o hm id hf => zmz fun o2 hm2 hf2 => a3 o hm o2 hm2 id hf hf2
 refine ⟨⟨h1, fun o hm => (ho.is o (List.mem_append_left _ hm)).keep fun id b hf hb => by rw [keep o hm id hf]; exact hb, fun o hm id hf => ?_, a1⟩,
  ⟨without_le h l2, fun o hm => ho.is o (List.mem_append_right _ hm), fun o hm id hf => ⟨zst hm hf, (ho.own o (List.mem_append_right _ hm) id hf).2⟩, a2⟩⟩
 obtain ⟨b1, b2⟩ := ho.own o (List.mem_append_left _ hm) id hf
 exact ⟨b1, fun b hb => b2 b (by rw [← keep o hm id hf]; exact hb)⟩
theorem Owns.perm {h0 h : za} {l l' : List Ob} (ho : Owns h0 h l) (hp : l.Perm l') : Owns h0 h l' :=
 ⟨ho.le, fun o hm => ho.is o (hp.mem_iff.2 hm), fun o hm => ho.own o (hp.mem_iff.2 hm), (hp.pairwise_iff fun {a b} hab id hb ha => hab id ha hb).1 ho.apart⟩
end Go.Ab
namespace Go.Ab
structure zbz where
 From : Int
 zel : Int
 deriving DecidableEq
@[simp] def zbz.cs (w : zbz) : List AVal := [.int .i64 w.From, .int .i64 w.zel]
@[simp] theorem zbz.eta (w : zbz) : zbz.mk w.From w.zel = w := rfl
def wF : Flat zbz where
 cs := zbz.cs
 es := 2
 sh := [.i .i64, .i .i64]
 len _ := rfl
 pos := by omega
 eq a b := by
  cases a; cases b
  simp
structure Lot where
 Id : Int
 Item : List UInt8
 From : Int
 zel : Int
 Qty : Int
 Arrived : Bool
 deriving DecidableEq
@[simp] def Lot.cs (l : Lot) : List AVal := [.int .i64 l.Id, .str l.Item, .int .i64 l.From, .int .i64 l.zel, .int .i64 l.Qty, .bool l.Arrived]
def lotF : Flat Lot where
 cs := Lot.cs
 es := 6
 sh := [.i .i64, .s, .i .i64, .i .i64, .i .i64, .b]
 len _ := rfl
 pos := by omega
 eq a b := by
  cases a; cases b
  simp
structure Use where
 Want : Int
 Lot : Int
 Qty : Int
 deriving DecidableEq
@[simp] def Use.cs (u : Use) : List AVal := [.int .i64 u.Want, .int .i64 u.Lot, .int .i64 u.Qty]
def useF : Flat Use where
 cs := Use.cs
 es := 3
 sh := [.i .i64, .i .i64, .i .i64]
 len _ := rfl
 pos := by omega
 eq a b := by
  cases a; cases b
  simp
structure Want where
 Item : List UInt8
 Day : Int
 Qty : Int
 deriving DecidableEq
@[simp] def Want.cs (u : Want) : List AVal := [.str u.Item, .int .i64 u.Day, .int .i64 u.Qty]
def wantF : Flat Want where
 cs := Want.cs
 es := 3
 sh := [.s, .i .i64, .i .i64]
 len _ := rfl
 pos := by omega
 eq a b := by
  cases a; cases b
  simp
structure Part where
 Item : List UInt8
 Qty : Int
 deriving DecidableEq
@[simp] def Part.cs (u : Part) : List AVal := [.str u.Item, .int .i64 u.Qty]
def partF : Flat Part where
 cs := Part.cs
 es := 2
 sh := [.s, .i .i64]
 len _ := rfl
 pos := by omega
 eq a b := by
  cases a; cases b
  simp
theorem u8_eq (a b : UInt8) : decide ((a.toNat : Int) = b.toNat) = decide (a = b) := by
 rw [decide_eq_decide]
 constructor
 ·intro h; exact UInt8.toNat_inj.1 (by omega)
 ·intro h; rw [h]
def bS : Scal UInt8 where
 c b := .int .u8 b.toNat
 cell _ := rfl
 eql a b := by rw [V.zh0, u8_eq]
 neq a b := by rw [V.bin_neq, u8_eq]
abbrev bc : UInt8 → List AVal := bS.cs
theorem wrap_u8 (n : Int) : IntKind.u8.wrap n = n % 256 := by
 simp [IntKind.wrap, IntKind.bits, IntKind.signed]
def byt (m : Int) : UInt8 := UInt8.ofNat (m % 256).toNat
theorem bin_shr {k j : IntKind} {a b : Int} (h0 : 0 ≤ b) (h1 : b < k.bits) : V.bin .shr (.int k a) (.int j b) = some (.int k (a.fdiv (2 ^ b.toNat))) := by
 simp only [V.bin, V.shift]
 rw [if_neg (by omega), Nat.min_eq_left (by omega)]
theorem wrap_u64 (n : Int) : IntKind.u64.wrap n = n % 18446744073709551616 := by
 simp [IntKind.wrap, IntKind.bits, IntKind.signed]
structure zi7 where
 Err : Int
 Id : Int
 Day : Int
 Code : List UInt8
 State : UInt8
 Lots : List Lot
 Uses : List Use
 deriving DecidableEq
@[simp] def zi7.cs (t : zi7) (x y : AVal) : List AVal := [.int .i64 t.Err, .int .i64 t.Id, .int .i64 t.Day, .str t.Code, .int .u8 (t.State.toNat : Int), x, y]
structure TellAt (h : za) (t : zi7) (x y : AVal) : Prop where
 lots : ∃ R, SlX h 6 x (t.Lots.map Lot.cs) R
 uses : ∃ R, SlX h 3 y (t.Uses.map Use.cs) R
end Go.Ab
namespace Go.Ab
abbrev tyWindow : Ty := .st [.i .i64, .i .i64]
abbrev tyLot : Ty := .st [.i .i64, .s, tyWindow, .i .i64, .b]
abbrev tyWant : Ty := .st [.s, .i .i64, .i .i64]
abbrev tyPart : Ty := .st [.s, .i .i64]
theorem arg_sliceP {T : Type} {H : za} {bytes es : Nat} {e : Ty} {v : AVal} (cs : T → List AVal) (P : T → Prop) (hd : ∀ p, zia H e p → ∃ t, p = cs t ∧ P t) (h : zia H (.sl bytes es e) [v]) :
  ∃ L : List T, SlIs H es v (L.map cs) ∧ L.length * bytes ≤ reach ∧ ∀ t ∈ L, P t := by
 obtain ⟨L, h1, h2⟩ := zsd (T := { t : T // P t }) (fun t => cs t.1) (fun p hp => by obtain ⟨t, e, k⟩ := hd p hp; exact ⟨⟨t, k⟩, e⟩) h
 refine ⟨L.map (·.1), ?_, by simpa using h2, fun t ht => ?_⟩
 ·rw [List.map_map]; exact h1
 ·obtain ⟨u, _, rfl⟩ := List.mem_map.1 ht; exact u.2
theorem dWindow {H : za} {p : List AVal} (h : zia H tyWindow p) : ∃ w : zbz, p = w.cs := by
 obtain ⟨a, r, rfl, ⟨n, rfl, _⟩, ⟨b, r2, rfl, ⟨m, rfl, _⟩, hr⟩⟩ := h
 cases hr
 exact ⟨⟨n, m⟩, rfl⟩
theorem dLotL {H : za} {p : List AVal} (h : zia H tyLot p) : ∃ w : Lot, p = w.cs ∧ w.Item.length < 4611686018427387904 := by
 obtain ⟨a, r, rfl, ⟨n1, rfl, _⟩, ⟨b, r2, rfl, ⟨n2, rfl, k⟩, ⟨c, r3, rfl, hw, ⟨d, r4, rfl, ⟨n4, rfl, _⟩, ⟨e, r5, rfl, ⟨n5, rfl⟩, hr⟩⟩⟩⟩⟩ := h
 cases hr
 obtain ⟨w, rfl⟩ := dWindow hw
 exact ⟨⟨n1, n2, w.From, w.zel, n4, n5⟩, rfl, by unfold reach at k; show n2.length < _; omega⟩
theorem dLots {H : za} {v : AVal} (h : zia H (.sl 56 6 tyLot) [v]) : ∃ L : List Lot, SlIs H 6 v (L.map Lot.cs) ∧ L.length < 4611686018427387904 ∧ ∀ l ∈ L, l.Item.length < 4611686018427387904 := by
 obtain ⟨L, h1, h2, h3⟩ := arg_sliceP Lot.cs (fun l => l.Item.length < 4611686018427387904) (fun p hp => dLotL hp) h
 exact ⟨L, h1, by unfold reach at h2; omega, h3⟩
theorem dWant {H : za} {p : List AVal} (h : zia H tyWant p) : ∃ w : Want, p = w.cs := by
 obtain ⟨a, r, rfl, ⟨n1, rfl, _⟩, ⟨b, r2, rfl, ⟨n2, rfl, _⟩, ⟨c, r3, rfl, ⟨n3, rfl, _⟩, hr⟩⟩⟩ := h
 cases hr
 exact ⟨⟨n1, n2, n3⟩, rfl⟩
theorem dPart {H : za} {p : List AVal} (h : zia H tyPart p) : ∃ w : Part, p = w.cs := by
 obtain ⟨a, r, rfl, ⟨n1, rfl, _⟩, ⟨b, r2, rfl, ⟨n2, rfl, _⟩, hr⟩⟩ := h
 cases hr
 exact ⟨⟨n1, n2⟩, rfl⟩
end Go.Ab
namespace Go.Ab
def cA : Code → Code
 | .seq a _ => a
 | .cond _ a _ => a
 | .block _ b => b
 | .loop b => b
 | .scope b => b
 | _ => .skip
def cB : Code → Code
 | .seq _ b => b
 | .cond _ _ b => b
 | _ => .skip
def cI : Code → Nat
 | .block i _ => i
 | _ => 0
def isS : Code → Bool
 | .seq _ _ => true
 | _ => false
def isC (t : Nat) : Code → Bool
 | .cond (.tmp k) _ _ => Nat.beq k t
 | _ => false
def isK : Code → Bool
 | .block _ _ => true
 | _ => false
def rA : Code → Code
 | .rangeFunc _ _ a b => .seq a b
 | _ => .skip
def isR (t : Nat) (ps keep : List Nat) : Code → Bool
 | .rangeFunc (.tmp k) qs a b => Nat.beq k t && (zp3 qs.toList ps && (zkh a && keep.all fun k => memB (cutL qs.toList a b) k && !memB ps k))
 | _ => false
def isL : Code → Bool
 | .loop _ => true
 | _ => false
section
variable {P : Program} {C : CSem} {I : Bx}
theorem eS (hC : zdb C) {c : Code} {Q : Ex → z0 → za → Prop} {s : z0} {h : za} (X : z0 → za → Prop) (ha : bwp P C I (cA c) (Ex.then X Q) s h) (hb : ∀ s h, X s h → bwp P C I (cB c) Q s h) (hk : isS c = true := by kernel_rfl) : bwp P C I c Q s h := by
 cases c <;> first | exact seqB hC rfl hb ha | cases hk
theorem eC {c : Code} {Q : Ex → z0 → za → Prop} {p q : Prop} {s : z0} {h : za} (t : Nat) (hr : A.cond (s t) p q) (hx : p → bwp P C I (cA c) Q s h) (hy : q → bwp P C I (cB c) Q s h) (hk : isC t c = true := by kernel_rfl) : bwp P C I c Q s h := by
 cases c with
 | cond o x y =>
  cases o with
  | tmp k =>
   have e : k = t := Nat.eq_of_beq_eq_true hk
   subst e
   exact condB rfl hx hy hr
  | _ => cases hk
 | _ => cases hk
theorem eK {c : Code} {Q : Ex → z0 → za → Prop} {s : z0} {h : za} (hb : bwp P C I (cA c) (Ex.inBlock (cI c) Q) s h) (hk : isK c = true := by kernel_rfl) : bwp P C I c Q s h := by
 cases c <;> first | exact hb | cases hk
theorem eL (hC : zdb C) {c : Code} {Q : Ex → z0 → za → Prop} {s : z0} {h : za} (keep live : List Nat) (G : List AVal → List AVal → za → (List AVal → za → Prop) → Prop)
  (hr : zm (G (keep.map s)) (live.map s) h)
  (hG : ∀ (Y : List AVal → za → Prop) (s : z0) (h : za), G (keep.map s) (live.map s) h Y → bwp P C I (cA c) (Ex.then (fun s h => Y (live.map s) h) Q) s h)
  (hk : isL c = true := by kernel_rfl) (hw : (keep.all fun k => !memB (zhf P I (cA c)) k) = true := by kernel_rfl) : bwp P C I c Q s h := by
 cases c <;> first | exact loopB hC keep live rfl hw hG hr | cases hk
theorem rk_nil {Q : Ex → z0 → za → Prop} {s : z0} : ∀ j h, RK [] j h → Q (unj j) s h := fun _ _ x => x.elim
theorem zrb {Q : Ex → z0 → za → Prop} {s : z0} {k : Nat} {p : za → Prop} {r : List (Nat × (za → Prop))} (h1 : ∀ h, p h → Q (unj k) s h) (h2 : ∀ j h, RK r j h → Q (unj j) s h) : ∀ j h, RK ((k, p) :: r) j h → Q (unj j) s h := by
 rintro j h (⟨rfl, x⟩ | x)
 ·exact h1 h x
 ·exact h2 j h x
theorem e0 {q p : Prop} (hR : p) (e : q = p := by kernel_rfl) : q := e.mpr hR
theorem natsEq_eq : ∀ {a b : List Nat}, zp3 a b = true → a = b
 | [], [], _ => rfl
 | x :: a, y :: b, h => by
  simp only [zp3, Bool.and_eq_true] at h
  rw [Nat.eq_of_beq_eq_true h.1, natsEq_eq h.2]
theorem isR_spec {t : Nat} {ps keep : List Nat} {c : Code} (h : isR t ps keep c = true) : ∃ qs a b, c = .rangeFunc (.tmp t) qs a b ∧ qs.toList = ps ∧ zkh a = true ∧ ∀ k ∈ keep, memB (cutL ps a b) k = true ∧ memB ps k = false := by
 cases c <;> (try cases h)
 rename_i g qs a b
 cases g <;> (try cases h)
 rename_i k
 simp only [isR, Bool.and_eq_true, List.all_eq_true, Bool.not_eq_true'] at h
 obtain ⟨h1, h2, h3, h4⟩ := h
 have e1 := Nat.eq_of_beq_eq_true h1
 have e2 := natsEq_eq h2
 subst e1 e2
 exact ⟨qs, a, b, rfl, rfl, h3, h4⟩
theorem mem_memB : ∀ {l : List Nat} {k : Nat}, k ∈ l → memB l k = true
 | x :: r, k, h => by
  simp only [memB]
  rcases List.mem_cons.1 h with rfl | h
  ·rw [Nat.beq_refl]; rfl
  ·rw [mem_memB h]; cases Nat.beq x k <;> rfl
theorem keep_setPs {ps keep : List Nat} {a b : Code} {s : z0} (xs : List AVal) (hk : ∀ k ∈ keep, memB (cutL ps a b) k = true ∧ memB ps k = false) : keep.map (zky ps xs (cutS (cutL ps a b) s)) = keep.map s := by
 refine List.map_congr_left fun k hk' => ?_
 obtain ⟨h1, h2⟩ := hk k hk'
 rw [zm3 fun p hp e => by subst e; rw [mem_memB hp] at h2; cases h2]
 simp only [cutS, h1, cond_true]
theorem eR2 (hC : zdb C) {c : Code} {Q : Ex → z0 → za → Prop} {s : z0} {h : za} (t p q : Nat) (keep : List Nat) (G : List AVal → AVal → AVal → za → (Nat → za → Prop) → Prop) {K : Nat → za → Prop}
  (hr : zow C (s t) (W2 (G (keep.map s))) h K) (hK : ∀ j h, K j h → Q (unj j) s h)
  (hW : ∀ (E : Nat → za → Prop) (s : z0) (h : za), G (keep.map s) (s p) (s q) h E → bwp P C I (rA c) (fun e _ h2 => E (jn e) h2) s h)
  (hk : (isR t [p, q] keep c && !Nat.beq p q) = true := by kernel_rfl) : bwp P C I c Q s h := by
 rw [Bool.and_eq_true, Bool.not_eq_true'] at hk
 obtain ⟨qs, a, b, rfl, hq, h1, h2⟩ := isR_spec hk.1
 refine rangeB hC rfl h1 hr hK fun xs h E w => ?_
 match xs, w with
 | [x, y], w =>
  refine ⟨by rw [← Array.length_toList, hq]; rfl, ?_⟩
  rw [hq]
  refine hW E _ h ?_
  rw [keep_setPs [x, y] h2]
  have e1 : zky [p, q] [x, y] (cutS (cutL [p, q] a b) s) p = x := by simp only [zky, putS, Nat.beq_refl, hk.2, cond_true, cond_false]
  have e2 : zky [p, q] [x, y] (cutS (cutL [p, q] a b) s) q = y := by simp only [zky, putS, Nat.beq_refl, cond_true]
  rw [e1, e2]; exact w
theorem e1 {c : Code} {Q : Ex → z0 → za → Prop} {s : z0} {h : za} {p : Prop} (hR : p) (e : bwp P C I c Q s h = p := by kernel_rfl) : bwp P C I c Q s h := e.mpr hR
theorem eF (hm : P.follows .mixedOrders = true) {f : FuncId} {fn : Func} {c : Code} {I : Bx} {args : List AVal} {h : za} {Q : AVal → za → Prop}
  (hx : zdb (AC P) → bwp P (AC P) I c (retB P I fn.results.toList (dn Q)) (zca args) h) (hf : P.funcs[f]? = some fn := by kernel_rfl) (hb : fn.body = some c := by kernel_rfl) (h1 : (fn.name == "runtime.NumGoroutine") = false := by kernel_rfl)
  (hc : zil fn.ntmps c = true := by kernel_rfl) (hne : Nat.beq f zmh = false := by kernel_rfl) (hl : Nat.ble args.length fn.ntmps = true := by kernel_rfl) (hB : Nat.ble args.length I.B = true := by kernel_rfl) (hk : chkC P I c = true := by kernel_rfl) : AC P f args h Q :=
 AC_drop (AC_introB hm hf hb (zmv hf (by rw [hb]; rfl) h1) hc hne (Nat.le_of_ble_eq_true hl) (Nat.le_of_ble_eq_true hB) hk (hx (AC_cmono P)))
end
end Go.Ab
namespace Go.Ab
@[simp] def zdt.k1 (C : CSem) (N : Nat → Nat) (Q : AVal → za → Prop) (v0 : AVal) (h : za) : Prop :=
 B.pv (V.bin .geq v0 (.int .i64 0)) fun v4 =>
  B.gd h v4 true (fun K => K v0 h) fun v6 h =>
  B.gd h v4 true (fun K => B.pv (V.bin .leq v6 (.int .i64 1125899906842624)) fun v => K v h) fun v7 h =>
  B.pick v4 v7 (.bool false) fun v8 =>
  Q v8 h
@[simp] def zdt.cps (C : CSem) (N : Nat → Nat) (v0 : AVal) (h : za) (Q : AVal → za → Prop) : Prop :=
 zdt.k1 C N Q v0 h
def zdt.Imp (C : CSem) (N : Nat → Nat) : Prop := ∀ (v0 : AVal) (h : za) (Q : AVal → za → Prop), zdt.cps C N v0 h (dn Q) → C (N 247) [v0] h Q
end Go.Ab
namespace Go.Ab
@[simp] def zcy.k1 (C : CSem) (N : Nat → Nat) (Q : AVal → za → Prop) (v0 v1 : AVal) (h : za) : Prop :=
 B.call C (N 171) [v0] h fun v8 h =>
  B.call C (N 171) [v1] h fun v10 h =>
  B.cond v8
  (B.cond v10
  (Q (.int .i64 0) h)
  (Q (.int .i64 (-1)) h))
  (B.cond v10
  (Q (.int .i64 1) h)
  (B.pv (V.bin .lss v0 v1) fun v16 =>
  B.cond v16
  (Q (.int .i64 (-1)) h)
  (B.pv (V.bin .gtr v0 v1) fun v19 =>
  B.cond v19
  (Q (.int .i64 1) h)
  (Q (.int .i64 0) h))))
@[simp] def zcy.cps (C : CSem) (N : Nat → Nat) (v0 v1 : AVal) (h : za) (Q : AVal → za → Prop) : Prop :=
 zcy.k1 C N Q v0 v1 h
def zcy.Imp (C : CSem) (N : Nat → Nat) : Prop := ∀ (v0 v1 : AVal) (h : za) (Q : AVal → za → Prop), zcy.cps C N v0 v1 h (dn Q) → C (N 157) [v0, v1] h Q
@[simp] def zdr.k1 (C : CSem) (N : Nat → Nat) (Q : AVal → za → Prop) (Y1 : List AVal → za → Prop) (v3 v6 v7 v8 : AVal) (h : za) : Prop :=
 B.pv (V.bin .lss v8 v7) fun v9 =>
  B.cond v9
  (B.pv (V.idxS 1 v6 v8) fun v10 =>
  B.ld h v10 fun v11 =>
  B.pv (V.bin .neq v11 v3) fun v14 =>
  B.cond v14
  (Q v11 h)
  (B.pv (V.bin .add v8 (.int .i64 1)) fun v16 =>
  Y1 [v16] h))
  (Q v3 h)
@[simp] def zdr.l2 (C : CSem) (N : Nat → Nat) (Q : AVal → za → Prop) (v3 v6 v7 : AVal) : List AVal → za → (List AVal → za → Prop) → Prop
 | [v8], h, Y1 => zdr.k1 C N Q Y1 v3 v6 v7 v8 h
 | _, _, _ => False
@[simp] def zdr.cps (C : CSem) (N : Nat → Nat) (v0 : AVal) (h : za) (Q : AVal → za → Prop) : Prop :=
 B.pv (V.zcj v0) fun v7 =>
  zm (zdr.l2 C N Q (.int .i64 0) v0 v7) [(.int .i64 0)] h
def zdr.Imp (C : CSem) (N : Nat → Nat) : Prop := ∀ (v0 : AVal) (h : za) (Q : AVal → za → Prop), zdr.cps C N v0 h (dn Q) → C (N 158) [v0] h Q
@[simp] def zdj.cps (C : CSem) (N : Nat → Nat) (v0 : AVal) (h : za) (Q : AVal → za → Prop) : Prop :=
 B.pv (V.bin .neq v0 v0) fun v5 =>
  Q v5 h
def zdj.Imp (C : CSem) (N : Nat → Nat) : Prop := ∀ (v0 : AVal) (h : za) (Q : AVal → za → Prop), zdj.cps C N v0 h (dn Q) → C (N 171) [v0] h Q
@[simp] def zds.k1 (C : CSem) (N : Nat → Nat) (Q : AVal → za → Prop) (v0 v1 : AVal) (h : za) : Prop :=
 B.call C (N 171) [v0] h fun v6 h =>
  B.gd h v6 true (fun K => K v1 h) fun v8 h =>
  B.gd h v6 true (fun K => B.call C (N 171) [v8] h K) fun v9 h =>
  B.gd h v6 true (fun K => B.pv (V.un .not v9) fun v => K v h) fun v10 h =>
  B.pick v6 v10 (.bool false) fun v11 =>
  B.gd h v11 false (fun K => K v0 h) fun v13 h =>
  B.gd h v11 false (fun K => K v1 h) fun v14 h =>
  B.gd h v11 false (fun K => B.pv (V.bin .lss v13 v14) fun v => K v h) fun v15 h =>
  B.pick v11 (.bool true) v15 fun v16 =>
  Q v16 h
@[simp] def zds.cps (C : CSem) (N : Nat → Nat) (v0 v1 : AVal) (h : za) (Q : AVal → za → Prop) : Prop :=
 zds.k1 C N Q v0 v1 h
def zds.Imp (C : CSem) (N : Nat → Nat) : Prop := ∀ (v0 v1 : AVal) (h : za) (Q : AVal → za → Prop), zds.cps C N v0 v1 h (dn Q) → C (N 340) [v0, v1] h Q
end Go.Ab
namespace Go.Ab
@[simp] def zc4.k1 (C : CSem) (N : Nat → Nat) (Q : AVal → za → Prop) (v0 : AVal) (h : za) : Prop :=
 B.pv (V.bin .neq v0 (.str [])) fun v34 =>
  B.gd h v34 true (fun K => K v0 h) fun v36 h =>
  B.gd h v34 true (fun K => B.pv (V.zoc v36) fun v => K v h) fun v37 h =>
  B.gd h v34 true (fun K => B.pv (V.bin .leq v37 (.int .i64 12)) fun v => K v h) fun v38 h =>
  B.pick v34 v38 (.bool false) fun v39 =>
  Q v39 h
@[simp] def zc4.k2 (C : CSem) (N : Nat → Nat) (Q : AVal → za → Prop) (Y1 : List AVal → za → Prop) (v0 v6 : AVal) (h : za) : Prop :=
 B.zft h v6 fun v7 h =>
  B.pv (V.ext 0 v7) fun v8 =>
  B.cond v8
  (B.pv (V.ext 1 v7) fun v9 =>
  B.pv (V.ext 2 v7) fun v10 =>
  B.pv (V.bin .geq v10 (.int .i32 65)) fun v13 =>
  B.gd h v13 true (fun K => K v10 h) fun v15 h =>
  B.gd h v13 true (fun K => B.pv (V.bin .leq v15 (.int .i32 90)) fun v => K v h) fun v16 h =>
  B.pick v13 v16 (.bool false) fun v17 =>
  B.cond v17
  (Y1 [] h)
  (B.pv (V.bin .gtr v9 (.int .i64 0)) fun v20 =>
  B.gd h v20 true (fun K => K v10 h) fun v22 h =>
  B.gd h v20 true (fun K => B.pv (V.bin .geq v22 (.int .i32 48)) fun v => K v h) fun v23 h =>
  B.gd h v20 true (fun K => K v23 h) fun v24 h =>
  B.gd h v24 true (fun K => K v10 h) fun v25 h =>
  B.gd h v24 true (fun K => B.pv (V.bin .leq v25 (.int .i32 57)) fun v => K v h) fun v26 h =>
  B.gd h v20 true (fun K => B.pick v24 v26 (.bool false) fun v => K v h) fun v27 h =>
  B.gd h v20 true (fun K => K v27 h) fun v28 h =>
  B.gd h v28 false (fun K => K v10 h) fun v29 h =>
  B.gd h v28 false (fun K => B.pv (V.bin .eql v29 (.int .i32 45)) fun v => K v h) fun v30 h =>
  B.gd h v20 true (fun K => B.pick v28 (.bool true) v30 fun v => K v h) fun v31 h =>
  B.pick v20 v31 (.bool false) fun v32 =>
  B.cond v32
  (Y1 [] h)
  (Q (.bool false) h)))
  (zc4.k1 C N Q v0 h)
@[simp] def zc4.l3 (C : CSem) (N : Nat → Nat) (Q : AVal → za → Prop) (v0 v6 : AVal) : List AVal → za → (List AVal → za → Prop) → Prop
 | [], h, Y1 => zc4.k2 C N Q Y1 v0 v6 h
 | _, _, _ => False
@[simp] def zc4.cps (C : CSem) (N : Nat → Nat) (v0 : AVal) (h : za) (Q : AVal → za → Prop) : Prop :=
 B.zg0 h v0 fun v6 h =>
  zm (zc4.l3 C N Q v0 v6) [] h
def zc4.Imp (C : CSem) (N : Nat → Nat) : Prop := ∀ (v0 : AVal) (h : za) (Q : AVal → za → Prop), zc4.cps C N v0 h (dn Q) → C (N 53) [v0] h Q
end Go.Ab
namespace Go.Ab
@[simp] def ze0.cps (C : CSem) (N : Nat → Nat) (v0 v1 : AVal) (h : za) (Q : AVal → za → Prop) : Prop :=
 B.call C (N 232) [v0, v1] h fun v11 h =>
  B.pv (V.ext 0 v11) fun v12 =>
  B.pv (V.ext 1 v11) fun v13 =>
  B.pv (V.ext 2 v11) fun v14 =>
  Q v14 h
def ze0.Imp (C : CSem) (N : Nat → Nat) : Prop := ∀ (v0 v1 : AVal) (h : za) (Q : AVal → za → Prop), ze0.cps C N v0 v1 h (dn Q) → C (N 215) [v0, v1] h Q
@[simp] def flow_Left.k1 (C : CSem) (N : Nat → Nat) (Q : AVal → za → Prop) (Y1 : List AVal → za → Prop) (v7 v9 v21 v22 v23 : AVal) (h : za) : Prop :=
 B.pv (V.bin .lss v23 v22) fun v24 =>
  B.cond v24
  (B.pv (V.idxS 6 v21 v23) fun v25 =>
  B.ldn h v25 6 fun v26 =>
  B.pv (V.setN 0 6 v26 (.agg [.int .i64 0, .str [], .int .i64 0, .int .i64 0, .int .i64 0, .bool false])) fun c11 =>
  B.al c11 (B.pv (V.zbu 0 c11) fun v29 =>
  B.pv (A.lkp h (some .i) (some (.int .i64 0)) false v7 v29) fun v30 =>
  B.al c11 (B.pv (V.setF 4 v30 c11) fun c11 =>
  B.al c11 (B.pv (V.zbu 4 c11) fun v33 =>
  B.pv (V.bin .gtr v33 (.int .i64 0)) fun v34 =>
  B.cond v34
  (B.pv (V.zen 0 6 c11) fun v36 =>
  B.newO h (zfu [(0, some 6, v36)] (repL 1 [.int .i64 0, .str [], .int .i64 0, .int .i64 0, .int .i64 0, .bool false])) fun i37 h =>
  B.appW h 6 56 v9 (.sl i37 0 0 1 6 1) fun v38 h =>
  B.pv (V.bin .add v23 (.int .i64 1)) fun v39 =>
  Y1 [v38, v39] h)
  (B.pv (V.bin .add v23 (.int .i64 1)) fun v39 =>
  Y1 [v9, v39] h)))))
  (Q (.tup [v9, (.bool true)]) h)
@[simp] def flow_Left.l2 (C : CSem) (N : Nat → Nat) (Q : AVal → za → Prop) (v7 v21 v22 : AVal) : List AVal → za → (List AVal → za → Prop) → Prop
 | [v9, v23], h, Y1 => flow_Left.k1 C N Q Y1 v7 v9 v21 v22 v23 h
 | _, _, _ => False
@[simp] def zte.k1 (C : CSem) (N : Nat → Nat) (Q : AVal → za → Prop) (Y1 : List AVal → za → Prop) (v7 v10 v34 v35 v36 : AVal) (h : za) : Prop :=
 B.pv (V.bin .lss v36 v35) fun v37 =>
  B.cond v37
  (B.pv (V.idxS 3 v34 v36) fun v38 =>
  B.ldn h v38 3 fun v39 =>
  B.pv (V.setN 0 3 v39 (.agg [.int .i64 0, .int .i64 0, .int .i64 0])) fun c12 =>
  B.al c12 (B.pv (V.zbu 1 c12) fun v43 =>
  B.pv (A.lkp h (some .i) (some (.agg [.int .i64 0, .str [], .int .i64 0, .int .i64 0, .int .i64 0, .bool false])) true v7 v43) fun v44 =>
  B.pv (V.ext 0 v44) fun v45 =>
  B.pv (V.ext 1 v44) fun v46 =>
  B.pv (V.setN 0 6 v45 (.agg [.int .i64 0, .str [], .int .i64 0, .int .i64 0, .int .i64 0, .bool false])) fun c13 =>
  B.pv (V.un .not v46) fun v48 =>
  B.al c12 (B.gd h v48 false (fun K => K .undef h) fun _ h =>
  B.gd h v48 false (fun K => B.pv (V.zbu 0 c12) fun v => K v h) fun v51 h =>
  B.gd h v48 false (fun K => B.pv (V.bin .lss v51 (.int .i64 0)) fun v => K v h) fun v52 h =>
  B.pick v48 (.bool true) v52 fun v53 =>
  B.al c12 (B.gd h v53 false (fun K => K .undef h) fun _ h =>
  B.gd h v53 false (fun K => B.pv (V.zbu 0 c12) fun v => K v h) fun v56 h =>
  B.gd h v53 false (fun K => K v10 h) fun v57 h =>
  B.gd h v53 false (fun K => B.pv (V.zcj v57) fun v => K v h) fun v58 h =>
  B.gd h v53 false (fun K => B.pv (V.bin .geq v56 v58) fun v => K v h) fun v59 h =>
  B.pick v53 (.bool true) v59 fun v60 =>
  B.al c12 (B.gd h v60 false (fun K => K .undef h) fun _ h =>
  B.gd h v60 false (fun K => B.pv (V.zbu 2 c12) fun v => K v h) fun v63 h =>
  B.gd h v60 false (fun K => B.pv (V.bin .lss v63 (.int .i64 1)) fun v => K v h) fun v64 h =>
  B.pick v60 (.bool true) v64 fun v65 =>
  B.al c12 (B.gd h v65 false (fun K => K .undef h) fun _ h =>
  B.gd h v65 false (fun K => B.pv (V.zbu 2 c12) fun v => K v h) fun v68 h =>
  B.al c13 (B.gd h v65 false (fun K => K .undef h) fun _ h =>
  B.gd h v65 false (fun K => B.pv (V.zbu 4 c13) fun v => K v h) fun v70 h =>
  B.gd h v65 false (fun K => B.pv (V.bin .gtr v68 v70) fun v => K v h) fun v71 h =>
  B.pick v65 (.bool true) v71 fun v72 =>
  B.cond v72
  (Q (.bool false) h)
  (B.al c12 (B.pv (V.zbu 0 c12) fun v75 =>
  B.pv (V.idxS 3 v10 v75) fun v76 =>
  B.al c12 (B.pv (V.zbu 2 c12) fun v78 =>
  B.nilCheck v76 fun v80 =>
  B.pv (V.fieldAddr 2 v80) fun v81 =>
  B.ld h v81 fun v82 =>
  B.pv (V.bin .gtr v78 v82) fun v83 =>
  B.al c13 (B.gd h v83 false (fun K => K .undef h) fun _ h =>
  B.gd h v83 false (fun K => B.pv (V.zbu 1 c13) fun v => K v h) fun v86 h =>
  B.gd h v83 false (fun K => K v76 h) fun v87 h =>
  B.gd h v83 false (fun K => B.nilCheck v87 fun v => K v h) fun v88 h =>
  B.gd h v83 false (fun K => B.pv (V.fieldAddr 0 v88) fun v => K v h) fun v89 h =>
  B.gd h v83 false (fun K => B.ld h v89 fun v => K v h) fun v90 h =>
  B.gd h v83 false (fun K => B.pv (V.bin .neq v86 v90) fun v => K v h) fun v91 h =>
  B.pick v83 (.bool true) v91 fun v92 =>
  B.al c13 (B.gd h v92 false (fun K => K .undef h) fun _ h =>
  B.gd h v92 false (fun K => B.pv (V.zen 2 2 c13) fun v => K v h) fun v95 h =>
  B.gd h v92 false (fun K => K v76 h) fun v96 h =>
  B.gd h v92 false (fun K => B.nilCheck v96 fun v => K v h) fun v97 h =>
  B.gd h v92 false (fun K => B.pv (V.fieldAddr 1 v97) fun v => K v h) fun v98 h =>
  B.gd h v92 false (fun K => B.ld h v98 fun v => K v h) fun v99 h =>
  B.gd h v92 false (fun K => B.call C (N 7) [v95, v99] h K) fun v100 h =>
  B.gd h v92 false (fun K => B.pv (V.un .not v100) fun v => K v h) fun v101 h =>
  B.pick v92 (.bool true) v101 fun v102 =>
  B.cond v102
  (Q (.bool false) h)
  (B.al c13 (B.pv (V.zbu 4 c13) fun v104 =>
  B.al c12 (B.pv (V.zbu 2 c12) fun v106 =>
  B.pv (V.bin .sub v104 v106) fun v107 =>
  B.al c13 (B.pv (V.setF 4 v107 c13) fun c13 =>
  B.al c12 (B.pv (V.zbu 1 c12) fun v111 =>
  B.pv (V.zen 0 6 c13) fun v112 =>
  B.mset h .i v7 v111 v112 fun h =>
  B.nilCheck v76 fun v114 =>
  B.pv (V.fieldAddr 2 v114) fun v115 =>
  B.ld h v115 fun v116 =>
  B.al c12 (B.pv (V.zbu 2 c12) fun v118 =>
  B.pv (V.bin .sub v116 v118) fun v119 =>
  B.nilCheck v76 fun v120 =>
  B.pv (V.fieldAddr 2 v120) fun v121 =>
  B.st h v121 v119 fun h =>
  B.pv (V.bin .add v36 (.int .i64 1)) fun v122 =>
  Y1 [v122] h))))))))))))))))))
  (B.call C (N 237) [v10, (.fn (N 236) [] [])] h fun v124 h =>
  B.pv (V.un .not v124) fun v125 =>
  Q v125 h)
@[simp] def zte.l2 (C : CSem) (N : Nat → Nat) (Q : AVal → za → Prop) (v7 v10 v34 v35 : AVal) : List AVal → za → (List AVal → za → Prop) → Prop
 | [v36], h, Y1 => zte.k1 C N Q Y1 v7 v10 v34 v35 v36 h
 | _, _, _ => False
@[simp] def zbb.k1 (C : CSem) (N : Nat → Nat) (Q : AVal → za → Prop) (Y1 : List AVal → za → Prop) (v1 v7 v8 v11 v15 v49 v50 v51 : AVal) (h : za) : Prop :=
 B.pv (V.bin .gtr v15 (.int .i64 0)) fun v105 =>
  B.cond v105
  (Q (.tup [.nils, .nilm, (.bool false)]) h)
  (B.pv (V.bin .add v51 (.int .i64 1)) fun v106 =>
  Y1 [v11, v106] h)
@[simp] def zbb.k2 (C : CSem) (N : Nat → Nat) (Q : AVal → za → Prop) (Y1 : List AVal → za → Prop) (Y2 : List AVal → za → Prop) (v1 v7 v8 v11 v13 v15 v49 v50 v51 v64 v65 v66 c14 : AVal) (h : za) : Prop :=
 B.pv (V.bin .lss v66 v65) fun v67 =>
  B.cond v67
  (B.pv (V.idxS 6 v64 v66) fun v68 =>
  B.ldn h v68 6 fun v69 =>
  B.pv (V.setN 0 6 v69 (.agg [.int .i64 0, .str [], .int .i64 0, .int .i64 0, .int .i64 0, .bool false])) fun c17 =>
  B.al c17 (B.pv (V.zbu 0 c17) fun v73 =>
  B.pv (A.lkp h (some .i) (some (.int .i64 0)) false v7 v73) fun v74 =>
  B.pv (V.min2 v15 v74) fun v75 =>
  B.pv (V.bin .eql v75 (.int .i64 0)) fun v77 =>
  B.al c17 (B.gd h v77 false (fun K => K .undef h) fun _ h =>
  B.gd h v77 false (fun K => B.pv (V.zen 2 2 c17) fun v => K v h) fun v80 h =>
  B.al c14 (B.gd h v77 false (fun K => K .undef h) fun _ h =>
  B.gd h v77 false (fun K => B.pv (V.zbu 1 c14) fun v => K v h) fun v82 h =>
  B.gd h v77 false (fun K => B.call C (N 7) [v80, v82] h K) fun v83 h =>
  B.gd h v77 false (fun K => B.pv (V.un .not v83) fun v => K v h) fun v84 h =>
  B.pick v77 (.bool true) v84 fun v85 =>
  B.cond v85
  (B.pv (V.bin .add v66 (.int .i64 1)) fun v103 =>
  Y2 [v11, v15, v103] h)
  (B.al c17 (B.pv (V.zbu 0 c17) fun v88 =>
  B.pv (A.lkp h (some .i) (some (.int .i64 0)) false v7 v88) fun v89 =>
  B.pv (V.bin .sub v89 v75) fun v91 =>
  B.mset h .i v7 v88 v91 fun h =>
  B.pv (V.bin .sub v15 v75) fun v94 =>
  B.al c17 (B.pv (V.zbu 0 c17) fun v98 =>
  B.pv (A.bld [(0, none, v13), (1, none, v98), (2, none, v75)] [.int .i64 0, .int .i64 0, .int .i64 0]) fun v100 =>
  B.newO h (zfu [(0, some 3, v100)] (repL 1 [.int .i64 0, .int .i64 0, .int .i64 0])) fun i101 h =>
  B.appW h 3 24 v11 (.sl i101 0 0 1 3 1) fun v102 h =>
  B.pv (V.bin .add v66 (.int .i64 1)) fun v103 =>
  Y2 [v102, v94, v103] h)))))))
  (zbb.k1 C N Q Y1 v1 v7 v8 v11 v15 v49 v50 v51 h)
@[simp] def zbb.l3 (C : CSem) (N : Nat → Nat) (Q : AVal → za → Prop) (Y1 : List AVal → za → Prop) (v1 v7 v8 v13 v49 v50 v51 v64 v65 c14 : AVal) : List AVal → za → (List AVal → za → Prop) → Prop
 | [v11, v15, v66], h, Y2 => zbb.k2 C N Q Y1 Y2 v1 v7 v8 v11 v13 v15 v49 v50 v51 v64 v65 v66 c14 h
 | _, _, _ => False
@[simp] def zbb.k4 (C : CSem) (N : Nat → Nat) (Q : AVal → za → Prop) (Y1 : List AVal → za → Prop) (v1 v7 v8 v11 v13 v15 v49 v50 v51 c14 : AVal) (h : za) : Prop :=
 B.al c14 (B.pv (V.zbu 0 c14) fun v63 =>
  B.pv (A.lkp h (some .s) (some (.nils)) false v8 v63) fun v64 =>
  B.pv (V.zcj v64) fun v65 =>
  zm (zbb.l3 C N Q Y1 v1 v7 v8 v13 v49 v50 v51 v64 v65 c14) [v11, v15, (.int .i64 0)] h)
@[simp] def zbb.k5 (C : CSem) (N : Nat → Nat) (Q : AVal → za → Prop) (Y1 : List AVal → za → Prop) (v1 v7 v8 v11 v13 v49 v50 v51 : AVal) (h : za) : Prop :=
 B.pv (V.idxS 3 v1 v13) fun v57 =>
  B.ldn h v57 3 fun v58 =>
  B.pv (V.setN 0 3 v58 (.agg [.str [], .int .i64 0, .int .i64 0])) fun c14 =>
  B.al c14 (B.pv (V.zbu 2 c14) fun v60 =>
  zbb.k4 C N Q Y1 v1 v7 v8 v11 v13 v60 v49 v50 v51 c14 h)
@[simp] def zbb.k6 (C : CSem) (N : Nat → Nat) (Q : AVal → za → Prop) (Y1 : List AVal → za → Prop) (v1 v7 v8 v11 v49 v50 v51 v52 : AVal) (h : za) : Prop :=
 B.cond v52
  (B.pv (V.idxS 1 v49 v51) fun v53 =>
  B.ld h v53 fun v54 =>
  zbb.k5 C N Q Y1 v1 v7 v8 v11 v54 v49 v50 v51 h)
  (Q (.tup [v11, v7, (.bool true)]) h)
@[simp] def zbb.l7 (C : CSem) (N : Nat → Nat) (Q : AVal → za → Prop) (v1 v7 v8 v49 v50 : AVal) : List AVal → za → (List AVal → za → Prop) → Prop
 | [v11, v51], h, Y1 => B.pv (V.bin .lss v51 v50) fun v52 =>
  zbb.k6 C N Q Y1 v1 v7 v8 v11 v49 v50 v51 v52 h
 | _, _, _ => False
@[simp] def zbb.k8 (C : CSem) (N : Nat → Nat) (Q : AVal → za → Prop) (Y3 : List AVal → za → Prop) (v1 v7 v8 v26 v27 v28 : AVal) (h : za) : Prop :=
 B.pv (V.bin .lss v28 v27) fun v29 =>
  B.cond v29
  (B.pv (V.idxS 6 v26 v28) fun v30 =>
  B.ldn h v30 6 fun v31 =>
  B.pv (V.setN 0 6 v31 (.agg [.int .i64 0, .str [], .int .i64 0, .int .i64 0, .int .i64 0, .bool false])) fun c10 =>
  B.al c10 (B.pv (V.zbu 0 c10) fun v34 =>
  B.al c10 (B.pv (V.zbu 4 c10) fun v36 =>
  B.mset h .i v7 v34 v36 fun h =>
  B.al c10 (B.pv (V.zbu 1 c10) fun v39 =>
  B.al c10 (B.pv (V.zbu 1 c10) fun v42 =>
  B.pv (V.zen 0 6 c10) fun v44 =>
  B.al c10 (B.pv (A.lkp h (some .s) (some (.nils)) false v8 v42) fun v43 =>
  B.newO h (zfu [(0, some 6, v44)] (repL 1 [.int .i64 0, .str [], .int .i64 0, .int .i64 0, .int .i64 0, .bool false])) fun i45 h =>
  B.appW h 6 56 v43 (.sl i45 0 0 1 6 1) fun v46 h =>
  B.mset h .s v8 v39 v46 fun h =>
  B.pv (V.bin .add v28 (.int .i64 1)) fun v47 =>
  Y3 [v47] h))))))
  (B.call C (N 240) [v1] h fun v49 h =>
  B.pv (V.zcj v49) fun v50 =>
  zm (zbb.l7 C N Q v1 v7 v8 v49 v50) [.nils, (.int .i64 0)] h)
@[simp] def zbb.l9 (C : CSem) (N : Nat → Nat) (Q : AVal → za → Prop) (v1 v7 v8 v26 v27 : AVal) : List AVal → za → (List AVal → za → Prop) → Prop
 | [v28], h, Y3 => zbb.k8 C N Q Y3 v1 v7 v8 v26 v27 v28 h
 | _, _, _ => False
@[simp] def zbb.k10 (C : CSem) (N : Nat → Nat) (Q : AVal → za → Prop) (v0 v1 v7 : AVal) (h : za) : Prop :=
 B.zmn h fun v24 h =>
  B.call C (N 149) [v0] h fun v26 h =>
  B.pv (V.zcj v26) fun v27 =>
  zm (zbb.l9 C N Q v1 v7 v24 v26 v27) [(.int .i64 0)] h
@[simp] def zbb.k11 (C : CSem) (N : Nat → Nat) (Q : AVal → za → Prop) (v0 v1 : AVal) (h : za) : Prop :=
 B.call C (N 239) [v0, v1] h fun v21 h =>
  B.pv (V.un .not v21) fun v22 =>
  B.cond v22
  (Q (.tup [.nils, .nilm, (.bool false)]) h)
  (B.zmn h fun v23 h =>
  zbb.k10 C N Q v0 v1 v23 h)
@[simp] def zbb.cps (C : CSem) (N : Nat → Nat) (v0 v1 : AVal) (h : za) (Q : AVal → za → Prop) : Prop :=
 zbb.k11 C N Q v0 v1 h
def zbb.Imp (C : CSem) (N : Nat → Nat) : Prop := ∀ (v0 v1 : AVal) (h : za) (Q : AVal → za → Prop), zbb.cps C N v0 v1 h (dn Q) → C (N 232) [v0, v1] h Q
@[simp] def zb4.k1 (C : CSem) (N : Nat → Nat) (Q : AVal → za → Prop) (Y1 : List AVal → za → Prop) (v1 v5 v17 v18 v19 : AVal) (h : za) : Prop :=
 B.pv (V.bin .lss v19 v18) fun v20 =>
  B.cond v20
  (B.pv (V.idxS 6 v17 v19) fun v21 =>
  B.ldn h v21 6 fun v22 =>
  B.pv (V.setN 0 6 v22 (.agg [.int .i64 0, .str [], .int .i64 0, .int .i64 0, .int .i64 0, .bool false])) fun c7 =>
  B.pv (V.zen 0 6 c7) fun v23 =>
  B.call C (N 52) [v23] h fun v24 h =>
  B.pv (V.un .not v24) fun v25 =>
  B.gd h v25 false (fun K => K v5 h) fun v27 h =>
  B.al c7 (B.gd h v25 false (fun K => K .undef h) fun _ h =>
  B.gd h v25 false (fun K => B.pv (V.zbu 0 c7) fun v => K v h) fun v29 h =>
  B.gd h v25 false (fun K => B.pv (A.lkp h (some .i) (some (.bool false)) false v27 v29) fun v => K v h) fun v30 h =>
  B.pick v25 (.bool true) v30 fun v31 =>
  B.cond v31
  (Q (.bool false) h)
  (B.al c7 (B.pv (V.zbu 0 c7) fun v34 =>
  B.mset h .i v5 v34 (.bool true) fun h =>
  B.pv (V.bin .add v19 (.int .i64 1)) fun v35 =>
  Y1 [v35] h))))
  (B.call C (N 237) [v1, (.fn (N 243) [] [])] h fun v37 h =>
  B.pv (V.un .not v37) fun v38 =>
  Q v38 h)
@[simp] def zb4.l2 (C : CSem) (N : Nat → Nat) (Q : AVal → za → Prop) (v1 v5 v17 v18 : AVal) : List AVal → za → (List AVal → za → Prop) → Prop
 | [v19], h, Y1 => zb4.k1 C N Q Y1 v1 v5 v17 v18 v19 h
 | _, _, _ => False
@[simp] def zb4.k3 (C : CSem) (N : Nat → Nat) (Q : AVal → za → Prop) (v0 v1 : AVal) (h : za) : Prop :=
 B.pv (V.zcj v0) fun v9 =>
  B.pv (V.bin .gtr v9 (.int .i64 300)) fun v10 =>
  B.gd h v10 false (fun K => K v1 h) fun v12 h =>
  B.gd h v10 false (fun K => B.pv (V.zcj v12) fun v => K v h) fun v13 h =>
  B.gd h v10 false (fun K => B.pv (V.bin .gtr v13 (.int .i64 20000)) fun v => K v h) fun v14 h =>
  B.pick v10 (.bool true) v14 fun v15 =>
  B.cond v15
  (Q (.bool false) h)
  (B.zmn h fun v16 h =>
  B.pv (V.zcj v0) fun v18 =>
  zm (zb4.l2 C N Q v1 v16 v0 v18) [(.int .i64 0)] h)
@[simp] def zb4.cps (C : CSem) (N : Nat → Nat) (v0 v1 : AVal) (h : za) (Q : AVal → za → Prop) : Prop :=
 zb4.k3 C N Q v0 v1 h
def zb4.Imp (C : CSem) (N : Nat → Nat) : Prop := ∀ (v0 v1 : AVal) (h : za) (Q : AVal → za → Prop), zb4.cps C N v0 v1 h (dn Q) → C (N 239) [v0, v1] h Q
@[simp] def zdo.k1 (C : CSem) (N : Nat → Nat) (Q : AVal → za → Prop) (Y1 : List AVal → za → Prop) (v1 v3 v9 v10 : AVal) (h : za) : Prop :=
 B.pv (V.bin .lss v10 v9) fun v11 =>
  B.cond v11
  (B.pv (V.idxS 1 v3 v10) fun v16 =>
  B.st h v16 v10 fun h =>
  B.pv (V.bin .add v10 (.int .i64 1)) fun v17 =>
  Y1 [v17] h)
  (B.call C (N 246) [v3, (.fn (N 245) [] [v1])] h fun v20 h =>
  Q v3 h)
@[simp] def zdo.l2 (C : CSem) (N : Nat → Nat) (Q : AVal → za → Prop) (v1 v3 v9 : AVal) : List AVal → za → (List AVal → za → Prop) → Prop
 | [v10], h, Y1 => zdo.k1 C N Q Y1 v1 v3 v9 v10 h
 | _, _, _ => False
@[simp] def zdo.k3 (C : CSem) (N : Nat → Nat) (Q : AVal → za → Prop) (v1 : AVal) (h : za) : Prop :=
 B.ld h v1 fun v5 =>
  B.pv (V.zcj v5) fun v6 =>
  0 < 1 ∧ B.mks h 8 (some [.int .i64 0]) v6 v6 fun v7 h =>
  B.pv (V.zcj v7) fun v9 =>
  zm (zdo.l2 C N Q v1 v7 v9) [(.int .i64 0)] h
@[simp] def zdo.cps (C : CSem) (N : Nat → Nat) (v0 : AVal) (h : za) (Q : AVal → za → Prop) : Prop :=
 B.newO h (A.zh8 v0) fun i1 h =>
  zdo.k3 C N Q (.ptr i1 0 0) h
def zdo.Imp (C : CSem) (N : Nat → Nat) : Prop := ∀ (v0 : AVal) (h : za) (Q : AVal → za → Prop), zdo.cps C N v0 h (dn Q) → C (N 240) [v0] h Q
@[simp] def zcx.k1 (C : CSem) (N : Nat → Nat) (Q : AVal → za → Prop) (v0 : AVal) (h : za) : Prop :=
 B.pv (A.boxN 3 v0) fun c1 =>
  B.al c1 (B.pv (V.zbu 0 c1) fun v4 =>
  B.call C (N 53) [v4] h fun v5 h =>
  B.pv (V.un .not v5) fun v6 =>
  B.al c1 (B.gd h v6 false (fun K => K .undef h) fun _ h =>
  B.gd h v6 false (fun K => B.pv (V.zbu 1 c1) fun v => K v h) fun v9 h =>
  B.gd h v6 false (fun K => B.pv (V.bin .lss v9 (.int .i64 0)) fun v => K v h) fun v10 h =>
  B.pick v6 (.bool true) v10 fun v11 =>
  B.al c1 (B.gd h v11 false (fun K => K .undef h) fun _ h =>
  B.gd h v11 false (fun K => B.pv (V.zbu 1 c1) fun v => K v h) fun v14 h =>
  B.gd h v11 false (fun K => B.pv (V.bin .gtr v14 (.int .i64 4000)) fun v => K v h) fun v15 h =>
  B.pick v11 (.bool true) v15 fun v16 =>
  B.al c1 (B.gd h v16 false (fun K => K .undef h) fun _ h =>
  B.gd h v16 false (fun K => B.pv (V.zbu 2 c1) fun v => K v h) fun v19 h =>
  B.gd h v16 false (fun K => B.pv (V.bin .lss v19 (.int .i64 1)) fun v => K v h) fun v20 h =>
  B.pick v16 (.bool true) v20 fun v21 =>
  B.al c1 (B.gd h v21 false (fun K => K .undef h) fun _ h =>
  B.gd h v21 false (fun K => B.pv (V.zbu 2 c1) fun v => K v h) fun v24 h =>
  B.gd h v21 false (fun K => B.call C (N 247) [v24] h K) fun v25 h =>
  B.gd h v21 false (fun K => B.pv (V.un .not v25) fun v => K v h) fun v26 h =>
  B.pick v21 (.bool true) v26 fun v27 =>
  Q v27 h)))))
@[simp] def zcx.cps (C : CSem) (N : Nat → Nat) (v0 : AVal) (h : za) (Q : AVal → za → Prop) : Prop :=
 zcx.k1 C N Q v0 h
def zcx.Imp (C : CSem) (N : Nat → Nat) : Prop := ∀ (v0 : AVal) (h : za) (Q : AVal → za → Prop), zcx.cps C N v0 h (dn Q) → C (N 243) [v0] h Q
@[simp] def zdy.k1 (C : CSem) (N : Nat → Nat) (Q : AVal → za → Prop) (v0 v1 v2 : AVal) (h : za) : Prop :=
 B.ld h v2 fun v6 =>
  B.pv (V.idxS 3 v6 v0) fun v8 =>
  B.pv (V.fieldAddr 1 v8) fun v9 =>
  B.ld h v9 fun v10 =>
  B.ld h v2 fun v11 =>
  B.pv (V.idxS 3 v11 v1) fun v13 =>
  B.pv (V.fieldAddr 1 v13) fun v14 =>
  B.ld h v14 fun v15 =>
  B.pv (V.bin .sub v10 v15) fun v16 =>
  Q v16 h
@[simp] def zdy.cps (C : CSem) (N : Nat → Nat) (v0 v1 v2 : AVal) (h : za) (Q : AVal → za → Prop) : Prop :=
 zdy.k1 C N Q v0 v1 v2 h
def zdy.Imp (C : CSem) (N : Nat → Nat) : Prop := ∀ (v0 v1 v2 : AVal) (h : za) (Q : AVal → za → Prop), zdy.cps C N v0 v1 v2 h (dn Q) → C (N 245) [v0, v1, v2] h Q
end Go.Ab
namespace Go.Ab
@[simp] def zcs.k3 (C : CSem) (N : Nat → Nat) (Q : AVal → za → Prop) (v0 v1 : AVal) (h : za) : Prop :=
 B.pv (V.zcj v0) fun v7 =>
  B.pv (V.zcj v1) fun v9 =>
  B.pv (V.bin .neq v7 v9) fun v10 =>
  B.cond v10
  (Q (.bool false) h)
  (zm (zsj.l4 2 [.i .i64, .i .i64] Q v0 v1) [(.int .i64 0)] h)
def zcs.cps (C : CSem) (N : Nat → Nat) (v0 v1 : AVal) (h : za) (Q : AVal → za → Prop) : Prop :=
 zcs.k3 C N Q v0 v1 h
def zcs.Imp (C : CSem) (N : Nat → Nat) : Prop := ∀ (v0 v1 : AVal) (h : za) (Q : AVal → za → Prop), zcs.cps C N v0 v1 h (dn Q) → C (N 12) [v0, v1] h Q
@[simp] def ze8.cps (C : CSem) (N : Nat → Nat) (v0 v1 : AVal) (h : za) (Q : AVal → za → Prop) : Prop :=
 B.pv (V.bin .add v0 (.int .i64 7)) fun v6 =>
  B.pv (V.bin .mul (.int .i64 1000003) v6) fun v7 =>
  B.pv (V.bin .add v7 v1) fun v9 =>
  Q v9 h
def ze8.Imp (C : CSem) (N : Nat → Nat) : Prop := ∀ (v0 v1 : AVal) (h : za) (Q : AVal → za → Prop), ze8.cps C N v0 v1 h (dn Q) → C (N 20) [v0, v1] h Q
@[simp] def zdn.k3 (C : CSem) (N : Nat → Nat) (Q : AVal → za → Prop) (v0 : AVal) (h : za) : Prop :=
 B.pv (V.zcj v0) fun v6 =>
  B.pv (V.bin .add v6 (.int .i64 12)) fun v7 =>
  0 < 6 ∧ B.mks h 56 (some [.int .i64 0, .str [], .int .i64 0, .int .i64 0, .int .i64 0, .bool false]) (.int .i64 0) v7 fun v8 h =>
  B.appW h 6 56 v8 v0 fun v11 h =>
  zm (zjw.l4 C 6 56 (N 77) [.int .i64 0, .str [], .int .i64 0, .int .i64 0, .int .i64 0, .bool false] 1 Q v0) [v11, (.int .i64 0)] h
def zdn.cps (C : CSem) (N : Nat → Nat) (v0 : AVal) (h : za) (Q : AVal → za → Prop) : Prop :=
 zdn.k3 C N Q v0 h
def zdn.Imp (C : CSem) (N : Nat → Nat) : Prop := ∀ (v0 : AVal) (h : za) (Q : AVal → za → Prop), zdn.cps C N v0 h (dn Q) → C (N 48) [v0] h Q
@[simp] def zc7.k3 (C : CSem) (N : Nat → Nat) (Q : AVal → za → Prop) (v0 v1 : AVal) (h : za) : Prop :=
 B.pv (V.zcj v1) fun v14 =>
  B.pv (V.bin .add v14 (.int .i64 12)) fun v15 =>
  B.pv (V.zhe 6 v0 none (some v15)) fun v16 =>
  zm (zk4.l4 C 6 (N 77) [.i .i64, .s, .i .i64, .i .i64, .i .i64, .b] 1 Q v1 v16) [(.int .i64 0)] h
@[simp] def zc7.k4 (C : CSem) (N : Nat → Nat) (Q : AVal → za → Prop) (v0 v1 : AVal) (h : za) : Prop :=
 B.pv (V.zcj v0) fun v8 =>
  B.pv (V.zcj v1) fun v10 =>
  B.pv (V.bin .neq v8 v10) fun v11 =>
  B.cond v11
  (Q (.bool false) h)
  (zc7.k3 C N Q v0 v1 h)
def zc7.cps (C : CSem) (N : Nat → Nat) (v0 v1 : AVal) (h : za) (Q : AVal → za → Prop) : Prop :=
 zc7.k4 C N Q v0 v1 h
def zc7.Imp (C : CSem) (N : Nat → Nat) : Prop := ∀ (v0 v1 : AVal) (h : za) (Q : AVal → za → Prop), zc7.cps C N v0 v1 h (dn Q) → C (N 54) [v0, v1] h Q
@[simp] def zd2.k1 (C : CSem) (N : Nat → Nat) (Q : AVal → za → Prop) (v0 v1 : AVal) (h : za) : Prop :=
 B.call C (N 20) [v0, v1] h fun v7 h =>
  B.pv (A.bld [(0, none, v7)] [.int .i64 0, .str [], .int .i64 0, .int .i64 0, .int .i64 0, .bool false]) fun v8 =>
  B.pv (V.setN 0 6 v8 (.agg [.int .i64 0, .str [], .int .i64 0, .int .i64 0, .int .i64 0, .bool false])) fun c4 =>
  B.pv (oneOf (zfe (V.zen 0 6 c4) (some []))) fun v => Q v h
@[simp] def zd2.cps (C : CSem) (N : Nat → Nat) (v0 v1 : AVal) (h : za) (Q : AVal → za → Prop) : Prop :=
 zd2.k1 C N Q v0 v1 h
def zd2.Imp (C : CSem) (N : Nat → Nat) : Prop := ∀ (v0 v1 : AVal) (h : za) (Q : AVal → za → Prop), zd2.cps C N v0 v1 h (dn Q) → C (N 77) [v0, v1] h Q
@[simp] def zdl.k1 (C : CSem) (N : Nat → Nat) (Q : AVal → za → Prop) (v0 v1 : AVal) (h : za) : Prop :=
 B.call C (N 20) [v0, v1] h fun v7 h =>
  B.pv (A.bld [(1, none, v7)] [.str [], .int .i64 0, .int .i64 0]) fun v8 =>
  B.pv (V.setN 0 3 v8 (.agg [.str [], .int .i64 0, .int .i64 0])) fun c4 =>
  B.pv (oneOf (zfe (V.zen 0 3 c4) (some []))) fun v => Q v h
@[simp] def zdl.cps (C : CSem) (N : Nat → Nat) (v0 v1 : AVal) (h : za) (Q : AVal → za → Prop) : Prop :=
 zdl.k1 C N Q v0 v1 h
def zdl.Imp (C : CSem) (N : Nat → Nat) : Prop := ∀ (v0 v1 : AVal) (h : za) (Q : AVal → za → Prop), zdl.cps C N v0 v1 h (dn Q) → C (N 107) [v0, v1] h Q
@[simp] def zdm.k1 (C : CSem) (N : Nat → Nat) (Q : AVal → za → Prop) (v0 v1 : AVal) (h : za) : Prop :=
 B.call C (N 20) [v0, v1] h fun v7 h =>
  B.pv (A.bld [(1, none, v7)] [.str [], .int .i64 0]) fun v8 =>
  B.pv (V.setN 0 2 v8 (.agg [.str [], .int .i64 0])) fun c4 =>
  B.pv (oneOf (zfe (V.zen 0 2 c4) (some []))) fun v => Q v h
@[simp] def zdm.cps (C : CSem) (N : Nat → Nat) (v0 v1 : AVal) (h : za) (Q : AVal → za → Prop) : Prop :=
 zdm.k1 C N Q v0 v1 h
def zdm.Imp (C : CSem) (N : Nat → Nat) : Prop := ∀ (v0 v1 : AVal) (h : za) (Q : AVal → za → Prop), zdm.cps C N v0 v1 h (dn Q) → C (N 108) [v0, v1] h Q
@[simp] def zc9.k3 (C : CSem) (N : Nat → Nat) (Q : AVal → za → Prop) (v0 : AVal) (h : za) : Prop :=
 B.pv (V.zcj v0) fun v6 =>
  B.pv (V.bin .add v6 (.int .i64 12)) fun v7 =>
  0 < 3 ∧ B.mks h 32 (some [.str [], .int .i64 0, .int .i64 0]) (.int .i64 0) v7 fun v8 h =>
  B.appW h 3 32 v8 v0 fun v11 h =>
  zm (zjw.l4 C 3 32 (N 107) [.str [], .int .i64 0, .int .i64 0] 1 Q v0) [v11, (.int .i64 0)] h
def zc9.cps (C : CSem) (N : Nat → Nat) (v0 : AVal) (h : za) (Q : AVal → za → Prop) : Prop :=
 zc9.k3 C N Q v0 h
def zc9.Imp (C : CSem) (N : Nat → Nat) : Prop := ∀ (v0 : AVal) (h : za) (Q : AVal → za → Prop), zc9.cps C N v0 h (dn Q) → C (N 218) [v0] h Q
@[simp] def zcz.k3 (C : CSem) (N : Nat → Nat) (Q : AVal → za → Prop) (v0 v1 : AVal) (h : za) : Prop :=
 B.pv (V.zcj v1) fun v14 =>
  B.pv (V.bin .add v14 (.int .i64 12)) fun v15 =>
  B.pv (V.zhe 3 v0 none (some v15)) fun v16 =>
  zm (zk4.l4 C 3 (N 107) [.s, .i .i64, .i .i64] 1 Q v1 v16) [(.int .i64 0)] h
@[simp] def zcz.k4 (C : CSem) (N : Nat → Nat) (Q : AVal → za → Prop) (v0 v1 : AVal) (h : za) : Prop :=
 B.pv (V.zcj v0) fun v8 =>
  B.pv (V.zcj v1) fun v10 =>
  B.pv (V.bin .neq v8 v10) fun v11 =>
  B.cond v11
  (Q (.bool false) h)
  (zcz.k3 C N Q v0 v1 h)
def zcz.cps (C : CSem) (N : Nat → Nat) (v0 v1 : AVal) (h : za) (Q : AVal → za → Prop) : Prop :=
 zcz.k4 C N Q v0 v1 h
def zcz.Imp (C : CSem) (N : Nat → Nat) : Prop := ∀ (v0 v1 : AVal) (h : za) (Q : AVal → za → Prop), zcz.cps C N v0 v1 h (dn Q) → C (N 223) [v0, v1] h Q
@[simp] def zda.k3 (C : CSem) (N : Nat → Nat) (Q : AVal → za → Prop) (v0 : AVal) (h : za) : Prop :=
 B.pv (V.zcj v0) fun v6 =>
  B.pv (V.bin .add v6 (.int .i64 12)) fun v7 =>
  0 < 2 ∧ B.mks h 24 (some [.str [], .int .i64 0]) (.int .i64 0) v7 fun v8 h =>
  B.appW h 2 24 v8 v0 fun v11 h =>
  zm (zjw.l4 C 2 24 (N 108) [.str [], .int .i64 0] 1 Q v0) [v11, (.int .i64 0)] h
def zda.cps (C : CSem) (N : Nat → Nat) (v0 : AVal) (h : za) (Q : AVal → za → Prop) : Prop :=
 zda.k3 C N Q v0 h
def zda.Imp (C : CSem) (N : Nat → Nat) : Prop := ∀ (v0 : AVal) (h : za) (Q : AVal → za → Prop), zda.cps C N v0 h (dn Q) → C (N 319) [v0] h Q
@[simp] def zc0.k3 (C : CSem) (N : Nat → Nat) (Q : AVal → za → Prop) (v0 v1 : AVal) (h : za) : Prop :=
 B.pv (V.zcj v1) fun v14 =>
  B.pv (V.bin .add v14 (.int .i64 12)) fun v15 =>
  B.pv (V.zhe 2 v0 none (some v15)) fun v16 =>
  zm (zk4.l4 C 2 (N 108) [.s, .i .i64] 1 Q v1 v16) [(.int .i64 0)] h
@[simp] def zc0.k4 (C : CSem) (N : Nat → Nat) (Q : AVal → za → Prop) (v0 v1 : AVal) (h : za) : Prop :=
 B.pv (V.zcj v0) fun v8 =>
  B.pv (V.zcj v1) fun v10 =>
  B.pv (V.bin .neq v8 v10) fun v11 =>
  B.cond v11
  (Q (.bool false) h)
  (zc0.k3 C N Q v0 v1 h)
def zc0.cps (C : CSem) (N : Nat → Nat) (v0 v1 : AVal) (h : za) (Q : AVal → za → Prop) : Prop :=
 zc0.k4 C N Q v0 v1 h
def zc0.Imp (C : CSem) (N : Nat → Nat) : Prop := ∀ (v0 v1 : AVal) (h : za) (Q : AVal → za → Prop), zc0.cps C N v0 v1 h (dn Q) → C (N 324) [v0, v1] h Q
end Go.Ab
namespace Go.Ab
@[simp] def zd9.k1 (C : CSem) (N : Nat → Nat) (Q : AVal → za → Prop) (h : za) : Prop :=
 B.pv (A.bld [(0, none, (.str [65])), (1, none, (.int .i64 2)), (2, none, (.int .i64 2))] [.str [], .int .i64 0, .int .i64 0]) fun v9 =>
  B.newO h (zfu [(0, some 3, v9)] (repL 1 [.str [], .int .i64 0, .int .i64 0])) fun i10 h =>
  B.call C (N 329) [] h fun v12 h =>
  B.pv (A.bld [(0, none, (.str [65])), (1, none, (.int .i64 1))] [.str [], .int .i64 0]) fun v14 =>
  B.newO h (zfu [(0, some 2, v14)] (repL 1 [.str [], .int .i64 0])) fun i15 h =>
  B.call C (N 320) [v12, (.sl i10 0 0 1 3 1), (.sl i15 0 0 1 2 1), (.int .i64 1), (.int .i64 20)] h fun v16 h =>
  B.pv (V.ext 0 v16) fun v17 =>
  B.pv (V.ext 1 v16) fun v18 =>
  B.call C (N 329) [] h fun v20 h =>
  B.pv (A.bld [(0, none, (.str [65])), (1, none, (.int .i64 2))] [.str [], .int .i64 0]) fun v22 =>
  B.newO h (zfu [(0, some 2, v22)] (repL 1 [.str [], .int .i64 0])) fun i23 h =>
  B.call C (N 320) [v20, (.sl i10 0 0 1 3 1), (.sl i23 0 0 1 2 1), (.int .i64 1), (.int .i64 20)] h fun v24 h =>
  B.pv (V.ext 0 v24) fun v25 =>
  B.pv (V.ext 1 v24) fun v26 =>
  B.call C (N 329) [] h fun v28 h =>
  B.pv (A.bld [(0, none, (.str [65])), (1, none, (.int .i64 5))] [.str [], .int .i64 0]) fun v30 =>
  B.newO h (zfu [(0, some 2, v30)] (repL 1 [.str [], .int .i64 0])) fun i31 h =>
  B.call C (N 320) [v28, (.sl i10 0 0 1 3 1), (.sl i31 0 0 1 2 1), (.int .i64 1), (.int .i64 20)] h fun v32 h =>
  B.pv (V.ext 0 v32) fun v33 =>
  B.pv (V.ext 1 v32) fun v34 =>
  B.call C (N 329) [] h fun v35 h =>
  B.pv (A.bld [(0, none, (.str [65])), (1, none, (.int .i64 2))] [.str [], .int .i64 0]) fun v37 =>
  B.newO h (zfu [(0, some 2, v37)] (repL 1 [.str [], .int .i64 0])) fun i38 h =>
  B.call C (N 322) [v35, (.sl i10 0 0 1 3 1), (.sl i38 0 0 1 2 1), (.int .i64 1), (.int .i64 20)] h fun v39 h =>
  B.gd h v18 true (fun K => K v17 h) fun v42 h =>
  B.gd h v18 true (fun K => B.pv (V.bin .eql v42 (.int .i64 1)) fun v => K v h) fun v43 h =>
  B.pick v18 v43 (.bool false) fun v44 =>
  B.gd h v44 true (fun K => K v26 h) fun v46 h =>
  B.pick v44 v46 (.bool false) fun v47 =>
  B.gd h v47 true (fun K => K v25 h) fun v49 h =>
  B.gd h v47 true (fun K => B.pv (V.bin .eql v49 (.int .i64 7)) fun v => K v h) fun v50 h =>
  B.pick v47 v50 (.bool false) fun v51 =>
  B.gd h v51 true (fun K => K v34 h) fun v53 h =>
  B.gd h v51 true (fun K => B.pv (V.un .not v53) fun v => K v h) fun v54 h =>
  B.pick v51 v54 (.bool false) fun v55 =>
  B.gd h v55 true (fun K => K v39 h) fun v57 h =>
  B.gd h v55 true (fun K => B.pv (V.zcj v57) fun v => K v h) fun v58 h =>
  B.gd h v55 true (fun K => B.pv (V.bin .eql v58 (.int .i64 1)) fun v => K v h) fun v59 h =>
  B.pick v55 v59 (.bool false) fun v60 =>
  B.gd h v60 true (fun K => K v39 h) fun v62 h =>
  B.gd h v60 true (fun K => B.pv (V.idxS 2 v62 (.int .i64 0)) fun v => K v h) fun v63 h =>
  B.gd h v60 true (fun K => B.ldn h v63 2 fun v => K v h) fun v64 h =>
  B.gd h v60 true (fun K => B.pv (A.bld [(0, none, (.int .i64 7)), (1, none, (.int .i64 9))] [.int .i64 0, .int .i64 0]) fun v => K v h) fun v65 h =>
  B.gd h v60 true (fun K => B.pv (V.zjn .eql [.i .i64, .i .i64] v64 v65) fun v => K v h) fun v66 h =>
  B.pick v60 v66 (.bool false) fun v67 =>
  Q v67 h
@[simp] def zd9.cps (C : CSem) (N : Nat → Nat) (h : za) (Q : AVal → za → Prop) : Prop :=
 zd9.k1 C N Q h
def zd9.Imp (C : CSem) (N : Nat → Nat) : Prop := ∀ (h : za) (Q : AVal → za → Prop), zd9.cps C N h (dn Q) → C (N 317) [] h Q
@[simp] def zdx.k1 (C : CSem) (N : Nat → Nat) (Q : AVal → za → Prop) (v0 v1 v2 v3 v4 : AVal) (h : za) : Prop :=
 B.pv (V.zcj v0) fun v12 =>
  B.pv (V.bin .leq v12 (.int .i64 12)) fun v13 =>
  B.gd h v13 true (fun K => K v1 h) fun v15 h =>
  B.gd h v13 true (fun K => B.pv (V.zcj v15) fun v => K v h) fun v16 h =>
  B.gd h v13 true (fun K => B.pv (V.bin .leq v16 (.int .i64 20)) fun v => K v h) fun v17 h =>
  B.pick v13 v17 (.bool false) fun v18 =>
  B.gd h v18 true (fun K => K v2 h) fun v20 h =>
  B.gd h v18 true (fun K => B.pv (V.zcj v20) fun v => K v h) fun v21 h =>
  B.gd h v18 true (fun K => B.pv (V.bin .leq v21 (.int .i64 6)) fun v => K v h) fun v22 h =>
  B.pick v18 v22 (.bool false) fun v23 =>
  B.gd h v23 true (fun K => K v4 h) fun v25 h =>
  B.gd h v23 true (fun K => B.pv (V.min2 v25 (.int .i64 4001)) fun v => K v h) fun v26 h =>
  B.gd h v23 true (fun K => K v3 h) fun v27 h =>
  B.gd h v23 true (fun K => B.pv (V.max2 v27 (.int .i64 0)) fun v => K v h) fun v28 h =>
  B.gd h v23 true (fun K => B.pv (V.bin .lss v26 v28) fun v => K v h) fun v29 h =>
  B.gd h v23 true (fun K => K v29 h) fun v30 h =>
  B.gd h v30 false (fun K => K v4 h) fun v31 h =>
  B.gd h v30 false (fun K => B.pv (V.min2 v31 (.int .i64 4001)) fun v => K v h) fun v32 h =>
  B.gd h v30 false (fun K => K v3 h) fun v33 h =>
  B.gd h v30 false (fun K => B.pv (V.max2 v33 (.int .i64 0)) fun v => K v h) fun v34 h =>
  B.gd h v30 false (fun K => B.pv (V.bin .sub v32 v34) fun v => K v h) fun v35 h =>
  B.gd h v30 false (fun K => B.pv (V.bin .leq v35 (.int .i64 60)) fun v => K v h) fun v36 h =>
  B.gd h v23 true (fun K => B.pick v30 (.bool true) v36 fun v => K v h) fun v37 h =>
  B.pick v23 v37 (.bool false) fun v38 =>
  Q v38 h
@[simp] def zdx.cps (C : CSem) (N : Nat → Nat) (v0 v1 v2 v3 v4 : AVal) (h : za) (Q : AVal → za → Prop) : Prop :=
 zdx.k1 C N Q v0 v1 v2 v3 v4 h
def zdx.Imp (C : CSem) (N : Nat → Nat) : Prop := ∀ (v0 v1 v2 v3 v4 : AVal) (h : za) (Q : AVal → za → Prop), zdx.cps C N v0 v1 v2 v3 v4 h (dn Q) → C (N 318) [v0, v1, v2, v3, v4] h Q
@[simp] def zcr.k1 (C : CSem) (N : Nat → Nat) (Q : AVal → za → Prop) (v0 v1 v2 v3 v4 : AVal) (h : za) : Prop :=
 B.call C (N 317) [] h fun v18 h =>
  B.pv (V.un .not v18) fun v19 =>
  B.cond v19
  (Q (.bool false) h)
  (B.call C (N 318) [v0, v1, v2, v3, v4] h fun v25 h =>
  B.pv (V.un .not v25) fun v26 =>
  B.cond v26
  (Q (.bool true) h)
  (B.call C (N 48) [v0] h fun v28 h =>
  B.call C (N 218) [v1] h fun v30 h =>
  B.call C (N 319) [v2] h fun v32 h =>
  B.call C (N 320) [v28, v30, v32, v3, v4] h fun v39 h =>
  B.pv (V.ext 0 v39) fun v40 =>
  B.pv (V.ext 1 v39) fun v41 =>
  B.call C (N 321) [v0, v1, v2, v3, v4] h fun v48 h =>
  B.pv (V.ext 0 v48) fun v49 =>
  B.pv (V.ext 1 v48) fun v50 =>
  B.pv (V.bin .eql v40 v49) fun v53 =>
  B.gd h v53 true (fun K => K v41 h) fun v55 h =>
  B.gd h v53 true (fun K => K v50 h) fun v56 h =>
  B.gd h v53 true (fun K => B.pv (V.zp9 .eql v55 v56) fun v => K v h) fun v57 h =>
  B.pick v53 v57 (.bool false) fun v58 =>
  B.gd h v58 true (fun K => K v28 h) fun v60 h =>
  B.gd h v58 true (fun K => K v30 h) fun v61 h =>
  B.gd h v58 true (fun K => K v32 h) fun v62 h =>
  B.gd h v58 true (fun K => K v3 h) fun v63 h =>
  B.gd h v58 true (fun K => K v4 h) fun v64 h =>
  B.gd h v58 true (fun K => B.call C (N 322) [v60, v61, v62, v63, v64] h K) fun v65 h =>
  B.gd h v58 true (fun K => K v0 h) fun v66 h =>
  B.gd h v58 true (fun K => K v1 h) fun v67 h =>
  B.gd h v58 true (fun K => K v2 h) fun v68 h =>
  B.gd h v58 true (fun K => K v3 h) fun v69 h =>
  B.gd h v58 true (fun K => K v4 h) fun v70 h =>
  B.gd h v58 true (fun K => B.call C (N 323) [v66, v67, v68, v69, v70] h K) fun v71 h =>
  B.gd h v58 true (fun K => B.call C (N 12) [v65, v71] h K) fun v72 h =>
  B.pick v58 v72 (.bool false) fun v73 =>
  B.gd h v73 true (fun K => K v28 h) fun v75 h =>
  B.gd h v73 true (fun K => K v0 h) fun v76 h =>
  B.gd h v73 true (fun K => B.call C (N 54) [v75, v76] h K) fun v77 h =>
  B.pick v73 v77 (.bool false) fun v78 =>
  B.gd h v78 true (fun K => K v30 h) fun v80 h =>
  B.gd h v78 true (fun K => K v1 h) fun v81 h =>
  B.gd h v78 true (fun K => B.call C (N 223) [v80, v81] h K) fun v82 h =>
  B.pick v78 v82 (.bool false) fun v83 =>
  B.gd h v83 true (fun K => K v32 h) fun v85 h =>
  B.gd h v83 true (fun K => K v2 h) fun v86 h =>
  B.gd h v83 true (fun K => B.call C (N 324) [v85, v86] h K) fun v87 h =>
  B.pick v83 v87 (.bool false) fun v88 =>
  Q v88 h))
@[simp] def zcr.cps (C : CSem) (N : Nat → Nat) (v0 v1 v2 v3 v4 : AVal) (h : za) (Q : AVal → za → Prop) : Prop :=
 zcr.k1 C N Q v0 v1 v2 v3 v4 h
def zcr.Imp (C : CSem) (N : Nat → Nat) : Prop := ∀ (v0 v1 v2 v3 v4 : AVal) (h : za) (Q : AVal → za → Prop), zcr.cps C N v0 v1 v2 v3 v4 h (dn Q) → C (N 325) [v0, v1, v2, v3, v4] h Q
@[simp] def zta.k1 (C : CSem) (N : Nat → Nat) (Q : AVal → za → Prop) (Y1 : List AVal → za → Prop) (v1 v2 v7 v8 : AVal) (h : za) : Prop :=
 B.pv (V.zcj v1) fun v14 =>
  B.pv (V.bin .lss v8 v14) fun v15 =>
  B.cond v15
  (B.pv (V.idxS 2 v1 v8) fun v21 =>
  B.pv (V.fieldAddr 0 v21) fun v22 =>
  B.ld h v22 fun v23 =>
  B.pv (V.idxS 2 v1 v8) fun v27 =>
  B.pv (V.fieldAddr 1 v27) fun v28 =>
  B.ld h v28 fun v29 =>
  B.pv (A.bld [(0, none, v23), (1, none, v2), (2, none, v29)] [.str [], .int .i64 0, .int .i64 0]) fun v30 =>
  B.newO h (zfu [(0, some 3, v30)] (repL 1 [.str [], .int .i64 0, .int .i64 0])) fun i31 h =>
  B.appW h 3 32 v7 (.sl i31 0 0 1 3 1) fun v32 h =>
  B.pv (V.bin .add v8 (.int .i64 1)) fun v17 =>
  Y1 [v32, v17] h)
  (Q v7 h)
@[simp] def zta.l2 (C : CSem) (N : Nat → Nat) (Q : AVal → za → Prop) (v1 v2 : AVal) : List AVal → za → (List AVal → za → Prop) → Prop
 | [v7, v8], h, Y1 => zta.k1 C N Q Y1 v1 v2 v7 v8 h
 | _, _, _ => False
@[simp] def z6.k1 (C : CSem) (N : Nat → Nat) (Q : AVal → za → Prop) (v0 v1 v2 v4 v11 v14 : AVal) (h : za) : Prop :=
 B.gd h v14 true (fun K => K v11 h) fun v83 h =>
  B.gd h v14 true (fun K => K v4 h) fun v84 h =>
  B.gd h v14 true (fun K => B.pv (V.bin .leq v83 v84) fun v => K v h) fun v85 h =>
  B.pick v14 v85 (.bool false) fun v86 =>
  B.gd h v86 true (fun K => K v0 h) fun v88 h =>
  B.gd h v86 true (fun K => K v1 h) fun v89 h =>
  B.gd h v86 true (fun K => K v2 h) fun v90 h =>
  B.gd h v86 true (fun K => K v11 h) fun v91 h =>
  B.gd h v86 true (fun K => B.call C (N 326) [v89, v90, v91] h K) fun v92 h =>
  B.gd h v86 true (fun K => B.call C (N 215) [v88, v92] h K) fun v93 h =>
  B.pick v86 v93 (.bool false) fun v94 =>
  Q v94 h
@[simp] def z6.k2 (C : CSem) (N : Nat → Nat) (Q : AVal → za → Prop) (Y1 : List AVal → za → Prop) (v0 v1 v2 v4 v11 v14 v15 : AVal) (h : za) : Prop :=
 B.pv (V.zcj v0) fun v66 =>
  B.pv (V.bin .lss v15 v66) fun v67 =>
  B.cond v67
  (B.gd h v14 false (fun K => K v0 h) fun v72 h =>
  B.gd h v14 false (fun K => K v15 h) fun v73 h =>
  B.gd h v14 false (fun K => B.pv (V.idxS 6 v72 v73) fun v => K v h) fun v74 h =>
  B.gd h v14 false (fun K => B.pv (V.fieldAddr 2 v74) fun v => K v h) fun v75 h =>
  B.gd h v14 false (fun K => B.pv (V.fieldAddr 0 v75) fun v => K v h) fun v76 h =>
  B.gd h v14 false (fun K => B.ld h v76 fun v => K v h) fun v77 h =>
  B.gd h v14 false (fun K => K v11 h) fun v78 h =>
  B.gd h v14 false (fun K => B.pv (V.bin .eql v77 v78) fun v => K v h) fun v79 h =>
  B.pick v14 (.bool true) v79 fun v80 =>
  B.pv (V.bin .add v15 (.int .i64 1)) fun v69 =>
  Y1 [v80, v69] h)
  (z6.k1 C N Q v0 v1 v2 v4 v11 v14 h)
@[simp] def z6.l3 (C : CSem) (N : Nat → Nat) (Q : AVal → za → Prop) (v0 v1 v2 v4 v11 : AVal) : List AVal → za → (List AVal → za → Prop) → Prop
 | [v14, v15], h, Y1 => z6.k2 C N Q Y1 v0 v1 v2 v4 v11 v14 v15 h
 | _, _, _ => False
@[simp] def z6.k4 (C : CSem) (N : Nat → Nat) (Q : AVal → za → Prop) (v0 v1 v2 v3 v4 v11 v12 : AVal) (h : za) : Prop :=
 B.pv (V.un .not v12) fun v60 =>
  B.cond v60
  (Q (.bool true) h)
  (B.pv (V.bin .eql v11 v3) fun v63 =>
  zm (z6.l3 C N Q v0 v1 v2 v4 v11) [v63, (.int .i64 0)] h)
@[simp] def z6.k5 (C : CSem) (N : Nat → Nat) (Q : AVal → za → Prop) (Y2 : List AVal → za → Prop) (v0 v1 v2 v3 v4 v11 v12 v13 : AVal) (h : za) : Prop :=
 B.pv (V.bin .lss v13 v11) fun v50 =>
  B.cond v50
  (B.call C (N 326) [v1, v2, v13] h fun v57 h =>
  B.call C (N 215) [v0, v57] h fun v58 h =>
  B.cond v58
  (Q (.bool false) h)
  (B.pv (V.bin .add v13 (.int .i64 1)) fun v52 =>
  Y2 [v52] h))
  (z6.k4 C N Q v0 v1 v2 v3 v4 v11 v12 h)
@[simp] def z6.l6 (C : CSem) (N : Nat → Nat) (Q : AVal → za → Prop) (v0 v1 v2 v3 v4 v11 v12 : AVal) : List AVal → za → (List AVal → za → Prop) → Prop
 | [v13], h, Y2 => z6.k5 C N Q Y2 v0 v1 v2 v3 v4 v11 v12 v13 h
 | _, _, _ => False
@[simp] def z6.k7 (C : CSem) (N : Nat → Nat) (Q : AVal → za → Prop) (v0 v1 v2 v3 v4 v11 v12 : AVal) (h : za) : Prop :=
 B.pv (V.un .not v12) fun v43 =>
  B.cond v43
  (B.pv (V.min2 v4 (.int .i64 4000)) fun v45 =>
  B.pv (V.bin .add v45 (.int .i64 1)) fun v46 =>
  zm (z6.l6 C N Q v0 v1 v2 v3 v4 v46 v12) [v3] h)
  (zm (z6.l6 C N Q v0 v1 v2 v3 v4 v11 v12) [v3] h)
@[simp] def z6.k8 (C : CSem) (N : Nat → Nat) (Q : AVal → za → Prop) (v0 v1 v2 v3 v4 : AVal) (h : za) : Prop :=
 B.call C (N 320) [v0, v1, v2, v3, v4] h fun v39 h =>
  B.pv (V.ext 0 v39) fun v40 =>
  B.pv (V.ext 1 v39) fun v41 =>
  z6.k7 C N Q v0 v1 v2 v3 v4 v40 v41 h
@[simp] def z6.k9 (C : CSem) (N : Nat → Nat) (Q : AVal → za → Prop) (v0 v1 v2 v3 v4 : AVal) (h : za) : Prop :=
 B.call C (N 318) [v0, v1, v2, v3, v4] h fun v23 h =>
  B.pv (V.un .not v23) fun v24 =>
  B.gd h v24 false (fun K => K v3 h) fun v26 h =>
  B.gd h v24 false (fun K => B.pv (V.bin .lss v26 (.int .i64 0)) fun v => K v h) fun v27 h =>
  B.pick v24 (.bool true) v27 fun v28 =>
  B.gd h v28 false (fun K => K v3 h) fun v30 h =>
  B.gd h v28 false (fun K => B.pv (V.bin .gtr v30 (.int .i64 4000)) fun v => K v h) fun v31 h =>
  B.pick v28 (.bool true) v31 fun v32 =>
  B.cond v32
  (Q (.bool true) h)
  (z6.k8 C N Q v0 v1 v2 v3 v4 h)
@[simp] def z6.cps (C : CSem) (N : Nat → Nat) (v0 v1 v2 v3 v4 : AVal) (h : za) (Q : AVal → za → Prop) : Prop :=
 B.call C (N 317) [] h fun v16 h =>
  B.pv (V.un .not v16) fun v17 =>
  B.cond v17
  (Q (.bool false) h)
  (z6.k9 C N Q v0 v1 v2 v3 v4 h)
@[simp] def zei.k1 (C : CSem) (N : Nat → Nat) (Q : AVal → za → Prop) (h : za) : Prop :=
 B.pv (A.bld [(0, none, (.int .i64 0)), (1, none, (.int .i64 5))] [.int .i64 0, .int .i64 0]) fun v1 =>
  B.pv (A.bld [(0, none, (.int .i64 1)), (1, none, (.str [65])), (2, some 2, v1), (4, none, (.int .i64 3))] [.int .i64 0, .str [], .int .i64 0, .int .i64 0, .int .i64 0, .bool false]) fun v2 =>
  B.pv (A.bld [(0, none, (.int .i64 7)), (1, none, (.int .i64 9))] [.int .i64 0, .int .i64 0]) fun v3 =>
  B.pv (A.bld [(0, none, (.int .i64 2)), (1, none, (.str [65])), (2, some 2, v3), (4, none, (.int .i64 4))] [.int .i64 0, .str [], .int .i64 0, .int .i64 0, .int .i64 0, .bool false]) fun v4 =>
  B.newO h (zfu [(0, some 6, v2), (6, some 6, v4)] (repL 2 [.int .i64 0, .str [], .int .i64 0, .int .i64 0, .int .i64 0, .bool false])) fun i5 h =>
  Q (.sl i5 0 0 2 6 2) h
@[simp] def zei.cps (C : CSem) (N : Nat → Nat) (h : za) (Q : AVal → za → Prop) : Prop :=
 zei.k1 C N Q h
def zei.Imp (C : CSem) (N : Nat → Nat) : Prop := ∀ (h : za) (Q : AVal → za → Prop), zei.cps C N h (dn Q) → C (N 329) [] h Q
end Go.Ab
namespace Go.Ab
@[simp] def zdk.k1 (C : CSem) (N : Nat → Nat) (Q : AVal → za → Prop) (Z1 : Nat → za → Prop) (v10 v11 v20 v21 : AVal) (h : za) : Prop :=
 B.pv (V.setN 0 2 v20 (.agg [.int .i64 0, .int .i64 0])) fun c12 =>
  B.cond v21
  (B.al c12 (B.pv (V.zbu 0 c12) fun v24 =>
  B.st h v10 v24 fun h =>
  B.st h v11 (.bool true) fun h =>
  Z1 1 h))
  (Z1 0 h)
@[simp] def zdk.r2 (C : CSem) (N : Nat → Nat) (Q : AVal → za → Prop) (v10 v11 : AVal) (v20 v21 : AVal) (h : za) (Z1 : Nat → za → Prop) : Prop :=
 zdk.k1 C N Q Z1 v10 v11 v20 v21 h
@[simp] def zdk.k3 (C : CSem) (N : Nat → Nat) (Q : AVal → za → Prop) (v0 v1 v2 v3 v4 v10 v11 : AVal) (h : za) : Prop :=
 B.call C (N 330) [v0, v1, v2, v3, v4] h fun v19 h =>
  zow C v19 (W2 fun v20 v21 h Z1 => zdk.r2 C N Q v10 v11 v20 v21 h Z1) h (RK [(0, fun h => B.st h v10 (.int .i64 0) fun h =>
  B.st h v11 (.bool false) fun h =>
  B.pv (oneOf (zfe (A.ldv h v10) (zfe (A.ldv h v11) (some [])))) fun v => Q v h), (1, fun h => B.pv (oneOf (zfe (A.ldv h v10) (zfe (A.ldv h v11) (some [])))) fun v => Q v h)])
@[simp] def zdk.cps (C : CSem) (N : Nat → Nat) (v0 v1 v2 v3 v4 : AVal) (h : za) (Q : AVal → za → Prop) : Prop :=
 B.newO h (some [.int .i64 0]) fun i10 h =>
  B.newO h (some [.bool false]) fun i11 h =>
  zdk.k3 C N Q v0 v1 v2 v3 v4 (.ptr i10 0 0) (.ptr i11 0 0) h
def zdk.Imp (C : CSem) (N : Nat → Nat) : Prop := ∀ (v0 v1 v2 v3 v4 : AVal) (h : za) (Q : AVal → za → Prop), zdk.cps C N v0 v1 v2 v3 v4 h (dn Q) → C (N 320) [v0, v1, v2, v3, v4] h Q
@[simp] def zc2.k1 (C : CSem) (N : Nat → Nat) (Q : AVal → za → Prop) (Z1 : Nat → za → Prop) (v11 v20 v21 : AVal) (h : za) : Prop :=
 B.pv (V.setN 0 2 v20 (.agg [.int .i64 0, .int .i64 0])) fun c12 =>
  B.cond v21
  (B.ld h v11 fun v23 =>
  B.pv (V.zen 0 2 c12) fun v24 =>
  B.newO h (zfu [(0, some 2, v24)] (repL 1 [.int .i64 0, .int .i64 0])) fun i25 h =>
  B.appW h 2 16 v23 (.sl i25 0 0 1 2 1) fun v26 h =>
  B.st h v11 v26 fun h =>
  Z1 0 h)
  (Z1 0 h)
@[simp] def zc2.r2 (C : CSem) (N : Nat → Nat) (Q : AVal → za → Prop) (v11 : AVal) (v20 v21 : AVal) (h : za) (Z1 : Nat → za → Prop) : Prop :=
 zc2.k1 C N Q Z1 v11 v20 v21 h
@[simp] def zc2.k3 (C : CSem) (N : Nat → Nat) (Q : AVal → za → Prop) (v0 v1 v2 v3 v4 v11 : AVal) (h : za) : Prop :=
 B.call C (N 330) [v0, v1, v2, v3, v4] h fun v19 h =>
  zow C v19 (W2 fun v20 v21 h Z1 => zc2.r2 C N Q v11 v20 v21 h Z1) h (RK [(0, fun h => B.ld h v11 fun v27 =>
  B.call C (N 10) [v27] h fun v28 h =>
  Q v28 h)])
@[simp] def zc2.cps (C : CSem) (N : Nat → Nat) (v0 v1 v2 v3 v4 : AVal) (h : za) (Q : AVal → za → Prop) : Prop :=
 B.newO h (some [.nils]) fun i11 h =>
  zc2.k3 C N Q v0 v1 v2 v3 v4 (.ptr i11 0 0) h
def zc2.Imp (C : CSem) (N : Nat → Nat) : Prop := ∀ (v0 v1 v2 v3 v4 : AVal) (h : za) (Q : AVal → za → Prop), zc2.cps C N v0 v1 v2 v3 v4 h (dn Q) → C (N 322) [v0, v1, v2, v3, v4] h Q
@[simp] def zdp.k1 (C : CSem) (N : Nat → Nat) (Q : AVal → za → Prop) (v0 v1 v2 v3 v4 : AVal) (h : za) : Prop :=
 B.newO h (A.zh8 v0) fun i5 h =>
  B.newO h (A.zh8 v1) fun i6 h =>
  B.newO h (A.zh8 v2) fun i7 h =>
  B.newO h (A.zh8 v3) fun i8 h =>
  B.newO h (A.zh8 v4) fun i9 h =>
  Q (.fn (N 332) [] [(.ptr i8 0 0), (.ptr i9 0 0), (.ptr i5 0 0), (.ptr i6 0 0), (.ptr i7 0 0)]) h
@[simp] def zdp.cps (C : CSem) (N : Nat → Nat) (v0 v1 v2 v3 v4 : AVal) (h : za) (Q : AVal → za → Prop) : Prop :=
 zdp.k1 C N Q v0 v1 v2 v3 v4 h
def zdp.Imp (C : CSem) (N : Nat → Nat) : Prop := ∀ (v0 v1 v2 v3 v4 : AVal) (h : za) (Q : AVal → za → Prop), zdp.cps C N v0 v1 v2 v3 v4 h (dn Q) → C (N 330) [v0, v1, v2, v3, v4] h Q
@[simp] def zbo.k1 (C : CSem) (N : Nat → Nat) (Q : AVal → za → Prop) (Z1 : Nat → za → Prop) (v3 v4 v5 v6 v22 v23 : AVal) (h : za) : Prop :=
 B.ld h v6 fun v24 =>
  B.pv (A.bld [(0, none, v22), (1, none, v23)] [.int .i64 0, .int .i64 0]) fun v27 =>
  B.ld h v3 fun v28 =>
  B.ld h v4 fun v29 =>
  B.ld h v5 fun v30 =>
  B.call C (N 333) [v28, v29, v30, v22] h (B.zso h [(v6, none)] (fun v32 h => B.zjc h C v24 [v27, v32] fun v33 h =>
  B.pv (V.un .not v33) fun v34 =>
  B.cond v34
  (Z1 1 h)
  (Z1 0 h)))
@[simp] def zbo.r2 (C : CSem) (N : Nat → Nat) (Q : AVal → za → Prop) (v3 v4 v5 v6 : AVal) (v22 v23 : AVal) (h : za) (Z1 : Nat → za → Prop) : Prop :=
 zbo.k1 C N Q Z1 v3 v4 v5 v6 v22 v23 h
@[simp] def zbo.k3 (C : CSem) (N : Nat → Nat) (Q : AVal → za → Prop) (v3 v4 v5 v6 v7 v8 : AVal) (h : za) : Prop :=
 B.ld h v3 fun v20 =>
  B.call C (N 334) [v7, v8, v20] h fun v21 h =>
  zow C v21 (W2 fun v22 v23 h Z1 => zbo.r2 C N Q v3 v4 v5 v6 v22 v23 h Z1) h (RK [(0, fun h => Q (.tup []) h), (1, fun h => Q (.tup []) h)])
@[simp] def zbo.k4 (C : CSem) (N : Nat → Nat) (Q : AVal → za → Prop) (v1 v2 v3 v4 v5 v6 : AVal) (h : za) : Prop :=
 B.ld h v1 fun v11 =>
  B.pv (V.max2 v11 (.int .i64 0)) fun v12 =>
  B.ld h v2 fun v13 =>
  B.pv (V.min2 v13 (.int .i64 4000)) fun v14 =>
  B.pv (V.bin .gtr v12 v14) fun v17 =>
  B.cond v17
  (Q (.tup []) h)
  (zbo.k3 C N Q v3 v4 v5 v6 v12 v14 h)
@[simp] def zbo.cps (C : CSem) (N : Nat → Nat) (v0 v1 v2 v3 v4 v5 : AVal) (h : za) (Q : AVal → za → Prop) : Prop :=
 B.newO h (A.zh8 v0) fun i6 h =>
  zbo.k4 C N Q v1 v2 v3 v4 v5 (.ptr i6 0 0) h
def zbo.Imp (C : CSem) (N : Nat → Nat) : Prop := ∀ (v0 v1 v2 v3 v4 v5 : AVal) (h : za) (Q : AVal → za → Prop), zbo.cps C N v0 v1 v2 v3 v4 v5 h (dn Q) → C (N 332) [v0, v1, v2, v3, v4, v5] h Q
@[simp] def zdq.k1 (C : CSem) (N : Nat → Nat) (Q : AVal → za → Prop) (Y1 : List AVal → za → Prop) (v0 v3 v9 v14 v15 v16 : AVal) (h : za) : Prop :=
 B.pv (V.bin .lss v16 v15) fun v17 =>
  B.cond v17
  (B.pv (V.idxS 2 v14 v16) fun v18 =>
  B.ldn h v18 2 fun v19 =>
  B.pv (V.setN 0 2 v19 (.agg [.str [], .int .i64 0])) fun c11 =>
  B.al c11 (B.pv (V.zbu 0 c11) fun v22 =>
  B.al c11 (B.pv (V.zbu 1 c11) fun v25 =>
  B.pv (A.bld [(0, none, v22), (1, none, v3), (2, none, v25)] [.str [], .int .i64 0, .int .i64 0]) fun v26 =>
  B.newO h (zfu [(0, some 3, v26)] (repL 1 [.str [], .int .i64 0, .int .i64 0])) fun i27 h =>
  B.appW h 3 32 v9 (.sl i27 0 0 1 3 1) fun v28 h =>
  B.pv (V.bin .add v16 (.int .i64 1)) fun v29 =>
  Y1 [v28, v29] h)))
  (B.call C (N 215) [v0, v9] h fun v32 h =>
  Q v32 h)
@[simp] def zdq.l2 (C : CSem) (N : Nat → Nat) (Q : AVal → za → Prop) (v0 v3 v14 v15 : AVal) : List AVal → za → (List AVal → za → Prop) → Prop
 | [v9, v16], h, Y1 => zdq.k1 C N Q Y1 v0 v3 v9 v14 v15 v16 h
 | _, _, _ => False
@[simp] def zdq.cps (C : CSem) (N : Nat → Nat) (v0 v1 v2 v3 : AVal) (h : za) (Q : AVal → za → Prop) : Prop :=
 B.call C (N 338) [v1] h fun v13 h =>
  B.pv (V.zcj v2) fun v15 =>
  zm (zdq.l2 C N Q v0 v3 v2 v15) [v13, (.int .i64 0)] h
def zdq.Imp (C : CSem) (N : Nat → Nat) : Prop := ∀ (v0 v1 v2 v3 : AVal) (h : za) (Q : AVal → za → Prop), zdq.cps C N v0 v1 v2 v3 h (dn Q) → C (N 333) [v0, v1, v2, v3] h Q
@[simp] def zcp.k1 (C : CSem) (N : Nat → Nat) (Q : AVal → za → Prop) (v7 : AVal) (h : za) : Prop :=
 B.ld h v7 fun v41 =>
  B.call C (N 335) [v41] h fun v42 h =>
  B.ld h v7 fun v43 =>
  B.call C (N 336) [v43] h fun v44 h =>
  B.st h v7 v44 fun h =>
  Q (.fn (N 337) [] [v7]) h
@[simp] def zcp.k2 (C : CSem) (N : Nat → Nat) (Q : AVal → za → Prop) (Y1 : List AVal → za → Prop) (v0 v1 v7 v16 v17 v18 : AVal) (h : za) : Prop :=
 B.pv (V.bin .lss v18 v17) fun v19 =>
  B.cond v19
  (B.pv (V.idxS 6 v16 v18) fun v20 =>
  B.ldn h v20 6 fun v21 =>
  B.pv (V.setN 0 6 v21 (.agg [.int .i64 0, .str [], .int .i64 0, .int .i64 0, .int .i64 0, .bool false])) fun c9 =>
  B.al c9 (B.pv (V.zen 2 2 c9) fun v24 =>
  B.pv (V.bin .add v1 (.int .i64 1)) fun v27 =>
  B.pv (A.bld [(0, none, v0), (1, none, v27)] [.int .i64 0, .int .i64 0]) fun v28 =>
  B.call C (N 1) [v24, v28] h fun v29 h =>
  B.pv (V.ext 0 v29) fun v30 =>
  B.pv (V.ext 1 v29) fun v31 =>
  B.pv (V.setN 0 2 v30 (.agg [.int .i64 0, .int .i64 0])) fun c10 =>
  B.cond v31
  (B.ld h v7 fun v33 =>
  B.al c10 (B.pv (V.zbu 0 c10) fun v35 =>
  B.al c10 (B.pv (V.zbu 1 c10) fun v37 =>
  B.newO h (zfu [(0, none, v35), (1, none, v37)] (repL 2 [.int .i64 0])) fun i38 h =>
  B.appW h 1 8 v33 (.sl i38 0 0 2 1 2) fun v39 h =>
  B.st h v7 v39 fun h =>
  B.pv (V.bin .add v18 (.int .i64 1)) fun v40 =>
  Y1 [v40] h)))
  (B.pv (V.bin .add v18 (.int .i64 1)) fun v40 =>
  Y1 [v40] h)))
  (zcp.k1 C N Q v7 h)
@[simp] def zcp.l3 (C : CSem) (N : Nat → Nat) (Q : AVal → za → Prop) (v0 v1 v7 v16 v17 : AVal) : List AVal → za → (List AVal → za → Prop) → Prop
 | [v18], h, Y1 => zcp.k2 C N Q Y1 v0 v1 v7 v16 v17 v18 h
 | _, _, _ => False
@[simp] def zcp.k4 (C : CSem) (N : Nat → Nat) (Q : AVal → za → Prop) (v0 v1 v2 : AVal) (h : za) : Prop :=
 B.pv (V.bin .add v1 (.int .i64 1)) fun v14 =>
  B.newO h (zfu [(0, none, v0), (1, none, v14)] (repL 2 [.int .i64 0])) fun i15 h =>
  B.newO h (some [.nils]) fun i7 h =>
  B.st h (.ptr i7 0 0) (.sl i15 0 0 2 1 2) fun h =>
  B.pv (V.zcj v2) fun v17 =>
  zm (zcp.l3 C N Q v0 v1 (.ptr i7 0 0) v2 v17) [(.int .i64 0)] h
@[simp] def zcp.cps (C : CSem) (N : Nat → Nat) (v0 v1 v2 : AVal) (h : za) (Q : AVal → za → Prop) : Prop :=
 zcp.k4 C N Q v0 v1 v2 h
def zcp.Imp (C : CSem) (N : Nat → Nat) : Prop := ∀ (v0 v1 v2 : AVal) (h : za) (Q : AVal → za → Prop), zcp.cps C N v0 v1 v2 h (dn Q) → C (N 334) [v0, v1, v2] h Q
@[simp] def zci.k1 (C : CSem) (N : Nat → Nat) (Q : AVal → za → Prop) (Y1 : List AVal → za → Prop) (v0 v1 v6 v7 : AVal) (h : za) : Prop :=
 B.pv (V.bin .lss v7 v6) fun v8 =>
  B.cond v8
  (B.ld h v1 fun v11 =>
  B.pv (V.idxS 1 v11 v7) fun v13 =>
  B.ld h v13 fun v14 =>
  B.ld h v1 fun v15 =>
  B.pv (V.bin .add v7 (.int .i64 1)) fun v17 =>
  B.pv (V.idxS 1 v15 v17) fun v18 =>
  B.ld h v18 fun v19 =>
  B.zjc h C v0 [v14, v19] fun v20 h =>
  B.pv (V.un .not v20) fun v21 =>
  B.cond v21
  (Q (.tup []) h)
  (B.pv (V.bin .add v7 (.int .i64 1)) fun v22 =>
  Y1 [v22] h))
  (Q (.tup []) h)
@[simp] def zci.l2 (C : CSem) (N : Nat → Nat) (Q : AVal → za → Prop) (v0 v1 v6 : AVal) : List AVal → za → (List AVal → za → Prop) → Prop
 | [v7], h, Y1 => zci.k1 C N Q Y1 v0 v1 v6 v7 h
 | _, _, _ => False
@[simp] def zci.k3 (C : CSem) (N : Nat → Nat) (Q : AVal → za → Prop) (v0 v1 : AVal) (h : za) : Prop :=
 B.ld h v1 fun v4 =>
  B.pv (V.zcj v4) fun v5 =>
  B.pv (V.bin .sub v5 (.int .i64 1)) fun v6 =>
  zm (zci.l2 C N Q v0 v1 v6) [(.int .i64 0)] h
@[simp] def zci.cps (C : CSem) (N : Nat → Nat) (v0 v1 : AVal) (h : za) (Q : AVal → za → Prop) : Prop :=
 zci.k3 C N Q v0 v1 h
def zci.Imp (C : CSem) (N : Nat → Nat) : Prop := ∀ (v0 v1 : AVal) (h : za) (Q : AVal → za → Prop), zci.cps C N v0 v1 h (dn Q) → C (N 337) [v0, v1] h Q
end Go.Ab
namespace Go.Ab
@[simp] def zet.k1 (C : CSem) (N : Nat → Nat) (Q : AVal → za → Prop) (v0 : AVal) (h : za) : Prop :=
 B.pv (A.boxN 6 v0) fun c1 =>
  B.al c1 (B.pv (V.zbu 0 c1) fun v4 =>
  B.pv (V.bin .gtr v4 (.int .i64 0)) fun v5 =>
  B.al c1 (B.gd h v5 true (fun K => K .undef h) fun _ h =>
  B.gd h v5 true (fun K => B.pv (V.zbu 1 c1) fun v => K v h) fun v8 h =>
  B.gd h v5 true (fun K => B.call C (N 53) [v8] h K) fun v9 h =>
  B.pick v5 v9 (.bool false) fun v10 =>
  B.al c1 (B.gd h v10 true (fun K => K .undef h) fun _ h =>
  B.gd h v10 true (fun K => B.pv (V.zen 2 2 c1) fun v => K v h) fun v13 h =>
  B.gd h v10 true (fun K => B.call C (N 5) [v13] h K) fun v14 h =>
  B.pick v10 v14 (.bool false) fun v15 =>
  B.al c1 (B.gd h v15 true (fun K => K .undef h) fun _ h =>
  B.al c1 (B.gd h v15 true (fun K => K .undef h) fun _ h =>
  B.gd h v15 true (fun K => B.pv (V.zbu 2 c1) fun v => K v h) fun v19 h =>
  B.al c1 (B.gd h v15 true (fun K => K .undef h) fun _ h =>
  B.al c1 (B.gd h v15 true (fun K => K .undef h) fun _ h =>
  B.gd h v15 true (fun K => B.pv (V.zbu 3 c1) fun v => K v h) fun v22 h =>
  B.gd h v15 true (fun K => B.pv (V.bin .lss v19 v22) fun v => K v h) fun v23 h =>
  B.pick v15 v23 (.bool false) fun v24 =>
  B.al c1 (B.gd h v24 true (fun K => K .undef h) fun _ h =>
  B.gd h v24 true (fun K => B.pv (V.zbu 4 c1) fun v => K v h) fun v27 h =>
  B.gd h v24 true (fun K => B.pv (V.bin .gtr v27 (.int .i64 0)) fun v => K v h) fun v28 h =>
  B.pick v24 v28 (.bool false) fun v29 =>
  B.al c1 (B.gd h v29 true (fun K => K .undef h) fun _ h =>
  B.gd h v29 true (fun K => B.pv (V.zbu 4 c1) fun v => K v h) fun v32 h =>
  B.gd h v29 true (fun K => B.pv (V.bin .leq v32 (.int .i64 1073741824)) fun v => K v h) fun v33 h =>
  B.pick v29 v33 (.bool false) fun v34 =>
  Q v34 h)))))))))
@[simp] def zet.cps (C : CSem) (N : Nat → Nat) (v0 : AVal) (h : za) (Q : AVal → za → Prop) : Prop :=
 zet.k1 C N Q v0 h
def zet.Imp (C : CSem) (N : Nat → Nat) : Prop := ∀ (v0 : AVal) (h : za) (Q : AVal → za → Prop), zet.cps C N v0 h (dn Q) → C (N 52) [v0] h Q
@[simp] def zd8.k1 (C : CSem) (N : Nat → Nat) (Q : AVal → za → Prop) (v0 v1 : AVal) (h : za) : Prop :=
 B.pv (A.boxN 6 v0) fun c2 =>
  B.pv (A.boxN 6 v1) fun c3 =>
  B.al c2 (B.al c2 (B.pv (V.zbu 3 c2) fun v7 =>
  B.al c3 (B.al c3 (B.pv (V.zbu 3 c3) fun v10 =>
  B.al c2 (B.pv (V.zbu 0 c2) fun v13 =>
  B.al c3 (B.pv (V.zbu 0 c3) fun v15 =>
  B.call C (N 157) [v7, v10] h fun v11 h =>
  B.call C (N 157) [v13, v15] h fun v16 h =>
  B.newO h (zfu [(0, none, v11), (1, none, v16)] (repL 2 [.int .i64 0])) fun i17 h =>
  B.call C (N 158) [(.sl i17 0 0 2 1 2)] h fun v18 h =>
  Q v18 h))))))
@[simp] def zd8.cps (C : CSem) (N : Nat → Nat) (v0 v1 : AVal) (h : za) (Q : AVal → za → Prop) : Prop :=
 zd8.k1 C N Q v0 v1 h
def zd8.Imp (C : CSem) (N : Nat → Nat) : Prop := ∀ (v0 v1 : AVal) (h : za) (Q : AVal → za → Prop), zd8.cps C N v0 v1 h (dn Q) → C (N 144) [v0, v1] h Q
@[simp] def zfj.cps (C : CSem) (N : Nat → Nat) (v0 : AVal) (h : za) (Q : AVal → za → Prop) : Prop :=
 B.call C (N 160) [v0] h fun v5 h =>
  B.call C (N 161) [v5, (.fn (N 144) [] [])] h fun v7 h =>
  Q v5 h
def zfj.Imp (C : CSem) (N : Nat → Nat) : Prop := ∀ (v0 : AVal) (h : za) (Q : AVal → za → Prop), zfj.cps C N v0 h (dn Q) → C (N 149) [v0] h Q
end Go.Ab
namespace Go.Ab
@[simp] def zdi.k1 (C : CSem) (N : Nat → Nat) (Q : AVal → za → Prop) (v0 : AVal) (h : za) : Prop :=
 B.cond (.bool false)
  (B.pv (V.toInt .u32 v0) fun v4 =>
  B.call C (N 304) [v4] h fun v5 h =>
  Q v5 h)
  (B.call C (N 305) [v0] h fun v7 h =>
  Q v7 h)
@[simp] def zdi.cps (C : CSem) (N : Nat → Nat) (v0 : AVal) (h : za) (Q : AVal → za → Prop) : Prop :=
 zdi.k1 C N Q v0 h
def zdi.Imp (C : CSem) (N : Nat → Nat) : Prop := ∀ (v0 : AVal) (h : za) (Q : AVal → za → Prop), zdi.cps C N v0 h (dn Q) → C (N 287) [v0] h Q
@[simp] def zbe.k1 (C : CSem) (N : Nat → Nat) (Q : AVal → za → Prop) (v0 v2 : AVal) (h : za) : Prop :=
 B.pv (V.toInt .u8 v0) fun v21 =>
  B.pv (V.zij (.str [0, 1, 2, 2, 3, 3, 3, 3, 4, 4, 4, 4, 4, 4, 4, 4, 5, 5, 5, 5, 5, 5, 5, 5, 5, 5, 5, 5, 5, 5, 5, 5, 6, 6, 6, 6, 6, 6, 6, 6, 6, 6, 6, 6, 6, 6, 6, 6, 6, 6, 6, 6, 6, 6, 6, 6, 6, 6, 6, 6, 6, 6, 6, 6, 7, 7, 7, 7, 7, 7, 7, 7, 7, 7, 7, 7, 7, 7, 7, 7, 7, 7, 7, 7, 7, 7, 7, 7, 7, 7, 7, 7, 7, 7, 7, 7, 7, 7, 7, 7, 7, 7, 7, 7, 7, 7, 7, 7, 7, 7, 7, 7, 7, 7, 7, 7, 7, 7, 7, 7, 7, 7, 7, 7, 7, 7, 7, 7, 8, 8, 8, 8, 8, 8, 8, 8, 8, 8, 8, 8, 8, 8, 8, 8, 8, 8, 8, 8, 8, 8, 8, 8, 8, 8, 8, 8, 8, 8, 8, 8, 8, 8, 8, 8, 8, 8, 8, 8, 8, 8, 8, 8, 8, 8, 8, 8, 8, 8, 8, 8, 8, 8, 8, 8, 8, 8, 8, 8, 8, 8, 8, 8, 8, 8, 8, 8, 8, 8, 8, 8, 8, 8, 8, 8, 8, 8, 8, 8, 8, 8, 8, 8, 8, 8, 8, 8, 8, 8, 8, 8, 8, 8, 8, 8, 8, 8, 8, 8, 8, 8, 8, 8, 8, 8, 8, 8, 8, 8, 8, 8, 8, 8, 8, 8, 8, 8, 8, 8, 8, 8, 8, 8, 8, 8, 8, 8]) v21) fun v22 =>
  B.pv (V.toInt .i64 v22) fun v23 =>
  B.pv (V.bin .add v2 v23) fun v24 =>
  Q v24 h
@[simp] def zbe.k2 (C : CSem) (N : Nat → Nat) (Q : AVal → za → Prop) (v0 v2 : AVal) (h : za) : Prop :=
 B.pv (V.bin .geq v0 (.int .u64 256)) fun v14 =>
  B.cond v14
  (B.pv (V.bin .shr v0 (.int .u64 8)) fun v16 =>
  B.pv (V.bin .add v2 (.int .i64 8)) fun v18 =>
  zbe.k1 C N Q v16 v18 h)
  (zbe.k1 C N Q v0 v2 h)
@[simp] def zbe.k3 (C : CSem) (N : Nat → Nat) (Q : AVal → za → Prop) (v0 v2 : AVal) (h : za) : Prop :=
 B.pv (V.bin .geq v0 (.int .u64 65536)) fun v8 =>
  B.cond v8
  (B.pv (V.bin .shr v0 (.int .u64 16)) fun v10 =>
  B.pv (V.bin .add v2 (.int .i64 16)) fun v12 =>
  zbe.k2 C N Q v10 v12 h)
  (zbe.k2 C N Q v0 v2 h)
@[simp] def zbe.k4 (C : CSem) (N : Nat → Nat) (Q : AVal → za → Prop) (v0 v2 : AVal) (h : za) : Prop :=
 B.pv (V.bin .geq v0 (.int .u64 4294967296)) fun v4 =>
  B.cond v4
  (B.pv (V.bin .shr v0 (.int .u64 32)) fun v6 =>
  zbe.k3 C N Q v6 (.int .i64 32) h)
  (zbe.k3 C N Q v0 v2 h)
@[simp] def zbe.cps (C : CSem) (N : Nat → Nat) (v0 : AVal) (h : za) (Q : AVal → za → Prop) : Prop :=
 zbe.k4 C N Q v0 (.int .i64 0) h
def zbe.Imp (C : CSem) (N : Nat → Nat) : Prop := ∀ (v0 : AVal) (h : za) (Q : AVal → za → Prop), zbe.cps C N v0 h (dn Q) → C (N 305) [v0] h Q
end Go.Ab
namespace Go.Ab
@[simp] def zd7.k1 (C : CSem) (N : Nat → Nat) (Q : AVal → za → Prop) (v0 : AVal) (h : za) : Prop :=
 B.pv (A.boxN 2 v0) fun c1 =>
  B.al c1 (B.pv (V.zbu 0 c1) fun v4 =>
  B.pv (V.bin .geq v4 (.int .i64 0)) fun v5 =>
  B.al c1 (B.gd h v5 true (fun K => K .undef h) fun _ h =>
  B.gd h v5 true (fun K => B.pv (V.zbu 1 c1) fun v => K v h) fun v8 h =>
  B.al c1 (B.gd h v5 true (fun K => K .undef h) fun _ h =>
  B.gd h v5 true (fun K => B.pv (V.zbu 0 c1) fun v => K v h) fun v10 h =>
  B.gd h v5 true (fun K => B.pv (V.bin .geq v8 v10) fun v => K v h) fun v11 h =>
  B.pick v5 v11 (.bool false) fun v12 =>
  B.al c1 (B.gd h v12 true (fun K => K .undef h) fun _ h =>
  B.gd h v12 true (fun K => B.pv (V.zbu 1 c1) fun v => K v h) fun v15 h =>
  B.gd h v12 true (fun K => B.pv (V.bin .leq v15 (.int .i64 4001)) fun v => K v h) fun v16 h =>
  B.pick v12 v16 (.bool false) fun v17 =>
  Q v17 h))))
@[simp] def zd7.cps (C : CSem) (N : Nat → Nat) (v0 : AVal) (h : za) (Q : AVal → za → Prop) : Prop :=
 zd7.k1 C N Q v0 h
def zd7.Imp (C : CSem) (N : Nat → Nat) : Prop := ∀ (v0 : AVal) (h : za) (Q : AVal → za → Prop), zd7.cps C N v0 h (dn Q) → C (N 6) [v0] h Q
@[simp] def zes.k1 (C : CSem) (N : Nat → Nat) (Q : AVal → za → Prop) (v0 v1 : AVal) (h : za) : Prop :=
 B.pv (A.boxN 2 v0) fun c2 =>
  B.pv (V.zen 0 2 c2) fun v5 =>
  B.call C (N 6) [v5] h fun v6 h =>
  B.gd h v6 true (fun K => K v1 h) fun v8 h =>
  B.al c2 (B.gd h v6 true (fun K => K .undef h) fun _ h =>
  B.gd h v6 true (fun K => B.pv (V.zbu 0 c2) fun v => K v h) fun v10 h =>
  B.gd h v6 true (fun K => B.pv (V.bin .geq v8 v10) fun v => K v h) fun v11 h =>
  B.pick v6 v11 (.bool false) fun v12 =>
  B.gd h v12 true (fun K => K v1 h) fun v14 h =>
  B.al c2 (B.gd h v12 true (fun K => K .undef h) fun _ h =>
  B.gd h v12 true (fun K => B.pv (V.zbu 1 c2) fun v => K v h) fun v16 h =>
  B.gd h v12 true (fun K => B.pv (V.bin .lss v14 v16) fun v => K v h) fun v17 h =>
  B.pick v12 v17 (.bool false) fun v18 =>
  Q v18 h))
@[simp] def zes.cps (C : CSem) (N : Nat → Nat) (v0 v1 : AVal) (h : za) (Q : AVal → za → Prop) : Prop :=
 zes.k1 C N Q v0 v1 h
def zes.Imp (C : CSem) (N : Nat → Nat) : Prop := ∀ (v0 v1 : AVal) (h : za) (Q : AVal → za → Prop), zes.cps C N v0 v1 h (dn Q) → C (N 8) [v0, v1] h Q
@[simp] def zs0.k1 (C : CSem) (N : Nat → Nat) (Q : AVal → za → Prop) (Y1 : List AVal → za → Prop) (Y2 : List AVal → za → Prop) (v0 v3 v4 v5 : AVal) (h : za) : Prop :=
 B.pv (V.idxS 2 v0 v4) fun v27 =>
  B.pv (V.fieldAddr 1 v27) fun v28 =>
  B.ld h v28 fun v29 =>
  B.pv (V.bin .lss v5 v29) fun v30 =>
  B.cond v30
  (B.pv (V.idxS 1 v3 v5) fun v35 =>
  B.st h v35 (.bool true) fun h =>
  B.pv (V.bin .add v5 (.int .i64 1)) fun v32 =>
  Y2 [v32] h)
  (B.pv (V.bin .add v4 (.int .i64 1)) fun v12 =>
  Y1 [v12] h)
@[simp] def zs0.l2 (C : CSem) (N : Nat → Nat) (Q : AVal → za → Prop) (Y1 : List AVal → za → Prop) (v0 v3 v4 : AVal) : List AVal → za → (List AVal → za → Prop) → Prop
 | [v5], h, Y2 => zs0.k1 C N Q Y1 Y2 v0 v3 v4 v5 h
 | _, _, _ => False
@[simp] def zrd.k1 (C : CSem) (N : Nat → Nat) (Q : AVal → za → Prop) (Y1 : List AVal → za → Prop) (v3 v4 v5 : AVal) (h : za) : Prop :=
 B.pv (V.zcj v4) fun v10 =>
  B.pv (V.bin .lss v5 v10) fun v11 =>
  B.cond v11
  (B.pv (V.idxS 2 v4 v5) fun v17 =>
  B.pv (V.fieldAddr 1 v17) fun v18 =>
  B.ld h v18 fun v19 =>
  B.pv (V.bin .add v3 v19) fun v20 =>
  B.pv (V.idxS 2 v4 v5) fun v23 =>
  B.pv (V.fieldAddr 0 v23) fun v24 =>
  B.ld h v24 fun v25 =>
  B.pv (V.bin .sub v20 v25) fun v26 =>
  B.pv (V.bin .add v5 (.int .i64 1)) fun v13 =>
  Y1 [v26, v13] h)
  (Q v3 h)
@[simp] def zrd.l2 (C : CSem) (N : Nat → Nat) (Q : AVal → za → Prop) (v4 : AVal) : List AVal → za → (List AVal → za → Prop) → Prop
 | [v3, v5], h, Y1 => zrd.k1 C N Q Y1 v3 v4 v5 h
 | _, _, _ => False
@[simp] def zem.k1 (C : CSem) (N : Nat → Nat) (Q : AVal → za → Prop) (Y1 : List AVal → za → Prop) (v0 v3 v4 : AVal) (h : za) : Prop :=
 B.pv (V.zcj v0) fun v7 =>
  B.pv (V.bin .lss v4 v7) fun v8 =>
  B.cond v8
  (B.pv (V.idxS 1 v0 v4) fun v13 =>
  B.ld h v13 fun v14 =>
  B.pv (V.un .not v14) fun v15 =>
  B.cond v15
  (B.pv (V.bin .add v4 (.int .i64 1)) fun v10 =>
  Y1 [v3, v10] h)
  (B.pv (V.zcj v3) fun v17 =>
  B.pv (V.bin .gtr v17 (.int .i64 0)) fun v18 =>
  B.gd h v18 true (fun K => K v3 h) fun v20 h =>
  B.gd h v18 true (fun K => K v3 h) fun v21 h =>
  B.gd h v18 true (fun K => B.pv (V.zcj v21) fun v => K v h) fun v22 h =>
  B.gd h v18 true (fun K => B.pv (V.bin .sub v22 (.int .i64 1)) fun v => K v h) fun v23 h =>
  B.gd h v18 true (fun K => B.pv (V.idxS 2 v20 v23) fun v => K v h) fun v24 h =>
  B.gd h v18 true (fun K => B.pv (V.fieldAddr 1 v24) fun v => K v h) fun v25 h =>
  B.gd h v18 true (fun K => B.ld h v25 fun v => K v h) fun v26 h =>
  B.gd h v18 true (fun K => K v4 h) fun v27 h =>
  B.gd h v18 true (fun K => B.pv (V.bin .eql v26 v27) fun v => K v h) fun v28 h =>
  B.pick v18 v28 (.bool false) fun v29 =>
  B.cond v29
  (B.pv (V.zcj v3) fun v32 =>
  B.pv (V.bin .sub v32 (.int .i64 1)) fun v33 =>
  B.pv (V.bin .add v4 (.int .i64 1)) fun v35 =>
  B.pv (V.idxS 2 v3 v33) fun v36 =>
  B.pv (V.fieldAddr 1 v36) fun v37 =>
  B.st h v37 v35 fun h =>
  B.pv (V.bin .add v4 (.int .i64 1)) fun v10 =>
  Y1 [v3, v10] h)
  (B.pv (V.bin .add v4 (.int .i64 1)) fun v41 =>
  B.pv (A.bld [(0, none, v4), (1, none, v41)] [.int .i64 0, .int .i64 0]) fun v42 =>
  B.newO h (zfu [(0, some 2, v42)] (repL 1 [.int .i64 0, .int .i64 0])) fun i43 h =>
  B.appW h 2 16 v3 (.sl i43 0 0 1 2 1) fun v44 h =>
  B.pv (V.bin .add v4 (.int .i64 1)) fun v10 =>
  Y1 [v44, v10] h)))
  (Q v3 h)
@[simp] def zem.l2 (C : CSem) (N : Nat → Nat) (Q : AVal → za → Prop) (v0 : AVal) : List AVal → za → (List AVal → za → Prop) → Prop
 | [v3, v4], h, Y1 => zem.k1 C N Q Y1 v0 v3 v4 h
 | _, _, _ => False
@[simp] def zem.cps (C : CSem) (N : Nat → Nat) (v0 : AVal) (h : za) (Q : AVal → za → Prop) : Prop :=
 zm (zem.l2 C N Q v0) [.nils, (.int .i64 0)] h
def zem.Imp (C : CSem) (N : Nat → Nat) : Prop := ∀ (v0 : AVal) (h : za) (Q : AVal → za → Prop), zem.cps C N v0 h (dn Q) → C (N 19) [v0] h Q
end Go.Ab
namespace Go.Ab
@[simp] def zc1.k1 (C : CSem) (N : Nat → Nat) (Q : AVal → za → Prop) (Y1 : List AVal → za → Prop) (v0 v3 : AVal) (h : za) : Prop :=
 B.pv (V.zoc v0) fun v16 =>
  B.pv (V.bin .lss v3 v16) fun v17 =>
  B.cond v17
  (B.pv (V.zij v0 v3) fun v22 =>
  B.pv (V.bin .geq v22 (.int .u8 65)) fun v23 =>
  B.gd h v23 true (fun K => K v0 h) fun v25 h =>
  B.gd h v23 true (fun K => K v3 h) fun v26 h =>
  B.gd h v23 true (fun K => B.pv (V.zij v25 v26) fun v => K v h) fun v27 h =>
  B.gd h v23 true (fun K => B.pv (V.bin .leq v27 (.int .u8 90)) fun v => K v h) fun v28 h =>
  B.pick v23 v28 (.bool false) fun v29 =>
  B.pv (V.zij v0 v3) fun v32 =>
  B.pv (V.bin .geq v32 (.int .u8 48)) fun v33 =>
  B.gd h v33 true (fun K => K v0 h) fun v35 h =>
  B.gd h v33 true (fun K => K v3 h) fun v36 h =>
  B.gd h v33 true (fun K => B.pv (V.zij v35 v36) fun v => K v h) fun v37 h =>
  B.gd h v33 true (fun K => B.pv (V.bin .leq v37 (.int .u8 57)) fun v => K v h) fun v38 h =>
  B.pick v33 v38 (.bool false) fun v39 =>
  B.gd h v39 false (fun K => K v0 h) fun v41 h =>
  B.gd h v39 false (fun K => K v3 h) fun v42 h =>
  B.gd h v39 false (fun K => B.pv (V.zij v41 v42) fun v => K v h) fun v43 h =>
  B.gd h v39 false (fun K => B.pv (V.bin .eql v43 (.int .u8 45)) fun v => K v h) fun v44 h =>
  B.pick v39 (.bool true) v44 fun v45 =>
  B.pv (V.un .not v29) fun v47 =>
  B.gd h v47 true (fun K => K v3 h) fun v49 h =>
  B.gd h v47 true (fun K => B.pv (V.bin .eql v49 (.int .i64 0)) fun v => K v h) fun v50 h =>
  B.gd h v47 true (fun K => K v50 h) fun v51 h =>
  B.gd h v51 false (fun K => K v45 h) fun v52 h =>
  B.gd h v51 false (fun K => B.pv (V.un .not v52) fun v => K v h) fun v53 h =>
  B.gd h v47 true (fun K => B.pick v51 (.bool true) v53 fun v => K v h) fun v54 h =>
  B.pick v47 v54 (.bool false) fun v55 =>
  B.cond v55
  (Q (.bool false) h)
  (B.pv (V.bin .add v3 (.int .i64 1)) fun v19 =>
  Y1 [v19] h))
  (Q (.bool true) h)
@[simp] def zc1.l2 (C : CSem) (N : Nat → Nat) (Q : AVal → za → Prop) (v0 : AVal) : List AVal → za → (List AVal → za → Prop) → Prop
 | [v3], h, Y1 => zc1.k1 C N Q Y1 v0 v3 h
 | _, _, _ => False
@[simp] def zc1.k3 (C : CSem) (N : Nat → Nat) (Q : AVal → za → Prop) (v0 : AVal) (h : za) : Prop :=
 B.pv (V.zoc v0) fun v7 =>
  B.pv (V.bin .lss v7 (.int .i64 1)) fun v8 =>
  B.gd h v8 false (fun K => K v0 h) fun v10 h =>
  B.gd h v8 false (fun K => B.pv (V.zoc v10) fun v => K v h) fun v11 h =>
  B.gd h v8 false (fun K => B.pv (V.bin .gtr v11 (.int .i64 12)) fun v => K v h) fun v12 h =>
  B.pick v8 (.bool true) v12 fun v13 =>
  B.cond v13
  (Q (.bool false) h)
  (zm (zc1.l2 C N Q v0) [(.int .i64 0)] h)
@[simp] def zc1.cps (C : CSem) (N : Nat → Nat) (v0 : AVal) (h : za) (Q : AVal → za → Prop) : Prop :=
 zc1.k3 C N Q v0 h
def zc1.Imp (C : CSem) (N : Nat → Nat) : Prop := ∀ (v0 : AVal) (h : za) (Q : AVal → za → Prop), zc1.cps C N v0 h (dn Q) → C (N 61) [v0] h Q
end Go.Ab
namespace Go.Ab
@[simp] def zd6.k1 (C : CSem) (N : Nat → Nat) (Q : AVal → za → Prop) (v0 : AVal) (h : za) : Prop :=
 B.pv (A.boxN 6 v0) fun c1 =>
  B.al c1 (B.pv (V.zbu 0 c1) fun v4 =>
  B.pv (V.bin .geq v4 (.int .i64 1)) fun v5 =>
  B.al c1 (B.gd h v5 true (fun K => K .undef h) fun _ h =>
  B.gd h v5 true (fun K => B.pv (V.zbu 1 c1) fun v => K v h) fun v8 h =>
  B.gd h v5 true (fun K => B.call C (N 61) [v8] h K) fun v9 h =>
  B.pick v5 v9 (.bool false) fun v10 =>
  B.al c1 (B.gd h v10 true (fun K => K .undef h) fun _ h =>
  B.al c1 (B.gd h v10 true (fun K => K .undef h) fun _ h =>
  B.gd h v10 true (fun K => B.pv (V.zbu 2 c1) fun v => K v h) fun v14 h =>
  B.gd h v10 true (fun K => B.pv (V.bin .geq v14 (.int .i64 0)) fun v => K v h) fun v15 h =>
  B.pick v10 v15 (.bool false) fun v16 =>
  B.al c1 (B.gd h v16 true (fun K => K .undef h) fun _ h =>
  B.al c1 (B.gd h v16 true (fun K => K .undef h) fun _ h =>
  B.gd h v16 true (fun K => B.pv (V.zbu 2 c1) fun v => K v h) fun v20 h =>
  B.al c1 (B.gd h v16 true (fun K => K .undef h) fun _ h =>
  B.al c1 (B.gd h v16 true (fun K => K .undef h) fun _ h =>
  B.gd h v16 true (fun K => B.pv (V.zbu 3 c1) fun v => K v h) fun v23 h =>
  B.gd h v16 true (fun K => B.pv (V.bin .lss v20 v23) fun v => K v h) fun v24 h =>
  B.pick v16 v24 (.bool false) fun v25 =>
  B.al c1 (B.gd h v25 true (fun K => K .undef h) fun _ h =>
  B.al c1 (B.gd h v25 true (fun K => K .undef h) fun _ h =>
  B.gd h v25 true (fun K => B.pv (V.zbu 3 c1) fun v => K v h) fun v29 h =>
  B.gd h v25 true (fun K => B.pv (V.bin .leq v29 (.int .i64 4001)) fun v => K v h) fun v30 h =>
  B.pick v25 v30 (.bool false) fun v31 =>
  B.al c1 (B.gd h v31 true (fun K => K .undef h) fun _ h =>
  B.gd h v31 true (fun K => B.pv (V.zbu 4 c1) fun v => K v h) fun v34 h =>
  B.gd h v31 true (fun K => B.pv (V.bin .geq v34 (.int .i64 1)) fun v => K v h) fun v35 h =>
  B.pick v31 v35 (.bool false) fun v36 =>
  B.al c1 (B.gd h v36 true (fun K => K .undef h) fun _ h =>
  B.gd h v36 true (fun K => B.pv (V.zbu 4 c1) fun v => K v h) fun v39 h =>
  B.gd h v36 true (fun K => B.pv (V.bin .leq v39 (.int .i64 1073741824)) fun v => K v h) fun v40 h =>
  B.pick v36 v40 (.bool false) fun v41 =>
  Q v41 h))))))))))))
@[simp] def zd6.cps (C : CSem) (N : Nat → Nat) (v0 : AVal) (h : za) (Q : AVal → za → Prop) : Prop :=
 zd6.k1 C N Q v0 h
def zd6.Imp (C : CSem) (N : Nat → Nat) : Prop := ∀ (v0 : AVal) (h : za) (Q : AVal → za → Prop), zd6.cps C N v0 h (dn Q) → C (N 60) [v0] h Q
@[simp] def zc5.k1 (C : CSem) (N : Nat → Nat) (Q : AVal → za → Prop) (v0 v1 : AVal) (h : za) : Prop :=
 B.pv (A.boxN 6 v0) fun c2 =>
  B.pv (A.boxN 6 v1) fun c3 =>
  B.al c2 (B.al c2 (B.pv (V.zbu 3 c2) fun v8 =>
  B.al c3 (B.al c3 (B.pv (V.zbu 3 c3) fun v11 =>
  B.pv (V.bin .lss v8 v11) fun v12 =>
  B.cond v12
  (Q (.int .i64 (-1)) h)
  (B.al c2 (B.al c2 (B.pv (V.zbu 3 c2) fun v16 =>
  B.al c3 (B.al c3 (B.pv (V.zbu 3 c3) fun v19 =>
  B.pv (V.bin .gtr v16 v19) fun v20 =>
  B.cond v20
  (Q (.int .i64 1) h)
  (B.al c2 (B.pv (V.zbu 0 c2) fun v23 =>
  B.al c3 (B.pv (V.zbu 0 c3) fun v25 =>
  B.pv (V.bin .lss v23 v25) fun v26 =>
  B.cond v26
  (Q (.int .i64 (-1)) h)
  (B.al c2 (B.pv (V.zbu 0 c2) fun v29 =>
  B.al c3 (B.pv (V.zbu 0 c3) fun v31 =>
  B.pv (V.bin .gtr v29 v31) fun v32 =>
  B.cond v32
  (Q (.int .i64 1) h)
  (Q (.int .i64 0) h))))))))))))))))
@[simp] def zc5.cps (C : CSem) (N : Nat → Nat) (v0 v1 : AVal) (h : za) (Q : AVal → za → Prop) : Prop :=
 zc5.k1 C N Q v0 v1 h
def zc5.Imp (C : CSem) (N : Nat → Nat) : Prop := ∀ (v0 v1 : AVal) (h : za) (Q : AVal → za → Prop), zc5.cps C N v0 v1 h (dn Q) → C (N 145) [v0, v1] h Q
end Go.Ab
namespace Go.Ab
@[simp] def ref05_Any.k1 (C : CSem) (N : Nat → Nat) (Q : AVal → za → Prop) (Y1 : List AVal → za → Prop) (Y2 : List AVal → za → Prop) (v0 v1 v5 v7 v9 v10 : AVal) (h : za) : Prop :=
 B.pv (V.bin .gtr v10 (.int .i64 0)) fun v60 =>
  B.cond v60
  (B.call C (N 233) [v0, v1, v7, v5, v9, v10] h fun v67 h =>
  B.pv (V.bin .eql v67 (.int .i64 0)) fun v69 =>
  B.cond v69
  (Q (.bool false) h)
  (B.pv (V.bin .sub v10 v67) fun v72 =>
  Y2 [v72] h))
  (B.pv (V.bin .add v9 (.int .i64 1)) fun v53 =>
  Y1 [v53] h)
@[simp] def ref05_Any.l2 (C : CSem) (N : Nat → Nat) (Q : AVal → za → Prop) (Y1 : List AVal → za → Prop) (v0 v1 v5 v7 v9 : AVal) : List AVal → za → (List AVal → za → Prop) → Prop
 | [v10], h, Y2 => ref05_Any.k1 C N Q Y1 Y2 v0 v1 v5 v7 v9 v10 h
 | _, _, _ => False
@[simp] def zu.k1 (C : CSem) (N : Nat → Nat) (Q : AVal → za → Prop) (Y1 : List AVal → za → Prop) (Y2 : List AVal → za → Prop) (v0 v1 v6 v8 v9 v10 v11 v13 v14 : AVal) (h : za) : Prop :=
 B.pv (V.bin .lss v14 (.int .i64 0)) fun v126 =>
  B.cond v126
  (Q (.tup [.nils, (.bool false)]) h)
  (B.pv (V.idxS 1 v6 v14) fun v130 =>
  B.ld h v130 fun v131 =>
  B.pv (V.min2 v13 v131) fun v132 =>
  B.pv (V.idxS 1 v6 v14) fun v137 =>
  B.ld h v137 fun v138 =>
  B.pv (V.bin .sub v138 v132) fun v140 =>
  B.pv (V.idxS 1 v6 v14) fun v141 =>
  B.st h v141 v140 fun h =>
  B.pv (V.bin .sub v13 v132) fun v144 =>
  B.pv (V.idxS 6 v0 v14) fun v149 =>
  B.pv (V.fieldAddr 0 v149) fun v150 =>
  B.ld h v150 fun v151 =>
  B.pv (A.bld [(0, none, v11), (1, none, v151), (2, none, v132)] [.int .i64 0, .int .i64 0, .int .i64 0]) fun v153 =>
  B.newO h (zfu [(0, some 3, v153)] (repL 1 [.int .i64 0, .int .i64 0, .int .i64 0])) fun i154 h =>
  B.appW h 3 24 v9 (.sl i154 0 0 1 3 1) fun v155 h =>
  Y2 [v155, v144] h)
@[simp] def zu.k2 (C : CSem) (N : Nat → Nat) (Q : AVal → za → Prop) (Y1 : List AVal → za → Prop) (Y2 : List AVal → za → Prop) (Y3 : List AVal → za → Prop) (v0 v1 v6 v8 v9 v10 v11 v13 v14 v15 : AVal) (h : za) : Prop :=
 B.pv (V.zcj v0) fun v88 =>
  B.pv (V.bin .lss v15 v88) fun v89 =>
  B.cond v89
  (B.pv (V.idxS 1 v6 v15) fun v94 =>
  B.ld h v94 fun v95 =>
  B.pv (V.bin .gtr v95 (.int .i64 0)) fun v96 =>
  B.gd h v96 true (fun K => K v0 h) fun v98 h =>
  B.gd h v96 true (fun K => K v15 h) fun v99 h =>
  B.gd h v96 true (fun K => B.pv (V.idxS 6 v98 v99) fun v => K v h) fun v100 h =>
  B.gd h v96 true (fun K => B.ldn h v100 6 fun v => K v h) fun v101 h =>
  B.gd h v96 true (fun K => K v1 h) fun v102 h =>
  B.gd h v96 true (fun K => K v11 h) fun v103 h =>
  B.gd h v96 true (fun K => B.pv (V.idxS 3 v102 v103) fun v => K v h) fun v104 h =>
  B.gd h v96 true (fun K => B.ldn h v104 3 fun v => K v h) fun v105 h =>
  B.gd h v96 true (fun K => B.call C (N 235) [v101, v105] h K) fun v106 h =>
  B.pick v96 v106 (.bool false) fun v107 =>
  B.gd h v107 true (fun K => K v14 h) fun v109 h =>
  B.gd h v107 true (fun K => B.pv (V.bin .lss v109 (.int .i64 0)) fun v => K v h) fun v110 h =>
  B.gd h v107 true (fun K => K v110 h) fun v111 h =>
  B.gd h v111 false (fun K => K v0 h) fun v112 h =>
  B.gd h v111 false (fun K => K v15 h) fun v113 h =>
  B.gd h v111 false (fun K => B.pv (V.idxS 6 v112 v113) fun v => K v h) fun v114 h =>
  B.gd h v111 false (fun K => B.ldn h v114 6 fun v => K v h) fun v115 h =>
  B.gd h v111 false (fun K => K v0 h) fun v116 h =>
  B.gd h v111 false (fun K => K v14 h) fun v117 h =>
  B.gd h v111 false (fun K => B.pv (V.idxS 6 v116 v117) fun v => K v h) fun v118 h =>
  B.gd h v111 false (fun K => B.ldn h v118 6 fun v => K v h) fun v119 h =>
  B.gd h v111 false (fun K => B.call C (N 145) [v115, v119] h K) fun v120 h =>
  B.gd h v111 false (fun K => B.pv (V.bin .lss v120 (.int .i64 0)) fun v => K v h) fun v121 h =>
  B.gd h v107 true (fun K => B.pick v111 (.bool true) v121 fun v => K v h) fun v122 h =>
  B.pick v107 v122 (.bool false) fun v123 =>
  B.cond v123
  (B.pv (V.bin .add v15 (.int .i64 1)) fun v91 =>
  Y3 [v15, v91] h)
  (B.pv (V.bin .add v15 (.int .i64 1)) fun v91 =>
  Y3 [v14, v91] h))
  (zu.k1 C N Q Y1 Y2 v0 v1 v6 v8 v9 v10 v11 v13 v14 h)
@[simp] def zu.l3 (C : CSem) (N : Nat → Nat) (Q : AVal → za → Prop) (Y1 : List AVal → za → Prop) (Y2 : List AVal → za → Prop) (v0 v1 v6 v8 v9 v10 v11 v13 : AVal) : List AVal → za → (List AVal → za → Prop) → Prop
 | [v14, v15], h, Y3 => zu.k2 C N Q Y1 Y2 Y3 v0 v1 v6 v8 v9 v10 v11 v13 v14 v15 h
 | _, _, _ => False
@[simp] def zu.k4 (C : CSem) (N : Nat → Nat) (Q : AVal → za → Prop) (Y1 : List AVal → za → Prop) (Y2 : List AVal → za → Prop) (v0 v1 v6 v8 v9 v10 v11 v13 : AVal) (h : za) : Prop :=
 B.pv (V.bin .gtr v13 (.int .i64 0)) fun v85 =>
  B.cond v85
  (zm (zu.l3 C N Q Y1 Y2 v0 v1 v6 v8 v9 v10 v11 v13) [(.int .i64 (-1)), (.int .i64 0)] h)
  (B.pv (V.bin .add v10 (.int .i64 1)) fun v46 =>
  Y1 [v9, v46] h)
@[simp] def zu.l5 (C : CSem) (N : Nat → Nat) (Q : AVal → za → Prop) (Y1 : List AVal → za → Prop) (v0 v1 v6 v8 v10 v11 : AVal) : List AVal → za → (List AVal → za → Prop) → Prop
 | [v9, v13], h, Y2 => zu.k4 C N Q Y1 Y2 v0 v1 v6 v8 v9 v10 v11 v13 h
 | _, _, _ => False
@[simp] def zu.k6 (C : CSem) (N : Nat → Nat) (Q : AVal → za → Prop) (Y1 : List AVal → za → Prop) (v0 v1 v6 v8 v9 v10 v11 : AVal) (h : za) : Prop :=
 B.pv (V.idxS 3 v1 v11) fun v81 =>
  B.pv (V.fieldAddr 2 v81) fun v82 =>
  B.ld h v82 fun v83 =>
  zm (zu.l5 C N Q Y1 v0 v1 v6 v8 v10 v11) [v9, v83] h
@[simp] def zu.k7 (C : CSem) (N : Nat → Nat) (Q : AVal → za → Prop) (Y1 : List AVal → za → Prop) (Y4 : List AVal → za → Prop) (v0 v1 v6 v8 v9 v10 v11 v12 : AVal) (h : za) : Prop :=
 B.pv (V.zcj v1) fun v49 =>
  B.pv (V.bin .lss v12 v49) fun v50 =>
  B.cond v50
  (B.pv (V.idxS 1 v8 v12) fun v55 =>
  B.ld h v55 fun v56 =>
  B.pv (V.un .not v56) fun v57 =>
  B.gd h v57 true (fun K => K v11 h) fun v59 h =>
  B.gd h v57 true (fun K => B.pv (V.bin .lss v59 (.int .i64 0)) fun v => K v h) fun v60 h =>
  B.gd h v57 true (fun K => K v60 h) fun v61 h =>
  B.gd h v61 false (fun K => K v1 h) fun v62 h =>
  B.gd h v61 false (fun K => K v12 h) fun v63 h =>
  B.gd h v61 false (fun K => B.pv (V.idxS 3 v62 v63) fun v => K v h) fun v64 h =>
  B.gd h v61 false (fun K => B.pv (V.fieldAddr 1 v64) fun v => K v h) fun v65 h =>
  B.gd h v61 false (fun K => B.ld h v65 fun v => K v h) fun v66 h =>
  B.gd h v61 false (fun K => K v1 h) fun v67 h =>
  B.gd h v61 false (fun K => K v11 h) fun v68 h =>
  B.gd h v61 false (fun K => B.pv (V.idxS 3 v67 v68) fun v => K v h) fun v69 h =>
  B.gd h v61 false (fun K => B.pv (V.fieldAddr 1 v69) fun v => K v h) fun v70 h =>
  B.gd h v61 false (fun K => B.ld h v70 fun v => K v h) fun v71 h =>
  B.gd h v61 false (fun K => B.pv (V.bin .lss v66 v71) fun v => K v h) fun v72 h =>
  B.gd h v57 true (fun K => B.pick v61 (.bool true) v72 fun v => K v h) fun v73 h =>
  B.pick v57 v73 (.bool false) fun v74 =>
  B.cond v74
  (B.pv (V.bin .add v12 (.int .i64 1)) fun v52 =>
  Y4 [v12, v52] h)
  (B.pv (V.bin .add v12 (.int .i64 1)) fun v52 =>
  Y4 [v11, v52] h))
  (B.pv (V.idxS 1 v8 v11) fun v78 =>
  B.st h v78 (.bool true) fun h =>
  zu.k6 C N Q Y1 v0 v1 v6 v8 v9 v10 v11 h)
@[simp] def zu.l8 (C : CSem) (N : Nat → Nat) (Q : AVal → za → Prop) (Y1 : List AVal → za → Prop) (v0 v1 v6 v8 v9 v10 : AVal) : List AVal → za → (List AVal → za → Prop) → Prop
 | [v11, v12], h, Y4 => zu.k7 C N Q Y1 Y4 v0 v1 v6 v8 v9 v10 v11 v12 h
 | _, _, _ => False
@[simp] def zu.k9 (C : CSem) (N : Nat → Nat) (Q : AVal → za → Prop) (Y1 : List AVal → za → Prop) (v0 v1 v6 v8 v9 v10 : AVal) (h : za) : Prop :=
 B.pv (V.zcj v1) fun v43 =>
  B.pv (V.bin .lss v10 v43) fun v44 =>
  B.cond v44
  (zm (zu.l8 C N Q Y1 v0 v1 v6 v8 v9 v10) [(.int .i64 (-1)), (.int .i64 0)] h)
  (Q (.tup [v9, (.bool true)]) h)
@[simp] def zu.l10 (C : CSem) (N : Nat → Nat) (Q : AVal → za → Prop) (v0 v1 v6 v8 : AVal) : List AVal → za → (List AVal → za → Prop) → Prop
 | [v9, v10], h, Y1 => zu.k9 C N Q Y1 v0 v1 v6 v8 v9 v10 h
 | _, _, _ => False
@[simp] def zu.k11 (C : CSem) (N : Nat → Nat) (Q : AVal → za → Prop) (v0 v1 v6 : AVal) (h : za) : Prop :=
 B.pv (V.zcj v1) fun v39 =>
  0 < 1 ∧ B.mks h 1 (some [.bool false]) v39 v39 fun v40 h =>
  zm (zu.l10 C N Q v0 v1 v6 v40) [.nils, (.int .i64 0)] h
@[simp] def zu.k12 (C : CSem) (N : Nat → Nat) (Q : AVal → za → Prop) (Y5 : List AVal → za → Prop) (v0 v1 v6 v7 : AVal) (h : za) : Prop :=
 B.pv (V.zcj v0) fun v26 =>
  B.pv (V.bin .lss v7 v26) fun v27 =>
  B.cond v27
  (B.pv (V.idxS 6 v0 v7) fun v34 =>
  B.pv (V.fieldAddr 4 v34) fun v35 =>
  B.ld h v35 fun v36 =>
  B.pv (V.idxS 1 v6 v7) fun v37 =>
  B.st h v37 v36 fun h =>
  B.pv (V.bin .add v7 (.int .i64 1)) fun v29 =>
  Y5 [v29] h)
  (zu.k11 C N Q v0 v1 v6 h)
@[simp] def zu.l13 (C : CSem) (N : Nat → Nat) (Q : AVal → za → Prop) (v0 v1 v6 : AVal) : List AVal → za → (List AVal → za → Prop) → Prop
 | [v7], h, Y5 => zu.k12 C N Q Y5 v0 v1 v6 v7 h
 | _, _, _ => False
@[simp] def zu.k14 (C : CSem) (N : Nat → Nat) (Q : AVal → za → Prop) (v0 v1 : AVal) (h : za) : Prop :=
 B.call C (N 234) [v0, v1] h fun v19 h =>
  B.pv (V.un .not v19) fun v20 =>
  B.cond v20
  (Q (.tup [.nils, (.bool false)]) h)
  (B.pv (V.zcj v0) fun v22 =>
  0 < 1 ∧ B.mks h 8 (some [.int .i64 0]) v22 v22 fun v23 h =>
  zm (zu.l13 C N Q v0 v1 v23) [(.int .i64 0)] h)
@[simp] def zu.cps (C : CSem) (N : Nat → Nat) (v0 v1 : AVal) (h : za) (Q : AVal → za → Prop) : Prop :=
 zu.k14 C N Q v0 v1 h
def zu.Imp (C : CSem) (N : Nat → Nat) : Prop := ∀ (v0 v1 : AVal) (h : za) (Q : AVal → za → Prop), zu.cps C N v0 v1 h (dn Q) → C (N 220) [v0, v1] h Q
@[simp] def zb5.k1 (C : CSem) (N : Nat → Nat) (Q : AVal → za → Prop) (Y1 : List AVal → za → Prop) (v1 v7 : AVal) (h : za) : Prop :=
 B.pv (V.zcj v1) fun v46 =>
  B.pv (V.bin .lss v7 v46) fun v47 =>
  B.cond v47
  (B.pv (V.idxS 3 v1 v7) fun v52 =>
  B.ldn h v52 3 fun v53 =>
  B.call C (N 241) [v53] h fun v54 h =>
  B.pv (V.un .not v54) fun v55 =>
  B.cond v55
  (Q (.bool false) h)
  (B.pv (V.bin .add v7 (.int .i64 1)) fun v49 =>
  Y1 [v49] h))
  (Q (.bool true) h)
@[simp] def zb5.l2 (C : CSem) (N : Nat → Nat) (Q : AVal → za → Prop) (v1 : AVal) : List AVal → za → (List AVal → za → Prop) → Prop
 | [v7], h, Y1 => zb5.k1 C N Q Y1 v1 v7 h
 | _, _, _ => False
@[simp] def zb5.k3 (C : CSem) (N : Nat → Nat) (Q : AVal → za → Prop) (Y2 : List AVal → za → Prop) (Y3 : List AVal → za → Prop) (v0 v1 v5 v6 : AVal) (h : za) : Prop :=
 B.pv (V.bin .lss v6 v5) fun v30 =>
  B.cond v30
  (B.pv (V.idxS 6 v0 v6) fun v35 =>
  B.pv (V.fieldAddr 0 v35) fun v36 =>
  B.ld h v36 fun v37 =>
  B.pv (V.idxS 6 v0 v5) fun v40 =>
  B.pv (V.fieldAddr 0 v40) fun v41 =>
  B.ld h v41 fun v42 =>
  B.pv (V.bin .eql v37 v42) fun v43 =>
  B.cond v43
  (Q (.bool false) h)
  (B.pv (V.bin .add v6 (.int .i64 1)) fun v32 =>
  Y3 [v32] h))
  (B.pv (V.bin .add v5 (.int .i64 1)) fun v21 =>
  Y2 [v21] h)
@[simp] def zb5.l4 (C : CSem) (N : Nat → Nat) (Q : AVal → za → Prop) (Y2 : List AVal → za → Prop) (v0 v1 v5 : AVal) : List AVal → za → (List AVal → za → Prop) → Prop
 | [v6], h, Y3 => zb5.k3 C N Q Y2 Y3 v0 v1 v5 v6 h
 | _, _, _ => False
@[simp] def zb5.k5 (C : CSem) (N : Nat → Nat) (Q : AVal → za → Prop) (Y2 : List AVal → za → Prop) (v0 v1 v5 : AVal) (h : za) : Prop :=
 B.pv (V.idxS 6 v0 v5) fun v24 =>
  B.ldn h v24 6 fun v25 =>
  B.call C (N 60) [v25] h fun v26 h =>
  B.pv (V.un .not v26) fun v27 =>
  B.cond v27
  (Q (.bool false) h)
  (zm (zb5.l4 C N Q Y2 v0 v1 v5) [(.int .i64 0)] h)
@[simp] def zb5.k6 (C : CSem) (N : Nat → Nat) (Q : AVal → za → Prop) (Y2 : List AVal → za → Prop) (v0 v1 v5 : AVal) (h : za) : Prop :=
 B.pv (V.zcj v0) fun v18 =>
  B.pv (V.bin .lss v5 v18) fun v19 =>
  B.cond v19
  (zb5.k5 C N Q Y2 v0 v1 v5 h)
  (zm (zb5.l2 C N Q v1) [(.int .i64 0)] h)
@[simp] def zb5.l7 (C : CSem) (N : Nat → Nat) (Q : AVal → za → Prop) (v0 v1 : AVal) : List AVal → za → (List AVal → za → Prop) → Prop
 | [v5], h, Y2 => zb5.k6 C N Q Y2 v0 v1 v5 h
 | _, _, _ => False
@[simp] def zb5.k8 (C : CSem) (N : Nat → Nat) (Q : AVal → za → Prop) (v0 v1 : AVal) (h : za) : Prop :=
 B.pv (V.zcj v0) fun v9 =>
  B.pv (V.bin .gtr v9 (.int .i64 300)) fun v10 =>
  B.gd h v10 false (fun K => K v1 h) fun v12 h =>
  B.gd h v10 false (fun K => B.pv (V.zcj v12) fun v => K v h) fun v13 h =>
  B.gd h v10 false (fun K => B.pv (V.bin .gtr v13 (.int .i64 20000)) fun v => K v h) fun v14 h =>
  B.pick v10 (.bool true) v14 fun v15 =>
  B.cond v15
  (Q (.bool false) h)
  (zm (zb5.l7 C N Q v0 v1) [(.int .i64 0)] h)
@[simp] def zb5.cps (C : CSem) (N : Nat → Nat) (v0 v1 : AVal) (h : za) (Q : AVal → za → Prop) : Prop :=
 zb5.k8 C N Q v0 v1 h
def zb5.Imp (C : CSem) (N : Nat → Nat) : Prop := ∀ (v0 v1 : AVal) (h : za) (Q : AVal → za → Prop), zb5.cps C N v0 v1 h (dn Q) → C (N 234) [v0, v1] h Q
@[simp] def zde.k1 (C : CSem) (N : Nat → Nat) (Q : AVal → za → Prop) (v0 v1 : AVal) (h : za) : Prop :=
 B.pv (A.boxN 6 v0) fun c2 =>
  B.pv (A.boxN 3 v1) fun c3 =>
  B.al c2 (B.pv (V.zbu 1 c2) fun v6 =>
  B.al c3 (B.pv (V.zbu 0 c3) fun v8 =>
  B.pv (V.bin .eql v6 v8) fun v9 =>
  B.al c2 (B.gd h v9 true (fun K => K .undef h) fun _ h =>
  B.gd h v9 true (fun K => B.pv (V.zen 2 2 c2) fun v => K v h) fun v12 h =>
  B.al c3 (B.gd h v9 true (fun K => K .undef h) fun _ h =>
  B.gd h v9 true (fun K => B.pv (V.zbu 1 c3) fun v => K v h) fun v14 h =>
  B.gd h v9 true (fun K => B.call C (N 8) [v12, v14] h K) fun v15 h =>
  B.pick v9 v15 (.bool false) fun v16 =>
  Q v16 h))))
@[simp] def zde.cps (C : CSem) (N : Nat → Nat) (v0 v1 : AVal) (h : za) (Q : AVal → za → Prop) : Prop :=
 zde.k1 C N Q v0 v1 h
def zde.Imp (C : CSem) (N : Nat → Nat) : Prop := ∀ (v0 v1 : AVal) (h : za) (Q : AVal → za → Prop), zde.cps C N v0 v1 h (dn Q) → C (N 235) [v0, v1] h Q
@[simp] def zd5.k1 (C : CSem) (N : Nat → Nat) (Q : AVal → za → Prop) (v0 : AVal) (h : za) : Prop :=
 B.pv (A.boxN 3 v0) fun c1 =>
  B.al c1 (B.pv (V.zbu 0 c1) fun v4 =>
  B.call C (N 61) [v4] h fun v5 h =>
  B.al c1 (B.gd h v5 true (fun K => K .undef h) fun _ h =>
  B.gd h v5 true (fun K => B.pv (V.zbu 1 c1) fun v => K v h) fun v8 h =>
  B.gd h v5 true (fun K => B.pv (V.bin .geq v8 (.int .i64 0)) fun v => K v h) fun v9 h =>
  B.pick v5 v9 (.bool false) fun v10 =>
  B.al c1 (B.gd h v10 true (fun K => K .undef h) fun _ h =>
  B.gd h v10 true (fun K => B.pv (V.zbu 1 c1) fun v => K v h) fun v13 h =>
  B.gd h v10 true (fun K => B.pv (V.bin .leq v13 (.int .i64 4000)) fun v => K v h) fun v14 h =>
  B.pick v10 v14 (.bool false) fun v15 =>
  B.al c1 (B.gd h v15 true (fun K => K .undef h) fun _ h =>
  B.gd h v15 true (fun K => B.pv (V.zbu 2 c1) fun v => K v h) fun v18 h =>
  B.gd h v15 true (fun K => B.pv (V.bin .geq v18 (.int .i64 1)) fun v => K v h) fun v19 h =>
  B.pick v15 v19 (.bool false) fun v20 =>
  B.al c1 (B.gd h v20 true (fun K => K .undef h) fun _ h =>
  B.gd h v20 true (fun K => B.pv (V.zbu 2 c1) fun v => K v h) fun v23 h =>
  B.gd h v20 true (fun K => B.pv (V.bin .leq v23 (.int .i64 1125899906842624)) fun v => K v h) fun v24 h =>
  B.pick v20 v24 (.bool false) fun v25 =>
  Q v25 h)))))
@[simp] def zd5.cps (C : CSem) (N : Nat → Nat) (v0 : AVal) (h : za) (Q : AVal → za → Prop) : Prop :=
 zd5.k1 C N Q v0 h
def zd5.Imp (C : CSem) (N : Nat → Nat) : Prop := ∀ (v0 : AVal) (h : za) (Q : AVal → za → Prop), zd5.cps C N v0 h (dn Q) → C (N 241) [v0] h Q
end Go.Ab
namespace Go.Ab
@[simp] def zd3.k1 (C : CSem) (N : Nat → Nat) (Q : AVal → za → Prop) (Y1 : List AVal → za → Prop) (v0 v1 v2 v4 v12 : AVal) (h : za) : Prop :=
 B.pv (V.bin .leq v12 v4) fun v17 =>
  B.gd h v17 true (fun K => K v12 h) fun v19 h =>
  B.gd h v17 true (fun K => B.pv (V.bin .leq v19 (.int .i64 4000)) fun v => K v h) fun v20 h =>
  B.pick v17 v20 (.bool false) fun v21 =>
  B.cond v21
  (B.call C (N 331) [v0, v1, v2, v12] h fun v28 h =>
  B.cond v28
  (Q (.tup [v12, (.bool true)]) h)
  (B.pv (V.bin .add v12 (.int .i64 1)) fun v23 =>
  Y1 [v23] h))
  (Q (.tup [(.int .i64 0), (.bool false)]) h)
@[simp] def zd3.l2 (C : CSem) (N : Nat → Nat) (Q : AVal → za → Prop) (v0 v1 v2 v4 : AVal) : List AVal → za → (List AVal → za → Prop) → Prop
 | [v12], h, Y1 => zd3.k1 C N Q Y1 v0 v1 v2 v4 v12 h
 | _, _, _ => False
@[simp] def zd3.cps (C : CSem) (N : Nat → Nat) (v0 v1 v2 v3 v4 : AVal) (h : za) (Q : AVal → za → Prop) : Prop :=
 B.pv (V.max2 v3 (.int .i64 0)) fun v14 =>
  zm (zd3.l2 C N Q v0 v1 v2 v4) [v14] h
def zd3.Imp (C : CSem) (N : Nat → Nat) : Prop := ∀ (v0 v1 v2 v3 v4 : AVal) (h : za) (Q : AVal → za → Prop), zd3.cps C N v0 v1 v2 v3 v4 h (dn Q) → C (N 321) [v0, v1, v2, v3, v4] h Q
@[simp] def zc3.k1 (C : CSem) (N : Nat → Nat) (Q : AVal → za → Prop) (Y1 : List AVal → za → Prop) (v0 v1 v2 v4 v11 v12 : AVal) (h : za) : Prop :=
 B.pv (V.bin .leq v12 v4) fun v18 =>
  B.gd h v18 true (fun K => K v12 h) fun v20 h =>
  B.gd h v18 true (fun K => B.pv (V.bin .leq v20 (.int .i64 4000)) fun v => K v h) fun v21 h =>
  B.pick v18 v21 (.bool false) fun v22 =>
  B.cond v22
  (B.call C (N 331) [v0, v1, v2, v12] h fun v31 h =>
  B.pv (V.idxS 1 v11 v12) fun v32 =>
  B.st h v32 v31 fun h =>
  B.pv (V.bin .add v12 (.int .i64 1)) fun v24 =>
  Y1 [v24] h)
  (B.call C (N 19) [v11] h fun v34 h =>
  Q v34 h)
@[simp] def zc3.l2 (C : CSem) (N : Nat → Nat) (Q : AVal → za → Prop) (v0 v1 v2 v4 v11 : AVal) : List AVal → za → (List AVal → za → Prop) → Prop
 | [v12], h, Y1 => zc3.k1 C N Q Y1 v0 v1 v2 v4 v11 v12 h
 | _, _, _ => False
@[simp] def zc3.k3 (C : CSem) (N : Nat → Nat) (Q : AVal → za → Prop) (v0 v1 v2 v3 v4 : AVal) (h : za) : Prop :=
 0 < 1 ∧ B.mks h 1 (some [.bool false]) (.int .i64 4001) (.int .i64 4001) fun v13 h =>
  B.pv (V.max2 v3 (.int .i64 0)) fun v15 =>
  zm (zc3.l2 C N Q v0 v1 v2 v4 v13) [v15] h
@[simp] def zc3.cps (C : CSem) (N : Nat → Nat) (v0 v1 v2 v3 v4 : AVal) (h : za) (Q : AVal → za → Prop) : Prop :=
 zc3.k3 C N Q v0 v1 v2 v3 v4 h
def zc3.Imp (C : CSem) (N : Nat → Nat) : Prop := ∀ (v0 v1 v2 v3 v4 : AVal) (h : za) (Q : AVal → za → Prop), zc3.cps C N v0 v1 v2 v3 v4 h (dn Q) → C (N 323) [v0, v1, v2, v3, v4] h Q
@[simp] def zdv.k1 (C : CSem) (N : Nat → Nat) (Q : AVal → za → Prop) (Y1 : List AVal → za → Prop) (v0 v2 v3 v9 v10 : AVal) (h : za) : Prop :=
 B.pv (V.zcj v2) fun v18 =>
  B.pv (V.bin .lss v10 v18) fun v19 =>
  B.cond v19
  (B.pv (V.idxS 2 v2 v10) fun v25 =>
  B.pv (V.fieldAddr 0 v25) fun v26 =>
  B.ld h v26 fun v27 =>
  B.pv (V.idxS 2 v2 v10) fun v31 =>
  B.pv (V.fieldAddr 1 v31) fun v32 =>
  B.ld h v32 fun v33 =>
  B.pv (A.bld [(0, none, v27), (1, none, v3), (2, none, v33)] [.str [], .int .i64 0, .int .i64 0]) fun v34 =>
  B.newO h (zfu [(0, some 3, v34)] (repL 1 [.str [], .int .i64 0, .int .i64 0])) fun i35 h =>
  B.appW h 3 32 v9 (.sl i35 0 0 1 3 1) fun v36 h =>
  B.pv (V.bin .add v10 (.int .i64 1)) fun v21 =>
  Y1 [v36, v21] h)
  (B.call C (N 220) [v0, v9] h fun v40 h =>
  B.pv (V.ext 0 v40) fun v41 =>
  B.pv (V.ext 1 v40) fun v42 =>
  Q v42 h)
@[simp] def zdv.l2 (C : CSem) (N : Nat → Nat) (Q : AVal → za → Prop) (v0 v2 v3 : AVal) : List AVal → za → (List AVal → za → Prop) → Prop
 | [v9, v10], h, Y1 => zdv.k1 C N Q Y1 v0 v2 v3 v9 v10 h
 | _, _, _ => False
@[simp] def zdv.cps (C : CSem) (N : Nat → Nat) (v0 v1 v2 v3 : AVal) (h : za) (Q : AVal → za → Prop) : Prop :=
 B.appW h 3 32 .sz v1 fun v15 h =>
  zm (zdv.l2 C N Q v0 v2 v3) [v15, (.int .i64 0)] h
def zdv.Imp (C : CSem) (N : Nat → Nat) : Prop := ∀ (v0 v1 v2 v3 : AVal) (h : za) (Q : AVal → za → Prop), zdv.cps C N v0 v1 v2 v3 h (dn Q) → C (N 331) [v0, v1, v2, v3] h Q
end Go.Ab
namespace Go.Ab
@[simp] def znz.cps (C : CSem) (E : zx) (v0 : AVal) (h : za) (Q : AVal → za → Prop) : Prop :=
 B.pv (V.eqSl .eql v0 .nils) fun v4 =>
  B.cond v4
  (Q .nils h)
  (B.appW h E.es E.bytes .sz v0 fun v7 h =>
  Q v7 h)
@[simp] def zfi.cps (C : CSem) (E : zx) (f1 : Nat) (v0 v1 : AVal) (h : za) (Q : AVal → za → Prop) : Prop :=
 B.pv (V.zcj v0) fun v6 =>
  B.call C f1 [v0, v6, v1] h fun v8 h =>
  Q (.tup []) h
@[simp] def zi.k1 (C : CSem) (E : zx) (f1 f2 : Nat) (Q : AVal → za → Prop) (Y1 : List AVal → za → Prop) (v0 v1 v2 v6 v7 : AVal) (h : za) : Prop :=
 B.pv (V.bin .add v7 v6) fun v51 =>
  B.pv (V.bin .lss v51 v1) fun v54 =>
  B.cond v54
  (B.call C f1 [v0, v7, v51, v1, v2] h fun v60 h =>
  B.pv (V.bin .mul v6 (.int .i64 2)) fun v62 =>
  Y1 [v62] h)
  (B.pv (V.bin .mul v6 (.int .i64 2)) fun v62 =>
  Y1 [v62] h)
@[simp] def zi.k2 (C : CSem) (E : zx) (f1 f2 : Nat) (Q : AVal → za → Prop) (Y1 : List AVal → za → Prop) (Y2 : List AVal → za → Prop) (v0 v1 v2 v6 v7 v8 : AVal) (h : za) : Prop :=
 B.pv (V.bin .leq v8 v1) fun v35 =>
  B.cond v35
  (B.pv (V.bin .add v7 v6) fun v40 =>
  B.call C f1 [v0, v7, v40, v8, v2] h fun v43 h =>
  B.pv (V.bin .mul (.int .i64 2) v6) fun v47 =>
  B.pv (V.bin .add v8 v47) fun v48 =>
  Y2 [v8, v48] h)
  (zi.k1 C E f1 f2 Q Y1 v0 v1 v2 v6 v7 h)
@[simp] def zi.l3 (C : CSem) (E : zx) (f1 f2 : Nat) (Q : AVal → za → Prop) (Y1 : List AVal → za → Prop) (v0 v1 v2 v6 : AVal) : List AVal → za → (List AVal → za → Prop) → Prop
 | [v7, v8], h, Y2 => zi.k2 C E f1 f2 Q Y1 Y2 v0 v1 v2 v6 v7 v8 h
 | _, _, _ => False
@[simp] def zi.k4 (C : CSem) (E : zx) (f1 f2 : Nat) (Q : AVal → za → Prop) (Y1 : List AVal → za → Prop) (v0 v1 v2 v6 : AVal) (h : za) : Prop :=
 B.pv (V.bin .lss v6 v1) fun v30 =>
  B.cond v30
  (B.pv (V.bin .mul (.int .i64 2) v6) fun v32 =>
  zm (zi.l3 C E f1 f2 Q Y1 v0 v1 v2 v6) [(.int .i64 0), v32] h)
  (Q (.tup []) h)
@[simp] def zi.l5 (C : CSem) (E : zx) (f1 f2 : Nat) (Q : AVal → za → Prop) (v0 v1 v2 : AVal) : List AVal → za → (List AVal → za → Prop) → Prop
 | [v6], h, Y1 => zi.k4 C E f1 f2 Q Y1 v0 v1 v2 v6 h
 | _, _, _ => False
@[simp] def zi.k6 (C : CSem) (E : zx) (f1 f2 : Nat) (Q : AVal → za → Prop) (Y3 : List AVal → za → Prop) (v0 v1 v2 v6 v7 v8 : AVal) (h : za) : Prop :=
 B.pv (V.bin .leq v8 v1) fun v13 =>
  B.cond v13
  (B.call C f2 [v0, v7, v8, v2] h fun v18 h =>
  B.pv (V.bin .add v8 v6) fun v22 =>
  Y3 [v8, v22] h)
  (B.call C f2 [v0, v7, v1, v2] h fun v27 h =>
  zm (zi.l5 C E f1 f2 Q v0 v1 v2) [v6] h)
@[simp] def zi.l7 (C : CSem) (E : zx) (f1 f2 : Nat) (Q : AVal → za → Prop) (v0 v1 v2 v6 : AVal) : List AVal → za → (List AVal → za → Prop) → Prop
 | [v7, v8], h, Y3 => zi.k6 C E f1 f2 Q Y3 v0 v1 v2 v6 v7 v8 h
 | _, _, _ => False
@[simp] def zi.cps (C : CSem) (E : zx) (f1 f2 : Nat) (v0 v1 v2 : AVal) (h : za) (Q : AVal → za → Prop) : Prop :=
 zm (zi.l7 C E f1 f2 Q v0 v1 v2 (.int .i64 20)) [(.int .i64 0), (.int .i64 20)] h
@[simp] def zn.k1 (C : CSem) (E : zx) (Q : AVal → za → Prop) (Y1 : List AVal → za → Prop) (Y2 : List AVal → za → Prop) (v0 v1 v2 v3 v8 v9 : AVal) (h : za) : Prop :=
 B.pv (V.bin .gtr v9 v1) fun v20 =>
  B.gd h v20 true (fun K => K v3 h) fun v22 h =>
  B.gd h v20 true (fun K => K v0 h) fun v23 h =>
  B.gd h v20 true (fun K => K v9 h) fun v24 h =>
  B.gd h v20 true (fun K => B.pv (V.idxS E.es v23 v24) fun v => K v h) fun v25 h =>
  B.gd h v20 true (fun K => E.ld h v25 fun v => K v h) fun v26 h =>
  B.gd h v20 true (fun K => K v0 h) fun v27 h =>
  B.gd h v20 true (fun K => K v9 h) fun v28 h =>
  B.gd h v20 true (fun K => B.pv (V.bin .sub v28 (.int .i64 1)) fun v => K v h) fun v29 h =>
  B.gd h v20 true (fun K => B.pv (V.idxS E.es v27 v29) fun v => K v h) fun v30 h =>
  B.gd h v20 true (fun K => E.ld h v30 fun v => K v h) fun v31 h =>
  B.gd h v20 true (fun K => B.zjc h C v22 [v26, v31] K) fun v32 h =>
  B.gd h v20 true (fun K => B.pv (V.bin .lss v32 (.int .i64 0)) fun v => K v h) fun v33 h =>
  B.pick v20 v33 (.bool false) fun v34 =>
  B.cond v34
  (B.pv (V.bin .sub v9 (.int .i64 1)) fun v41 =>
  B.pv (V.bin .sub v9 (.int .i64 1)) fun v44 =>
  B.pv (V.idxS E.es v0 v44) fun v45 =>
  E.ld h v45 fun v46 =>
  B.pv (V.idxS E.es v0 v9) fun v49 =>
  E.ld h v49 fun v50 =>
  B.pv (V.idxS E.es v0 v9) fun v51 =>
  E.st h v51 v46 fun h =>
  B.pv (V.idxS E.es v0 v41) fun v52 =>
  E.st h v52 v50 fun h =>
  B.pv (V.bin .sub v9 (.int .i64 1)) fun v36 =>
  Y2 [v36] h)
  (B.pv (V.bin .add v8 (.int .i64 1)) fun v16 =>
  Y1 [v16] h)
@[simp] def zn.l2 (C : CSem) (E : zx) (Q : AVal → za → Prop) (Y1 : List AVal → za → Prop) (v0 v1 v2 v3 v8 : AVal) : List AVal → za → (List AVal → za → Prop) → Prop
 | [v9], h, Y2 => zn.k1 C E Q Y1 Y2 v0 v1 v2 v3 v8 v9 h
 | _, _, _ => False
@[simp] def zn.l3 (C : CSem) (E : zx) (Q : AVal → za → Prop) (v0 v1 v2 v3 : AVal) : List AVal → za → (List AVal → za → Prop) → Prop
 | [v8], h, Y1 => B.pv (V.bin .lss v8 v2) fun v14 =>
  B.cond v14
  (zm (zn.l2 C E Q Y1 v0 v1 v2 v3 v8) [v8] h)
  (Q (.tup []) h)
 | _, _, _ => False
@[simp] def zn.cps (C : CSem) (E : zx) (v0 v1 v2 v3 : AVal) (h : za) (Q : AVal → za → Prop) : Prop :=
 B.pv (V.bin .add v1 (.int .i64 1)) fun v11 =>
  zm (zn.l3 C E Q v0 v1 v2 v3) [v11] h
@[simp] def zb.k1 (C : CSem) (E : zx) (f1 f2 : Nat) (Q : AVal → za → Prop) (v0 v3 v4 v18 v24 : AVal) (h : za) : Prop :=
 B.pv (V.bin .lss v18 v24) fun v208 =>
  B.gd h v208 true (fun K => K v24 h) fun v210 h =>
  B.gd h v208 true (fun K => K v3 h) fun v211 h =>
  B.gd h v208 true (fun K => B.pv (V.bin .lss v210 v211) fun v => K v h) fun v212 h =>
  B.pick v208 v212 (.bool false) fun v213 =>
  B.cond v213
  (B.call C f1 [v0, v18, v24, v3, v4] h fun v219 h =>
  Q (.tup []) h)
  (Q (.tup []) h)
@[simp] def zb.k2 (C : CSem) (E : zx) (f1 f2 : Nat) (Q : AVal → za → Prop) (v0 v1 v3 v4 v18 v20 v24 : AVal) (h : za) : Prop :=
 B.pv (V.bin .lss v1 v20) fun v194 =>
  B.gd h v194 true (fun K => K v20 h) fun v196 h =>
  B.gd h v194 true (fun K => K v18 h) fun v197 h =>
  B.gd h v194 true (fun K => B.pv (V.bin .lss v196 v197) fun v => K v h) fun v198 h =>
  B.pick v194 v198 (.bool false) fun v199 =>
  B.cond v199
  (B.call C f1 [v0, v1, v20, v18, v4] h fun v205 h =>
  zb.k1 C E f1 f2 Q v0 v3 v4 v18 v24 h)
  (zb.k1 C E f1 f2 Q v0 v3 v4 v18 v24 h)
@[simp] def zb.k3 (C : CSem) (E : zx) (f1 f2 : Nat) (Q : AVal → za → Prop) (v0 v1 v2 v3 v4 v18 v20 v24 : AVal) (h : za) : Prop :=
 B.pv (V.bin .lss v20 v2) fun v180 =>
  B.gd h v180 true (fun K => K v2 h) fun v182 h =>
  B.gd h v180 true (fun K => K v24 h) fun v183 h =>
  B.gd h v180 true (fun K => B.pv (V.bin .lss v182 v183) fun v => K v h) fun v184 h =>
  B.pick v180 v184 (.bool false) fun v185 =>
  B.cond v185
  (B.call C f2 [v0, v20, v2, v24, v4] h fun v191 h =>
  zb.k2 C E f1 f2 Q v0 v1 v3 v4 v18 v20 v24 h)
  (zb.k2 C E f1 f2 Q v0 v1 v3 v4 v18 v20 v24 h)
@[simp] def zb.k4 (C : CSem) (E : zx) (f1 f2 : Nat) (Q : AVal → za → Prop) (Y1 : List AVal → za → Prop) (v0 v1 v2 v3 v4 v18 v19 v20 v21 v22 : AVal) (h : za) : Prop :=
 B.pv (V.bin .lss v20 v21) fun v151 =>
  B.cond v151
  (B.pv (V.bin .add v20 v21) fun v154 =>
  B.pv (V.toInt .u64 v154) fun v155 =>
  B.pv (V.bin .shr v155 (.int .u64 1)) fun v156 =>
  B.pv (V.toInt .i64 v156) fun v157 =>
  B.pv (V.bin .sub v22 v157) fun v162 =>
  B.pv (V.idxS E.es v0 v162) fun v163 =>
  E.ld h v163 fun v164 =>
  B.pv (V.idxS E.es v0 v157) fun v167 =>
  E.ld h v167 fun v168 =>
  B.zjc h C v4 [v164, v168] fun v169 h =>
  B.pv (V.bin .lss v169 (.int .i64 0)) fun v170 =>
  B.pv (V.un .not v170) fun v171 =>
  B.cond v171
  (B.pv (V.bin .add v157 (.int .i64 1)) fun v173 =>
  Y1 [v173, v21] h)
  (Y1 [v20, v157] h))
  (B.pv (V.bin .sub v19 v20) fun v177 =>
  zb.k3 C E f1 f2 Q v0 v1 v2 v3 v4 v18 v20 v177 h)
@[simp] def zb.l5 (C : CSem) (E : zx) (f1 f2 : Nat) (Q : AVal → za → Prop) (v0 v1 v2 v3 v4 v18 v19 v22 : AVal) : List AVal → za → (List AVal → za → Prop) → Prop
 | [v20, v21], h, Y1 => zb.k4 C E f1 f2 Q Y1 v0 v1 v2 v3 v4 v18 v19 v20 v21 v22 h
 | _, _, _ => False
@[simp] def zb.k6 (C : CSem) (E : zx) (f1 f2 : Nat) (Q : AVal → za → Prop) (v0 v1 v2 v3 v4 v18 v19 : AVal) (h : za) : Prop :=
 B.pv (V.bin .gtr v2 v18) fun v140 =>
  B.cond v140
  (B.pv (V.bin .sub v19 v3) fun v143 =>
  B.pv (V.bin .sub v19 (.int .i64 1)) fun v148 =>
  zm (zb.l5 C E f1 f2 Q v0 v1 v2 v3 v4 v18 v19 v148) [v143, v18] h)
  (B.pv (V.bin .sub v19 (.int .i64 1)) fun v148 =>
  zm (zb.l5 C E f1 f2 Q v0 v1 v2 v3 v4 v18 v19 v148) [v1, v2] h)
@[simp] def zb.k7 (C : CSem) (E : zx) (f1 f2 : Nat) (Q : AVal → za → Prop) (v0 v1 v2 v3 v4 : AVal) (h : za) : Prop :=
 B.pv (V.bin .add v1 v3) fun v131 =>
  B.pv (V.toInt .u64 v131) fun v132 =>
  B.pv (V.bin .shr v132 (.int .u64 1)) fun v133 =>
  B.pv (V.toInt .i64 v133) fun v134 =>
  B.pv (V.bin .add v134 v2) fun v137 =>
  zb.k6 C E f1 f2 Q v0 v1 v2 v3 v4 v134 v137 h
@[simp] def zb.k8 (C : CSem) (E : zx) (f1 f2 : Nat) (Q : AVal → za → Prop) (Y2 : List AVal → za → Prop) (v0 v14 v17 : AVal) (h : za) : Prop :=
 B.pv (V.bin .gtr v17 v14) fun v110 =>
  B.cond v110
  (B.pv (V.bin .sub v17 (.int .i64 1)) fun v117 =>
  B.pv (V.bin .sub v17 (.int .i64 1)) fun v120 =>
  B.pv (V.idxS E.es v0 v120) fun v121 =>
  E.ld h v121 fun v122 =>
  B.pv (V.idxS E.es v0 v17) fun v125 =>
  E.ld h v125 fun v126 =>
  B.pv (V.idxS E.es v0 v17) fun v127 =>
  E.st h v127 v122 fun h =>
  B.pv (V.idxS E.es v0 v117) fun v128 =>
  E.st h v128 v126 fun h =>
  B.pv (V.bin .sub v17 (.int .i64 1)) fun v112 =>
  Y2 [v112] h)
  (Q (.tup []) h)
@[simp] def zb.l9 (C : CSem) (E : zx) (f1 f2 : Nat) (Q : AVal → za → Prop) (v0 v14 : AVal) : List AVal → za → (List AVal → za → Prop) → Prop
 | [v17], h, Y2 => zb.k8 C E f1 f2 Q Y2 v0 v14 v17 h
 | _, _, _ => False
@[simp] def zb.k10 (C : CSem) (E : zx) (f1 f2 : Nat) (Q : AVal → za → Prop) (Y3 : List AVal → za → Prop) (v0 v2 v4 v14 v15 : AVal) (h : za) : Prop :=
 B.pv (V.bin .lss v14 v15) fun v85 =>
  B.cond v85
  (B.pv (V.bin .add v14 v15) fun v88 =>
  B.pv (V.toInt .u64 v88) fun v89 =>
  B.pv (V.bin .shr v89 (.int .u64 1)) fun v90 =>
  B.pv (V.toInt .i64 v90) fun v91 =>
  B.pv (V.idxS E.es v0 v2) fun v95 =>
  E.ld h v95 fun v96 =>
  B.pv (V.idxS E.es v0 v91) fun v99 =>
  E.ld h v99 fun v100 =>
  B.zjc h C v4 [v96, v100] fun v101 h =>
  B.pv (V.bin .lss v101 (.int .i64 0)) fun v102 =>
  B.pv (V.un .not v102) fun v103 =>
  B.cond v103
  (B.pv (V.bin .add v91 (.int .i64 1)) fun v105 =>
  Y3 [v105, v15] h)
  (Y3 [v14, v91] h))
  (zm (zb.l9 C E f1 f2 Q v0 v14) [v2] h)
@[simp] def zb.l11 (C : CSem) (E : zx) (f1 f2 : Nat) (Q : AVal → za → Prop) (v0 v2 v4 : AVal) : List AVal → za → (List AVal → za → Prop) → Prop
 | [v14, v15], h, Y3 => zb.k10 C E f1 f2 Q Y3 v0 v2 v4 v14 v15 h
 | _, _, _ => False
@[simp] def zb.k12 (C : CSem) (E : zx) (f1 f2 : Nat) (Q : AVal → za → Prop) (v0 v1 v2 v3 v4 : AVal) (h : za) : Prop :=
 B.pv (V.bin .sub v3 v2) fun v79 =>
  B.pv (V.bin .eql v79 (.int .i64 1)) fun v80 =>
  B.cond v80 (zm (zb.l11 C E f1 f2 Q v0 v2 v4) [v1, v2] h) (zb.k7 C E f1 f2 Q v0 v1 v2 v3 v4 h)
@[simp] def zb.k13 (C : CSem) (E : zx) (f1 f2 : Nat) (Q : AVal → za → Prop) (Y4 : List AVal → za → Prop) (v0 v10 v13 : AVal) (h : za) : Prop :=
 B.pv (V.bin .sub v10 (.int .i64 1)) fun v57 =>
  B.pv (V.bin .lss v13 v57) fun v58 =>
  B.cond v58
  (B.pv (V.bin .add v13 (.int .i64 1)) fun v65 =>
  B.pv (V.bin .add v13 (.int .i64 1)) fun v68 =>
  B.pv (V.idxS E.es v0 v68) fun v69 =>
  E.ld h v69 fun v70 =>
  B.pv (V.idxS E.es v0 v13) fun v73 =>
  E.ld h v73 fun v74 =>
  B.pv (V.idxS E.es v0 v13) fun v75 =>
  E.st h v75 v70 fun h =>
  B.pv (V.idxS E.es v0 v65) fun v76 =>
  E.st h v76 v74 fun h =>
  B.pv (V.bin .add v13 (.int .i64 1)) fun v60 =>
  Y4 [v60] h)
  (Q (.tup []) h)
@[simp] def zb.l14 (C : CSem) (E : zx) (f1 f2 : Nat) (Q : AVal → za → Prop) (v0 v10 : AVal) : List AVal → za → (List AVal → za → Prop) → Prop
 | [v13], h, Y4 => zb.k13 C E f1 f2 Q Y4 v0 v10 v13 h
 | _, _, _ => False
@[simp] def zb.k15 (C : CSem) (E : zx) (f1 f2 : Nat) (Q : AVal → za → Prop) (Y5 : List AVal → za → Prop) (v0 v1 v4 v10 v11 : AVal) (h : za) : Prop :=
 B.pv (V.bin .lss v10 v11) fun v33 =>
  B.cond v33
  (B.pv (V.bin .add v10 v11) fun v36 =>
  B.pv (V.toInt .u64 v36) fun v37 =>
  B.pv (V.bin .shr v37 (.int .u64 1)) fun v38 =>
  B.pv (V.toInt .i64 v38) fun v39 =>
  B.pv (V.idxS E.es v0 v39) fun v43 =>
  E.ld h v43 fun v44 =>
  B.pv (V.idxS E.es v0 v1) fun v47 =>
  E.ld h v47 fun v48 =>
  B.zjc h C v4 [v44, v48] fun v49 h =>
  B.pv (V.bin .lss v49 (.int .i64 0)) fun v50 =>
  B.cond v50
  (B.pv (V.bin .add v39 (.int .i64 1)) fun v52 =>
  Y5 [v52, v11] h)
  (Y5 [v10, v39] h))
  (zm (zb.l14 C E f1 f2 Q v0 v10) [v1] h)
@[simp] def zb.l16 (C : CSem) (E : zx) (f1 f2 : Nat) (Q : AVal → za → Prop) (v0 v1 v4 : AVal) : List AVal → za → (List AVal → za → Prop) → Prop
 | [v10, v11], h, Y5 => zb.k15 C E f1 f2 Q Y5 v0 v1 v4 v10 v11 h
 | _, _, _ => False
@[simp] def zb.k17 (C : CSem) (E : zx) (f1 f2 : Nat) (Q : AVal → za → Prop) (v0 v1 v2 v3 v4 : AVal) (h : za) : Prop :=
 B.pv (V.bin .sub v2 v1) fun v27 =>
  B.pv (V.bin .eql v27 (.int .i64 1)) fun v28 =>
  B.cond v28 (zm (zb.l16 C E f1 f2 Q v0 v1 v4) [v2, v3] h) (zb.k12 C E f1 f2 Q v0 v1 v2 v3 v4 h)
@[simp] def zb.cps (C : CSem) (E : zx) (f1 f2 : Nat) (v0 v1 v2 v3 v4 : AVal) (h : za) (Q : AVal → za → Prop) : Prop :=
 zb.k17 C E f1 f2 Q v0 v1 v2 v3 v4 h
@[simp] def zbk.k1 (C : CSem) (E : zx) (f1 : Nat) (Q : AVal → za → Prop) (Y1 : List AVal → za → Prop) (v0 v2 v4 v10 v11 : AVal) (h : za) : Prop :=
 B.pv (V.bin .neq v10 v11) fun v20 =>
  B.cond v20
  (B.pv (V.bin .gtr v10 v11) fun v23 =>
  B.cond v23
  (B.pv (V.bin .sub v2 v10) fun v27 =>
  B.call C f1 [v0, v27, v2, v11, v4] h fun v31 h =>
  B.pv (V.bin .sub v10 v11) fun v34 =>
  Y1 [v34, v11] h)
  (B.pv (V.bin .sub v2 v10) fun v38 =>
  B.pv (V.bin .add v2 v11) fun v41 =>
  B.pv (V.bin .sub v41 v10) fun v43 =>
  B.call C f1 [v0, v38, v43, v10, v4] h fun v46 h =>
  B.pv (V.bin .sub v11 v10) fun v49 =>
  Y1 [v10, v49] h))
  (B.pv (V.bin .sub v2 v10) fun v53 =>
  B.call C f1 [v0, v53, v2, v10, v4] h fun v57 h =>
  Q (.tup []) h)
@[simp] def zbk.l2 (C : CSem) (E : zx) (f1 : Nat) (Q : AVal → za → Prop) (v0 v2 v4 : AVal) : List AVal → za → (List AVal → za → Prop) → Prop
 | [v10, v11], h, Y1 => zbk.k1 C E f1 Q Y1 v0 v2 v4 v10 v11 h
 | _, _, _ => False
@[simp] def zbk.cps (C : CSem) (E : zx) (f1 : Nat) (v0 v1 v2 v3 v4 : AVal) (h : za) (Q : AVal → za → Prop) : Prop :=
 B.pv (V.bin .sub v2 v1) fun v14 =>
  B.pv (V.bin .sub v3 v2) fun v17 =>
  zm (zbk.l2 C E f1 Q v0 v2 v4) [v14, v17] h
@[simp] def zbi.k1 (C : CSem) (E : zx) (Q : AVal → za → Prop) (Y1 : List AVal → za → Prop) (v0 v1 v2 v3 v10 : AVal) (h : za) : Prop :=
 B.pv (V.bin .lss v10 v3) fun v13 =>
  B.cond v13
  (B.pv (V.bin .add v1 v10) fun v19 =>
  B.pv (V.bin .add v2 v10) fun v23 =>
  B.pv (V.bin .add v2 v10) fun v27 =>
  B.pv (V.idxS E.es v0 v27) fun v28 =>
  E.ld h v28 fun v29 =>
  B.pv (V.bin .add v1 v10) fun v33 =>
  B.pv (V.idxS E.es v0 v33) fun v34 =>
  E.ld h v34 fun v35 =>
  B.pv (V.idxS E.es v0 v19) fun v36 =>
  E.st h v36 v29 fun h =>
  B.pv (V.idxS E.es v0 v23) fun v37 =>
  E.st h v37 v35 fun h =>
  B.pv (V.bin .add v10 (.int .i64 1)) fun v15 =>
  Y1 [v15] h)
  (Q (.tup []) h)
@[simp] def zbi.l2 (C : CSem) (E : zx) (Q : AVal → za → Prop) (v0 v1 v2 v3 : AVal) : List AVal → za → (List AVal → za → Prop) → Prop
 | [v10], h, Y1 => zbi.k1 C E Q Y1 v0 v1 v2 v3 v10 h
 | _, _, _ => False
@[simp] def zbi.cps (C : CSem) (E : zx) (v0 v1 v2 v3 v4 : AVal) (h : za) (Q : AVal → za → Prop) : Prop :=
 zm (zbi.l2 C E Q v0 v1 v2 v3) [(.int .i64 0)] h
@[simp] def zdz.k1 (C : CSem) (E : zx) (Q : AVal → za → Prop) (Y1 : List AVal → za → Prop) (v0 v1 v7 v8 : AVal) (h : za) : Prop :=
 B.pv (V.bin .lss v8 v7) fun v9 =>
  B.cond v9
  (B.pv (V.idxS E.es v0 v8) fun v14 =>
  E.ld h v14 fun v15 =>
  B.zjc h C v1 [v15] fun v16 h =>
  B.cond v16
  (Q v8 h)
  (B.pv (V.bin .add v8 (.int .i64 1)) fun v18 =>
  Y1 [v18] h))
  (Q (.int .i64 (-1)) h)
@[simp] def zdz.l2 (C : CSem) (E : zx) (Q : AVal → za → Prop) (v0 v1 v7 : AVal) : List AVal → za → (List AVal → za → Prop) → Prop
 | [v8], h, Y1 => zdz.k1 C E Q Y1 v0 v1 v7 v8 h
 | _, _, _ => False
@[simp] def zdz.cps (C : CSem) (E : zx) (v0 v1 : AVal) (h : za) (Q : AVal → za → Prop) : Prop :=
 B.pv (V.zcj v0) fun v7 =>
  zm (zdz.l2 C E Q v0 v1 v7) [(.int .i64 0)] h
@[simp] def zgq.cps (C : CSem) (E : zx) (f1 : Nat) (v0 v1 : AVal) (h : za) (Q : AVal → za → Prop) : Prop :=
 B.call C f1 [v0, v1] h fun v7 h =>
  B.pv (V.bin .geq v7 (.int .i64 0)) fun v8 =>
  Q v8 h
@[simp] def zbx.k1 (C : CSem) (E : zx) (f1 f2 f3 f4 f5 f6 f7 f8 f9 : Nat) (Q : AVal → za → Prop) (Y1 : List AVal → za → Prop) (v0 v1 v2 v3 v4 v10 v11 v12 v13 : AVal) (h : za) : Prop :=
 B.pv (V.bin .gtr v1 (.int .i64 0)) fun v82 =>
  B.gd h v82 true (fun K => K v4 h) fun v84 h =>
  B.gd h v82 true (fun K => K v0 h) fun v85 h =>
  B.gd h v82 true (fun K => K v1 h) fun v86 h =>
  B.gd h v82 true (fun K => B.pv (V.bin .sub v86 (.int .i64 1)) fun v => K v h) fun v87 h =>
  B.gd h v82 true (fun K => B.pv (V.idxS E.es v85 v87) fun v => K v h) fun v88 h =>
  B.gd h v82 true (fun K => E.ld h v88 fun v => K v h) fun v89 h =>
  B.gd h v82 true (fun K => K v0 h) fun v90 h =>
  B.gd h v82 true (fun K => K v13 h) fun v91 h =>
  B.gd h v82 true (fun K => B.pv (V.idxS E.es v90 v91) fun v => K v h) fun v92 h =>
  B.gd h v82 true (fun K => E.ld h v92 fun v => K v h) fun v93 h =>
  B.gd h v82 true (fun K => B.zjc h C v84 [v89, v93] K) fun v94 h =>
  B.gd h v82 true (fun K => B.pv (V.bin .lss v94 (.int .i64 0)) fun v => K v h) fun v95 h =>
  B.gd h v82 true (fun K => B.pv (V.un .not v95) fun v => K v h) fun v96 h =>
  B.pick v82 v96 (.bool false) fun v97 =>
  B.cond v97
  (B.call C f1 [v0, v1, v2, v13, v4] h fun v103 h =>
  Y1 [v103, v2, v3, v10, v11] h)
  (B.call C f2 [v0, v1, v2, v13, v4] h fun v111 h =>
  B.pv (V.ext 0 v111) fun v112 =>
  B.pv (V.ext 1 v111) fun v113 =>
  B.pv (V.bin .sub v112 v1) fun v117 =>
  B.pv (V.bin .sub v2 v112) fun v120 =>
  B.pv (V.bin .quo v12 (.int .i64 8)) fun v122 =>
  B.pv (V.bin .lss v117 v120) fun v125 =>
  B.cond v125
  (B.pv (V.bin .geq v117 v122) fun v128 =>
  B.call C f3 [v0, v1, v112, v3, v4] h fun v134 h =>
  B.pv (V.bin .add v112 (.int .i64 1)) fun v136 =>
  Y1 [v136, v2, v3, v128, v113] h)
  (B.pv (V.bin .geq v120 v122) fun v139 =>
  B.pv (V.bin .add v112 (.int .i64 1)) fun v142 =>
  B.call C f3 [v0, v142, v2, v3, v4] h fun v146 h =>
  Y1 [v1, v112, v3, v139, v113] h))
@[simp] def zbx.k2 (C : CSem) (E : zx) (f1 f2 f3 f4 f5 f6 f7 f8 f9 : Nat) (Q : AVal → za → Prop) (Y1 : List AVal → za → Prop) (v0 v1 v2 v3 v4 v10 v11 v12 v13 v14 : AVal) (h : za) : Prop :=
 B.gd h v10 true (fun K => K v11 h) fun v70 h =>
  B.pick v10 v70 (.bool false) fun v71 =>
  B.gd h v71 true (fun K => K v14 h) fun v73 h =>
  B.gd h v71 true (fun K => B.pv (V.bin .eql v73 (.int .i64 1)) fun v => K v h) fun v74 h =>
  B.pick v71 v74 (.bool false) fun v75 =>
  B.cond v75
  (B.call C f4 [v0, v1, v2, v4] h fun v80 h =>
  B.cond v80
  (Q (.tup []) h)
  (zbx.k1 C E f1 f2 f3 f4 f5 f6 f7 f8 f9 Q Y1 v0 v1 v2 v3 v4 v10 v11 v12 v13 h))
  (zbx.k1 C E f1 f2 f3 f4 f5 f6 f7 f8 f9 Q Y1 v0 v1 v2 v3 v4 v10 v11 v12 v13 h)
@[simp] def zbx.k3 (C : CSem) (E : zx) (f1 f2 f3 f4 f5 f6 f7 f8 f9 : Nat) (Q : AVal → za → Prop) (Y1 : List AVal → za → Prop) (v0 v1 v2 v3 v4 v10 v11 v12 v13 v14 : AVal) (h : za) : Prop :=
 B.pv (V.bin .eql v14 (.int .i64 2)) fun v56 =>
  B.cond v56
  (B.call C f5 [v0, v1, v2, v4] h fun v61 h =>
  B.pv (V.bin .sub v2 (.int .i64 1)) fun v63 =>
  B.pv (V.bin .sub v13 v1) fun v66 =>
  B.pv (V.bin .sub v63 v66) fun v67 =>
  zbx.k2 C E f1 f2 f3 f4 f5 f6 f7 f8 f9 Q Y1 v0 v1 v2 v3 v4 v10 v11 v12 v67 (.int .i64 1) h)
  (zbx.k2 C E f1 f2 f3 f4 f5 f6 f7 f8 f9 Q Y1 v0 v1 v2 v3 v4 v10 v11 v12 v13 v14 h)
@[simp] def zbx.k4 (C : CSem) (E : zx) (f1 f2 f3 f4 f5 f6 f7 f8 f9 : Nat) (Q : AVal → za → Prop) (Y1 : List AVal → za → Prop) (v0 v1 v2 v3 v4 v10 v11 v12 : AVal) (h : za) : Prop :=
 B.call C f6 [v0, v1, v2, v4] h fun v52 h =>
  B.pv (V.ext 0 v52) fun v53 =>
  B.pv (V.ext 1 v52) fun v54 =>
  zbx.k3 C E f1 f2 f3 f4 f5 f6 f7 f8 f9 Q Y1 v0 v1 v2 v3 v4 v10 v11 v12 v53 v54 h
@[simp] def zbx.k5 (C : CSem) (E : zx) (f1 f2 f3 f4 f5 f6 f7 f8 f9 : Nat) (Q : AVal → za → Prop) (Y1 : List AVal → za → Prop) (v0 v1 v2 v3 v4 v10 v11 v12 : AVal) (h : za) : Prop :=
 B.pv (V.un .not v10) fun v39 =>
  B.cond v39
  (B.call C f7 [v0, v1, v2, v4] h fun v44 h =>
  B.pv (V.bin .sub v3 (.int .i64 1)) fun v46 =>
  zbx.k4 C E f1 f2 f3 f4 f5 f6 f7 f8 f9 Q Y1 v0 v1 v2 v46 v4 v10 v11 v12 h)
  (zbx.k4 C E f1 f2 f3 f4 f5 f6 f7 f8 f9 Q Y1 v0 v1 v2 v3 v4 v10 v11 v12 h)
@[simp] def zbx.k6 (C : CSem) (E : zx) (f1 f2 f3 f4 f5 f6 f7 f8 f9 : Nat) (Q : AVal → za → Prop) (Y1 : List AVal → za → Prop) (v0 v1 v2 v3 v4 v10 v11 v12 : AVal) (h : za) : Prop :=
 B.pv (V.bin .eql v3 (.int .i64 0)) fun v32 =>
  B.cond v32
  (B.call C f8 [v0, v1, v2, v4] h fun v37 h =>
  Q (.tup []) h)
  (zbx.k5 C E f1 f2 f3 f4 f5 f6 f7 f8 f9 Q Y1 v0 v1 v2 v3 v4 v10 v11 v12 h)
@[simp] def zbx.k7 (C : CSem) (E : zx) (f1 f2 f3 f4 f5 f6 f7 f8 f9 : Nat) (Q : AVal → za → Prop) (Y1 : List AVal → za → Prop) (v0 v1 v2 v3 v4 v10 v11 v12 : AVal) (h : za) : Prop :=
 B.pv (V.bin .leq v12 (.int .i64 12)) fun v25 =>
  B.cond v25
  (B.call C f9 [v0, v1, v2, v4] h fun v30 h =>
  Q (.tup []) h)
  (zbx.k6 C E f1 f2 f3 f4 f5 f6 f7 f8 f9 Q Y1 v0 v1 v2 v3 v4 v10 v11 v12 h)
@[simp] def zbx.l8 (C : CSem) (E : zx) (f1 f2 f3 f4 f5 f6 f7 f8 f9 : Nat) (Q : AVal → za → Prop) (v0 v4 : AVal) : List AVal → za → (List AVal → za → Prop) → Prop
 | [v1, v2, v3, v10, v11], h, Y1 => B.pv (V.bin .sub v2 v1) fun v23 =>
  zbx.k7 C E f1 f2 f3 f4 f5 f6 f7 f8 f9 Q Y1 v0 v1 v2 v3 v4 v10 v11 v23 h
 | _, _, _ => False
@[simp] def zpx.cps (C : CSem) (E : zx) (v0 : AVal) (h : za) (Q : AVal → za → Prop) : Prop :=
 B.pv (V.zcj v0) fun v5 =>
  B.pv (V.zcj v0) fun v7 =>
  B.pv (V.cut3 E.es v0 (.int .i64 0) v5 v7) fun v8 =>
  Q v8 h
@[simp] def zhb.k1 (C : CSem) (E : zx) (f1 f2 : Nat) (Q : AVal → za → Prop) (v0 : AVal) (h : za) : Prop :=
 B.pv (V.zcj v0) fun v4 =>
  B.pv (V.toInt .u64 v4) fun v8 =>
  B.call C f1 [v8] h fun v9 h =>
  B.call C f2 [v0, (.int .i64 0), v4, v9] h fun v10 h =>
  Q (.tup []) h
@[simp] def zhb.cps (C : CSem) (E : zx) (f1 f2 : Nat) (v0 : AVal) (h : za) (Q : AVal → za → Prop) : Prop :=
 zhb.k1 C E f1 f2 Q v0 h
@[simp] def zb2.k1 (C : CSem) (E : zx) (Q : AVal → za → Prop) (Y1 : List AVal → za → Prop) (Y2 : List AVal → za → Prop) (v0 v3 v4 v5 : AVal) (h : za) : Prop :=
 B.pv (V.zcj v4) fun v31 =>
  B.pv (V.bin .lss v5 v31) fun v32 =>
  B.cond v32
  (B.pv (V.idxS E.es v4 v5) fun v37 =>
  E.ld h v37 fun v38 =>
  B.pv (V.bin .sub v5 (.int .i64 1)) fun v41 =>
  B.pv (V.idxS E.es v4 v41) fun v42 =>
  E.ld h v42 fun v43 =>
  B.pv (V.bin .neq v38 v43) fun v44 =>
  B.cond v44
  (B.pv (V.idxS E.es v4 v5) fun v49 =>
  E.ld h v49 fun v50 =>
  B.pv (V.idxS E.es v0 v3) fun v51 =>
  E.st h v51 v50 fun h =>
  B.pv (V.bin .add v3 (.int .i64 1)) fun v53 =>
  B.pv (V.bin .add v5 (.int .i64 1)) fun v34 =>
  Y2 [v53, v34] h)
  (B.pv (V.bin .add v5 (.int .i64 1)) fun v34 =>
  Y2 [v3, v34] h))
  (B.pv (V.zhe E.es v0 (some v3) none) fun v56 =>
  B.clr h E.z v56 fun _ h =>
  B.pv (V.zhe E.es v0 none (some v3)) fun v59 =>
  Q v59 h)
@[simp] def zb2.l2 (C : CSem) (E : zx) (Q : AVal → za → Prop) (Y1 : List AVal → za → Prop) (v0 v4 : AVal) : List AVal → za → (List AVal → za → Prop) → Prop
 | [v3, v5], h, Y2 => zb2.k1 C E Q Y1 Y2 v0 v3 v4 v5 h
 | _, _, _ => False
@[simp] def zb2.k3 (C : CSem) (E : zx) (Q : AVal → za → Prop) (Y1 : List AVal → za → Prop) (v0 v3 : AVal) (h : za) : Prop :=
 B.pv (V.idxS E.es v0 v3) fun v18 =>
  E.ld h v18 fun v19 =>
  B.pv (V.bin .sub v3 (.int .i64 1)) fun v22 =>
  B.pv (V.idxS E.es v0 v22) fun v23 =>
  E.ld h v23 fun v24 =>
  B.pv (V.bin .eql v19 v24) fun v25 =>
  B.cond v25 (B.pv (V.zhe E.es v0 (some v3) none) fun v28 =>
  zm (zb2.l2 C E Q Y1 v0 v28) [v3, (.int .i64 1)] h) (B.pv (V.bin .add v3 (.int .i64 1)) fun v15 =>
  Y1 [v15] h)
@[simp] def zb2.l4 (C : CSem) (E : zx) (Q : AVal → za → Prop) (v0 : AVal) : List AVal → za → (List AVal → za → Prop) → Prop
 | [v3], h, Y1 => B.pv (V.zcj v0) fun v12 =>
  B.pv (V.bin .lss v3 v12) fun v13 =>
  B.cond v13
  (zb2.k3 C E Q Y1 v0 v3 h)
  (Q v0 h)
 | _, _, _ => False
@[simp] def zb2.k5 (C : CSem) (E : zx) (Q : AVal → za → Prop) (v0 : AVal) (h : za) : Prop :=
 B.pv (V.zcj v0) fun v7 =>
  B.pv (V.bin .lss v7 (.int .i64 2)) fun v8 =>
  B.cond v8
  (Q v0 h)
  (zm (zb2.l4 C E Q v0) [(.int .i64 1)] h)
@[simp] def zb2.cps (C : CSem) (E : zx) (v0 : AVal) (h : za) (Q : AVal → za → Prop) : Prop :=
 zb2.k5 C E Q v0 h
@[simp] def zr.k1 (C : CSem) (E : zx) (f1 f2 f3 f4 f5 f6 f7 f8 f9 f10 : Nat) (Q : AVal → za → Prop) (Y1 : List AVal → za → Prop) (v0 v1 v2 v3 v8 v9 v10 v11 : AVal) (h : za) : Prop :=
 B.pv (V.bin .gtr v1 (.int .i64 0)) fun v74 =>
  B.gd h v74 true (fun K => K v0 h) fun v76 h =>
  B.gd h v74 true (fun K => K v1 h) fun v77 h =>
  B.gd h v74 true (fun K => B.pv (V.bin .sub v77 (.int .i64 1)) fun v => K v h) fun v78 h =>
  B.gd h v74 true (fun K => B.pv (V.idxS E.es v76 v78) fun v => K v h) fun v79 h =>
  B.gd h v74 true (fun K => E.ld h v79 fun v => K v h) fun v80 h =>
  B.gd h v74 true (fun K => K v0 h) fun v81 h =>
  B.gd h v74 true (fun K => K v11 h) fun v82 h =>
  B.gd h v74 true (fun K => B.pv (V.idxS E.es v81 v82) fun v => K v h) fun v83 h =>
  B.gd h v74 true (fun K => E.ld h v83 fun v => K v h) fun v84 h =>
  B.gd h v74 true (fun K => B.call C f1 [v80, v84] h K) fun v85 h =>
  B.gd h v74 true (fun K => B.pv (V.un .not v85) fun v => K v h) fun v86 h =>
  B.pick v74 v86 (.bool false) fun v87 =>
  B.cond v87
  (B.call C f2 [v0, v1, v2, v11] h fun v92 h =>
  Y1 [v92, v2, v3, v8, v9] h)
  (B.call C f3 [v0, v1, v2, v11] h fun v99 h =>
  B.pv (V.ext 0 v99) fun v100 =>
  B.pv (V.ext 1 v99) fun v101 =>
  B.pv (V.bin .sub v100 v1) fun v105 =>
  B.pv (V.bin .sub v2 v100) fun v108 =>
  B.pv (V.bin .quo v10 (.int .i64 8)) fun v110 =>
  B.pv (V.bin .lss v105 v108) fun v113 =>
  B.cond v113
  (B.pv (V.bin .geq v105 v110) fun v116 =>
  B.call C f4 [v0, v1, v100, v3] h fun v121 h =>
  B.pv (V.bin .add v100 (.int .i64 1)) fun v123 =>
  Y1 [v123, v2, v3, v116, v101] h)
  (B.pv (V.bin .geq v108 v110) fun v126 =>
  B.pv (V.bin .add v100 (.int .i64 1)) fun v129 =>
  B.call C f4 [v0, v129, v2, v3] h fun v132 h =>
  Y1 [v1, v100, v3, v126, v101] h))
@[simp] def zr.k2 (C : CSem) (E : zx) (f1 f2 f3 f4 f5 f6 f7 f8 f9 f10 : Nat) (Q : AVal → za → Prop) (Y1 : List AVal → za → Prop) (v0 v1 v2 v3 v8 v9 v10 v11 v12 : AVal) (h : za) : Prop :=
 B.gd h v8 true (fun K => K v9 h) fun v63 h =>
  B.pick v8 v63 (.bool false) fun v64 =>
  B.gd h v64 true (fun K => K v12 h) fun v66 h =>
  B.gd h v64 true (fun K => B.pv (V.bin .eql v66 (.int .i64 1)) fun v => K v h) fun v67 h =>
  B.pick v64 v67 (.bool false) fun v68 =>
  B.cond v68
  (B.call C f5 [v0, v1, v2] h fun v72 h =>
  B.cond v72
  (Q (.tup []) h)
  (zr.k1 C E f1 f2 f3 f4 f5 f6 f7 f8 f9 f10 Q Y1 v0 v1 v2 v3 v8 v9 v10 v11 h))
  (zr.k1 C E f1 f2 f3 f4 f5 f6 f7 f8 f9 f10 Q Y1 v0 v1 v2 v3 v8 v9 v10 v11 h)
@[simp] def zr.k3 (C : CSem) (E : zx) (f1 f2 f3 f4 f5 f6 f7 f8 f9 f10 : Nat) (Q : AVal → za → Prop) (Y1 : List AVal → za → Prop) (v0 v1 v2 v3 v8 v9 v10 v11 v12 : AVal) (h : za) : Prop :=
 B.pv (V.bin .eql v12 (.int .i64 2)) fun v50 =>
  B.cond v50
  (B.call C f6 [v0, v1, v2] h fun v54 h =>
  B.pv (V.bin .sub v2 (.int .i64 1)) fun v56 =>
  B.pv (V.bin .sub v11 v1) fun v59 =>
  B.pv (V.bin .sub v56 v59) fun v60 =>
  zr.k2 C E f1 f2 f3 f4 f5 f6 f7 f8 f9 f10 Q Y1 v0 v1 v2 v3 v8 v9 v10 v60 (.int .i64 1) h)
  (zr.k2 C E f1 f2 f3 f4 f5 f6 f7 f8 f9 f10 Q Y1 v0 v1 v2 v3 v8 v9 v10 v11 v12 h)
@[simp] def zr.k4 (C : CSem) (E : zx) (f1 f2 f3 f4 f5 f6 f7 f8 f9 f10 : Nat) (Q : AVal → za → Prop) (Y1 : List AVal → za → Prop) (v0 v1 v2 v3 v8 v9 v10 : AVal) (h : za) : Prop :=
 B.call C f7 [v0, v1, v2] h fun v46 h =>
  B.pv (V.ext 0 v46) fun v47 =>
  B.pv (V.ext 1 v46) fun v48 =>
  zr.k3 C E f1 f2 f3 f4 f5 f6 f7 f8 f9 f10 Q Y1 v0 v1 v2 v3 v8 v9 v10 v47 v48 h
@[simp] def zr.k5 (C : CSem) (E : zx) (f1 f2 f3 f4 f5 f6 f7 f8 f9 f10 : Nat) (Q : AVal → za → Prop) (Y1 : List AVal → za → Prop) (v0 v1 v2 v3 v8 v9 v10 : AVal) (h : za) : Prop :=
 B.pv (V.un .not v8) fun v35 =>
  B.cond v35
  (B.call C f8 [v0, v1, v2] h fun v39 h =>
  B.pv (V.bin .sub v3 (.int .i64 1)) fun v41 =>
  zr.k4 C E f1 f2 f3 f4 f5 f6 f7 f8 f9 f10 Q Y1 v0 v1 v2 v41 v8 v9 v10 h)
  (zr.k4 C E f1 f2 f3 f4 f5 f6 f7 f8 f9 f10 Q Y1 v0 v1 v2 v3 v8 v9 v10 h)
@[simp] def zr.k6 (C : CSem) (E : zx) (f1 f2 f3 f4 f5 f6 f7 f8 f9 f10 : Nat) (Q : AVal → za → Prop) (Y1 : List AVal → za → Prop) (v0 v1 v2 v3 v8 v9 v10 : AVal) (h : za) : Prop :=
 B.pv (V.bin .eql v3 (.int .i64 0)) fun v29 =>
  B.cond v29
  (B.call C f9 [v0, v1, v2] h fun v33 h =>
  Q (.tup []) h)
  (zr.k5 C E f1 f2 f3 f4 f5 f6 f7 f8 f9 f10 Q Y1 v0 v1 v2 v3 v8 v9 v10 h)
@[simp] def zr.k7 (C : CSem) (E : zx) (f1 f2 f3 f4 f5 f6 f7 f8 f9 f10 : Nat) (Q : AVal → za → Prop) (Y1 : List AVal → za → Prop) (v0 v1 v2 v3 v8 v9 v10 : AVal) (h : za) : Prop :=
 B.pv (V.bin .leq v10 (.int .i64 12)) fun v23 =>
  B.cond v23
  (B.call C f10 [v0, v1, v2] h fun v27 h =>
  Q (.tup []) h)
  (zr.k6 C E f1 f2 f3 f4 f5 f6 f7 f8 f9 f10 Q Y1 v0 v1 v2 v3 v8 v9 v10 h)
@[simp] def zr.l8 (C : CSem) (E : zx) (f1 f2 f3 f4 f5 f6 f7 f8 f9 f10 : Nat) (Q : AVal → za → Prop) (v0 : AVal) : List AVal → za → (List AVal → za → Prop) → Prop
 | [v1, v2, v3, v8, v9], h, Y1 => B.pv (V.bin .sub v2 v1) fun v21 =>
  zr.k7 C E f1 f2 f3 f4 f5 f6 f7 f8 f9 f10 Q Y1 v0 v1 v2 v3 v8 v9 v21 h
 | _, _, _ => False
@[simp] def zr.cps (C : CSem) (E : zx) (f1 f2 f3 f4 f5 f6 f7 f8 f9 f10 : Nat) (v0 v1 v2 v3 : AVal) (h : za) (Q : AVal → za → Prop) : Prop :=
 zm (zr.l8 C E f1 f2 f3 f4 f5 f6 f7 f8 f9 f10 Q v0) [v1, v2, v3, (.bool true), (.bool true)] h
@[simp] def zbn.k1 (C : CSem) (E : zx) (f1 : Nat) (Q : AVal → za → Prop) (Y1 : List AVal → za → Prop) (Y2 : List AVal → za → Prop) (v0 v1 v2 v6 v7 : AVal) (h : za) : Prop :=
 B.pv (V.bin .gtr v7 v1) fun v18 =>
  B.gd h v18 true (fun K => K v0 h) fun v20 h =>
  B.gd h v18 true (fun K => K v7 h) fun v21 h =>
  B.gd h v18 true (fun K => B.pv (V.idxS E.es v20 v21) fun v => K v h) fun v22 h =>
  B.gd h v18 true (fun K => E.ld h v22 fun v => K v h) fun v23 h =>
  B.gd h v18 true (fun K => K v0 h) fun v24 h =>
  B.gd h v18 true (fun K => K v7 h) fun v25 h =>
  B.gd h v18 true (fun K => B.pv (V.bin .sub v25 (.int .i64 1)) fun v => K v h) fun v26 h =>
  B.gd h v18 true (fun K => B.pv (V.idxS E.es v24 v26) fun v => K v h) fun v27 h =>
  B.gd h v18 true (fun K => E.ld h v27 fun v => K v h) fun v28 h =>
  B.gd h v18 true (fun K => B.call C f1 [v23, v28] h K) fun v29 h =>
  B.pick v18 v29 (.bool false) fun v30 =>
  B.cond v30
  (B.pv (V.bin .sub v7 (.int .i64 1)) fun v37 =>
  B.pv (V.bin .sub v7 (.int .i64 1)) fun v40 =>
  B.pv (V.idxS E.es v0 v40) fun v41 =>
  E.ld h v41 fun v42 =>
  B.pv (V.idxS E.es v0 v7) fun v45 =>
  E.ld h v45 fun v46 =>
  B.pv (V.idxS E.es v0 v7) fun v47 =>
  E.st h v47 v42 fun h =>
  B.pv (V.idxS E.es v0 v37) fun v48 =>
  E.st h v48 v46 fun h =>
  B.pv (V.bin .sub v7 (.int .i64 1)) fun v32 =>
  Y2 [v32] h)
  (B.pv (V.bin .add v6 (.int .i64 1)) fun v14 =>
  Y1 [v14] h)
@[simp] def zbn.l2 (C : CSem) (E : zx) (f1 : Nat) (Q : AVal → za → Prop) (Y1 : List AVal → za → Prop) (v0 v1 v2 v6 : AVal) : List AVal → za → (List AVal → za → Prop) → Prop
 | [v7], h, Y2 => zbn.k1 C E f1 Q Y1 Y2 v0 v1 v2 v6 v7 h
 | _, _, _ => False
@[simp] def zbn.l3 (C : CSem) (E : zx) (f1 : Nat) (Q : AVal → za → Prop) (v0 v1 v2 : AVal) : List AVal → za → (List AVal → za → Prop) → Prop
 | [v6], h, Y1 => B.pv (V.bin .lss v6 v2) fun v12 =>
  B.cond v12
  (zm (zbn.l2 C E f1 Q Y1 v0 v1 v2 v6) [v6] h)
  (Q (.tup []) h)
 | _, _, _ => False
@[simp] def zbn.cps (C : CSem) (E : zx) (f1 : Nat) (v0 v1 v2 : AVal) (h : za) (Q : AVal → za → Prop) : Prop :=
 B.pv (V.bin .add v1 (.int .i64 1)) fun v9 =>
  zm (zbn.l3 C E f1 Q v0 v1 v2) [v9] h
@[simp] def zbf.k1 (C : CSem) (E : zx) (f1 : Nat) (Q : AVal → za → Prop) (Y1 : List AVal → za → Prop) (v0 v6 v7 v10 : AVal) (h : za) : Prop :=
 B.pv (V.bin .geq v10 (.int .i64 0)) fun v30 =>
  B.cond v30
  (B.pv (V.bin .add v6 v10) fun v38 =>
  B.pv (V.bin .add v6 v10) fun v42 =>
  B.pv (V.idxS E.es v0 v42) fun v43 =>
  E.ld h v43 fun v44 =>
  B.pv (V.idxS E.es v0 v6) fun v47 =>
  E.ld h v47 fun v48 =>
  B.pv (V.idxS E.es v0 v6) fun v49 =>
  E.st h v49 v44 fun h =>
  B.pv (V.idxS E.es v0 v38) fun v50 =>
  E.st h v50 v48 fun h =>
  B.call C f1 [v0, v7, v10, v6] h fun v55 h =>
  B.pv (V.bin .sub v10 (.int .i64 1)) fun v32 =>
  Y1 [v32] h)
  (Q (.tup []) h)
@[simp] def zbf.l2 (C : CSem) (E : zx) (f1 : Nat) (Q : AVal → za → Prop) (v0 v6 v7 : AVal) : List AVal → za → (List AVal → za → Prop) → Prop
 | [v10], h, Y1 => zbf.k1 C E f1 Q Y1 v0 v6 v7 v10 h
 | _, _, _ => False
@[simp] def zbf.k3 (C : CSem) (E : zx) (f1 : Nat) (Q : AVal → za → Prop) (Y2 : List AVal → za → Prop) (v0 v6 v7 v8 v9 : AVal) (h : za) : Prop :=
 B.pv (V.bin .geq v9 (.int .i64 0)) fun v19 =>
  B.cond v19
  (B.call C f1 [v0, v9, v8, v6] h fun v26 h =>
  B.pv (V.bin .sub v9 (.int .i64 1)) fun v21 =>
  Y2 [v21] h)
  (B.pv (V.bin .sub v8 (.int .i64 1)) fun v28 =>
  zm (zbf.l2 C E f1 Q v0 v6 v7) [v28] h)
@[simp] def zbf.l4 (C : CSem) (E : zx) (f1 : Nat) (Q : AVal → za → Prop) (v0 v6 v7 v8 : AVal) : List AVal → za → (List AVal → za → Prop) → Prop
 | [v9], h, Y2 => zbf.k3 C E f1 Q Y2 v0 v6 v7 v8 v9 h
 | _, _, _ => False
@[simp] def zbf.k5 (C : CSem) (E : zx) (f1 : Nat) (Q : AVal → za → Prop) (v0 v6 v7 v8 : AVal) (h : za) : Prop :=
 B.pv (V.bin .sub v8 (.int .i64 1)) fun v16 =>
  B.pv (V.bin .quo v16 (.int .i64 2)) fun v17 =>
  zm (zbf.l4 C E f1 Q v0 v6 v7 v8) [v17] h
@[simp] def zbf.cps (C : CSem) (E : zx) (f1 : Nat) (v0 v1 v2 : AVal) (h : za) (Q : AVal → za → Prop) : Prop :=
 B.pv (V.bin .sub v2 v1) fun v14 =>
  zbf.k5 C E f1 Q v0 v1 (.int .i64 0) v14 h
@[simp] def zj.k1 (C : CSem) (E : zx) (f1 f2 : Nat) (Q : AVal → za → Prop) (Y1 : List AVal → za → Prop) (v0 v1 v6 v7 v8 v9 v10 : AVal) (h : za) : Prop :=
 B.pv (V.bin .add v1 v10) fun v52 =>
  B.pv (V.bin .add v1 v10) fun v56 =>
  B.pv (V.idxS E.es v0 v56) fun v57 =>
  E.ld h v57 fun v58 =>
  B.pv (V.idxS E.es v0 v9) fun v61 =>
  E.ld h v61 fun v62 =>
  B.pv (V.idxS E.es v0 v9) fun v63 =>
  E.st h v63 v58 fun h =>
  B.pv (V.idxS E.es v0 v52) fun v64 =>
  E.st h v64 v62 fun h =>
  B.pv (V.bin .add v9 (.int .i64 1)) fun v35 =>
  Y1 [v35] h
@[simp] def zj.k2 (C : CSem) (E : zx) (f1 f2 : Nat) (Q : AVal → za → Prop) (Y1 : List AVal → za → Prop) (v0 v1 v6 v7 v8 v9 v10 : AVal) (h : za) : Prop :=
 B.pv (V.bin .geq v10 v6) fun v43 =>
  B.cond v43
  (B.pv (V.bin .sub v10 v6) fun v46 =>
  zj.k1 C E f1 f2 Q Y1 v0 v1 v6 v7 v8 v9 v46 h)
  (zj.k1 C E f1 f2 Q Y1 v0 v1 v6 v7 v8 v9 v10 h)
@[simp] def zj.k3 (C : CSem) (E : zx) (f1 f2 : Nat) (Q : AVal → za → Prop) (Y1 : List AVal → za → Prop) (v0 v1 v6 v7 v8 v9 : AVal) (h : za) : Prop :=
 B.call C f1 [v7] h fun v36 h =>
  B.pv (V.bin .sub v8 (.int .u64 1)) fun v38 =>
  B.pv (V.bin .and v36 v38) fun v39 =>
  B.pv (V.toInt .i64 v39) fun v40 =>
  zj.k2 C E f1 f2 Q Y1 v0 v1 v6 v7 v8 v9 v40 h
@[simp] def zj.k4 (C : CSem) (E : zx) (f1 f2 : Nat) (Q : AVal → za → Prop) (Y1 : List AVal → za → Prop) (v0 v1 v6 v7 v8 v9 : AVal) (h : za) : Prop :=
 B.pv (V.bin .quo v6 (.int .i64 4)) fun v29 =>
  B.pv (V.bin .mul v29 (.int .i64 2)) fun v30 =>
  B.pv (V.bin .add v1 v30) fun v31 =>
  B.pv (V.bin .add v31 (.int .i64 1)) fun v32 =>
  B.pv (V.bin .leq v9 v32) fun v33 =>
  B.cond v33
  (zj.k3 C E f1 f2 Q Y1 v0 v1 v6 v7 v8 v9 h)
  (Q (.tup []) h)
@[simp] def zj.l5 (C : CSem) (E : zx) (f1 f2 : Nat) (Q : AVal → za → Prop) (v0 v1 v6 v7 v8 : AVal) : List AVal → za → (List AVal → za → Prop) → Prop
 | [v9], h, Y1 => zj.k4 C E f1 f2 Q Y1 v0 v1 v6 v7 v8 v9 h
 | _, _, _ => False
@[simp] def zj.k6 (C : CSem) (E : zx) (f1 f2 : Nat) (Q : AVal → za → Prop) (v0 v1 v6 v7 v8 : AVal) (h : za) : Prop :=
 B.pv (V.bin .quo v6 (.int .i64 4)) fun v22 =>
  B.pv (V.bin .mul v22 (.int .i64 2)) fun v23 =>
  B.pv (V.bin .add v1 v23) fun v24 =>
  B.pv (V.bin .sub v24 (.int .i64 1)) fun v25 =>
  zm (zj.l5 C E f1 f2 Q v0 v1 v6 v7 v8) [v25] h
@[simp] def zj.k7 (C : CSem) (E : zx) (f1 f2 : Nat) (Q : AVal → za → Prop) (v0 v1 v6 : AVal) (h : za) : Prop :=
 B.pv (V.toInt .u64 v6) fun v17 =>
  B.newO h (some [.int .u64 0]) fun i7 h =>
  B.st h (.ptr i7 0 0) v17 fun h =>
  B.call C f2 [v6] h fun v19 h =>
  zj.k6 C E f1 f2 Q v0 v1 v6 (.ptr i7 0 0) v19 h
@[simp] def zj.k8 (C : CSem) (E : zx) (f1 f2 : Nat) (Q : AVal → za → Prop) (v0 v1 v2 : AVal) (h : za) : Prop :=
 B.pv (V.bin .sub v2 v1) fun v13 =>
  B.pv (V.bin .geq v13 (.int .i64 8)) fun v15 =>
  B.cond v15 (zj.k7 C E f1 f2 Q v0 v1 v13 h) (Q (.tup []) h)
@[simp] def zj.cps (C : CSem) (E : zx) (f1 f2 : Nat) (v0 v1 v2 : AVal) (h : za) (Q : AVal → za → Prop) : Prop :=
 zj.k8 C E f1 f2 Q v0 v1 v2 h
@[simp] def z3.k1 (C : CSem) (E : zx) (f1 f2 : Nat) (Q : AVal → za → Prop) (v9 v11 : AVal) (h : za) : Prop :=
 B.ld h v9 fun v49 =>
  B.pv (V.bin .eql v49 (.int .i64 0)) fun v52 =>
  B.cond v52
  (Q (.tup [v11, (.int .i64 1)]) h)
  (B.pv (V.bin .eql v49 (.int .i64 12)) fun v55 =>
  B.cond v55
  (Q (.tup [v11, (.int .i64 2)]) h)
  (Q (.tup [v11, (.int .i64 0)]) h))
@[simp] def z3.k2 (C : CSem) (E : zx) (f1 f2 : Nat) (Q : AVal → za → Prop) (v0 v8 v9 v10 v11 v12 : AVal) (h : za) : Prop :=
 B.pv (V.bin .geq v8 (.int .i64 8)) fun v32 =>
  B.cond v32
  (B.pv (V.bin .geq v8 (.int .i64 50)) fun v34 =>
  B.cond v34
  (B.call C f1 [v0, v10, v9] h fun v37 h =>
  B.call C f1 [v0, v11, v9] h fun v40 h =>
  B.call C f1 [v0, v12, v9] h fun v43 h =>
  B.call C f2 [v0, v37, v40, v43, v9] h fun v48 h =>
  z3.k1 C E f1 f2 Q v9 v48 h)
  (B.call C f2 [v0, v10, v11, v12, v9] h fun v48 h =>
  z3.k1 C E f1 f2 Q v9 v48 h))
  (z3.k1 C E f1 f2 Q v9 v11 h)
@[simp] def z3.k3 (C : CSem) (E : zx) (f1 f2 : Nat) (Q : AVal → za → Prop) (v0 v1 v8 v9 v10 v11 : AVal) (h : za) : Prop :=
 B.pv (V.bin .quo v8 (.int .i64 4)) fun v28 =>
  B.pv (V.bin .mul v28 (.int .i64 3)) fun v29 =>
  B.pv (V.bin .add v1 v29) fun v30 =>
  z3.k2 C E f1 f2 Q v0 v8 v9 v10 v11 v30 h
@[simp] def z3.k4 (C : CSem) (E : zx) (f1 f2 : Nat) (Q : AVal → za → Prop) (v0 v1 v8 v9 v10 : AVal) (h : za) : Prop :=
 B.pv (V.bin .quo v8 (.int .i64 4)) fun v23 =>
  B.pv (V.bin .mul v23 (.int .i64 2)) fun v24 =>
  B.pv (V.bin .add v1 v24) fun v25 =>
  z3.k3 C E f1 f2 Q v0 v1 v8 v9 v10 v25 h
@[simp] def z3.k5 (C : CSem) (E : zx) (f1 f2 : Nat) (Q : AVal → za → Prop) (v0 v1 v8 v9 : AVal) (h : za) : Prop :=
 B.pv (V.bin .quo v8 (.int .i64 4)) fun v18 =>
  B.pv (V.bin .mul v18 (.int .i64 1)) fun v19 =>
  B.pv (V.bin .add v1 v19) fun v20 =>
  z3.k4 C E f1 f2 Q v0 v1 v8 v9 v20 h
@[simp] def z3.cps (C : CSem) (E : zx) (f1 f2 : Nat) (v0 v1 v2 : AVal) (h : za) (Q : AVal → za → Prop) : Prop :=
 B.pv (V.bin .sub v2 v1) fun v15 =>
  B.newO h (some [.int .i64 0]) fun i9 h =>
  z3.k5 C E f1 f2 Q v0 v1 v15 (.ptr i9 0 0) h
@[simp] def zcq.k1 (C : CSem) (E : zx) (Q : AVal → za → Prop) (Y1 : List AVal → za → Prop) (v0 v6 v7 : AVal) (h : za) : Prop :=
 B.pv (V.bin .lss v6 v7) fun v13 =>
  B.cond v13
  (B.pv (V.idxS E.es v0 v7) fun v20 =>
  E.ld h v20 fun v21 =>
  B.pv (V.idxS E.es v0 v6) fun v24 =>
  E.ld h v24 fun v25 =>
  B.pv (V.idxS E.es v0 v6) fun v26 =>
  E.st h v26 v21 fun h =>
  B.pv (V.idxS E.es v0 v7) fun v27 =>
  E.st h v27 v25 fun h =>
  B.pv (V.bin .add v6 (.int .i64 1)) fun v29 =>
  B.pv (V.bin .sub v7 (.int .i64 1)) fun v31 =>
  Y1 [v29, v31] h)
  (Q (.tup []) h)
@[simp] def zcq.l2 (C : CSem) (E : zx) (Q : AVal → za → Prop) (v0 : AVal) : List AVal → za → (List AVal → za → Prop) → Prop
 | [v6, v7], h, Y1 => zcq.k1 C E Q Y1 v0 v6 v7 h
 | _, _, _ => False
@[simp] def zcq.cps (C : CSem) (E : zx) (v0 v1 v2 : AVal) (h : za) (Q : AVal → za → Prop) : Prop :=
 B.pv (V.bin .sub v2 (.int .i64 1)) fun v10 =>
  zm (zcq.l2 C E Q v0) [v1, v10] h
@[simp] def zd.k1 (C : CSem) (E : zx) (f1 : Nat) (Q : AVal → za → Prop) (Y1 : List AVal → za → Prop) (Y2 : List AVal → za → Prop) (v0 v1 v2 v7 v8 v10 : AVal) (h : za) : Prop :=
 B.pv (V.bin .lss v10 v2) fun v103 =>
  B.cond v103
  (B.pv (V.idxS E.es v0 v10) fun v108 =>
  E.ld h v108 fun v109 =>
  B.pv (V.bin .sub v10 (.int .i64 1)) fun v112 =>
  B.pv (V.idxS E.es v0 v112) fun v113 =>
  E.ld h v113 fun v114 =>
  B.call C f1 [v109, v114] h fun v115 h =>
  B.pv (V.un .not v115) fun v116 =>
  B.cond v116
  (B.pv (V.bin .add v8 (.int .i64 1)) fun v16 =>
  Y1 [v7, v16] h)
  (B.pv (V.bin .sub v10 (.int .i64 1)) fun v121 =>
  B.pv (V.bin .sub v10 (.int .i64 1)) fun v124 =>
  B.pv (V.idxS E.es v0 v124) fun v125 =>
  E.ld h v125 fun v126 =>
  B.pv (V.idxS E.es v0 v10) fun v129 =>
  E.ld h v129 fun v130 =>
  B.pv (V.idxS E.es v0 v10) fun v131 =>
  E.st h v131 v126 fun h =>
  B.pv (V.idxS E.es v0 v121) fun v132 =>
  E.st h v132 v130 fun h =>
  B.pv (V.bin .add v10 (.int .i64 1)) fun v105 =>
  Y2 [v105] h))
  (B.pv (V.bin .add v8 (.int .i64 1)) fun v16 =>
  Y1 [v7, v16] h)
@[simp] def zd.l2 (C : CSem) (E : zx) (f1 : Nat) (Q : AVal → za → Prop) (Y1 : List AVal → za → Prop) (v0 v1 v2 v7 v8 : AVal) : List AVal → za → (List AVal → za → Prop) → Prop
 | [v10], h, Y2 => zd.k1 C E f1 Q Y1 Y2 v0 v1 v2 v7 v8 v10 h
 | _, _, _ => False
@[simp] def zd.k3 (C : CSem) (E : zx) (f1 : Nat) (Q : AVal → za → Prop) (Y1 : List AVal → za → Prop) (v0 v1 v2 v7 v8 : AVal) (h : za) : Prop :=
 B.pv (V.bin .sub v2 v7) fun v97 =>
  B.pv (V.bin .geq v97 (.int .i64 2)) fun v98 =>
  B.cond v98 (B.pv (V.bin .add v7 (.int .i64 1)) fun v100 =>
  zm (zd.l2 C E f1 Q Y1 v0 v1 v2 v7 v8) [v100] h) (B.pv (V.bin .add v8 (.int .i64 1)) fun v16 =>
  Y1 [v7, v16] h)
@[simp] def zd.k4 (C : CSem) (E : zx) (f1 : Nat) (Q : AVal → za → Prop) (Y1 : List AVal → za → Prop) (Y3 : List AVal → za → Prop) (v0 v1 v2 v7 v8 v9 : AVal) (h : za) : Prop :=
 B.pv (V.bin .geq v9 (.int .i64 1)) fun v65 =>
  B.cond v65
  (B.pv (V.idxS E.es v0 v9) fun v70 =>
  E.ld h v70 fun v71 =>
  B.pv (V.bin .sub v9 (.int .i64 1)) fun v74 =>
  B.pv (V.idxS E.es v0 v74) fun v75 =>
  E.ld h v75 fun v76 =>
  B.call C f1 [v71, v76] h fun v77 h =>
  B.pv (V.un .not v77) fun v78 =>
  B.cond v78
  (zd.k3 C E f1 Q Y1 v0 v1 v2 v7 v8 h)
  (B.pv (V.bin .sub v9 (.int .i64 1)) fun v83 =>
  B.pv (V.bin .sub v9 (.int .i64 1)) fun v86 =>
  B.pv (V.idxS E.es v0 v86) fun v87 =>
  E.ld h v87 fun v88 =>
  B.pv (V.idxS E.es v0 v9) fun v91 =>
  E.ld h v91 fun v92 =>
  B.pv (V.idxS E.es v0 v9) fun v93 =>
  E.st h v93 v88 fun h =>
  B.pv (V.idxS E.es v0 v83) fun v94 =>
  E.st h v94 v92 fun h =>
  B.pv (V.bin .sub v9 (.int .i64 1)) fun v67 =>
  Y3 [v67] h))
  (zd.k3 C E f1 Q Y1 v0 v1 v2 v7 v8 h)
@[simp] def zd.l5 (C : CSem) (E : zx) (f1 : Nat) (Q : AVal → za → Prop) (Y1 : List AVal → za → Prop) (v0 v1 v2 v7 v8 : AVal) : List AVal → za → (List AVal → za → Prop) → Prop
 | [v9], h, Y3 => zd.k4 C E f1 Q Y1 Y3 v0 v1 v2 v7 v8 v9 h
 | _, _, _ => False
@[simp] def zd.k6 (C : CSem) (E : zx) (f1 : Nat) (Q : AVal → za → Prop) (Y1 : List AVal → za → Prop) (v0 v1 v2 v7 v8 : AVal) (h : za) : Prop :=
 B.pv (V.bin .sub v7 v1) fun v60 =>
  B.pv (V.bin .geq v60 (.int .i64 2)) fun v61 =>
  B.cond v61 (B.pv (V.bin .sub v7 (.int .i64 1)) fun v63 =>
  zm (zd.l5 C E f1 Q Y1 v0 v1 v2 v7 v8) [v63] h) (zd.k3 C E f1 Q Y1 v0 v1 v2 v7 v8 h)
@[simp] def zd.k7 (C : CSem) (E : zx) (f1 : Nat) (Q : AVal → za → Prop) (Y1 : List AVal → za → Prop) (v0 v1 v2 v7 v8 : AVal) (h : za) : Prop :=
 B.pv (V.bin .sub v7 (.int .i64 1)) fun v46 =>
  B.pv (V.bin .sub v7 (.int .i64 1)) fun v49 =>
  B.pv (V.idxS E.es v0 v49) fun v50 =>
  E.ld h v50 fun v51 =>
  B.pv (V.idxS E.es v0 v7) fun v54 =>
  E.ld h v54 fun v55 =>
  B.pv (V.idxS E.es v0 v7) fun v56 =>
  E.st h v56 v51 fun h =>
  B.pv (V.idxS E.es v0 v46) fun v57 =>
  E.st h v57 v55 fun h =>
  zd.k6 C E f1 Q Y1 v0 v1 v2 v7 v8 h
@[simp] def zd.k8 (C : CSem) (E : zx) (f1 : Nat) (Q : AVal → za → Prop) (Y1 : List AVal → za → Prop) (v0 v1 v2 v7 v8 : AVal) (h : za) : Prop :=
 B.pv (V.bin .sub v2 v1) fun v40 =>
  B.pv (V.bin .lss v40 (.int .i64 50)) fun v41 =>
  B.cond v41
  (Q (.bool false) h)
  (zd.k7 C E f1 Q Y1 v0 v1 v2 v7 v8 h)
@[simp] def zd.k9 (C : CSem) (E : zx) (f1 : Nat) (Q : AVal → za → Prop) (Y1 : List AVal → za → Prop) (Y4 : List AVal → za → Prop) (v0 v1 v2 v7 v8 : AVal) (h : za) : Prop :=
 B.pv (V.bin .lss v7 v2) fun v19 =>
  B.gd h v19 true (fun K => K v0 h) fun v21 h =>
  B.gd h v19 true (fun K => K v7 h) fun v22 h =>
  B.gd h v19 true (fun K => B.pv (V.idxS E.es v21 v22) fun v => K v h) fun v23 h =>
  B.gd h v19 true (fun K => E.ld h v23 fun v => K v h) fun v24 h =>
  B.gd h v19 true (fun K => K v0 h) fun v25 h =>
  B.gd h v19 true (fun K => K v7 h) fun v26 h =>
  B.gd h v19 true (fun K => B.pv (V.bin .sub v26 (.int .i64 1)) fun v => K v h) fun v27 h =>
  B.gd h v19 true (fun K => B.pv (V.idxS E.es v25 v27) fun v => K v h) fun v28 h =>
  B.gd h v19 true (fun K => E.ld h v28 fun v => K v h) fun v29 h =>
  B.gd h v19 true (fun K => B.call C f1 [v24, v29] h K) fun v30 h =>
  B.gd h v19 true (fun K => B.pv (V.un .not v30) fun v => K v h) fun v31 h =>
  B.pick v19 v31 (.bool false) fun v32 =>
  B.cond v32
  (B.pv (V.bin .add v7 (.int .i64 1)) fun v34 =>
  Y4 [v34] h)
  (B.pv (V.bin .eql v7 v2) fun v37 =>
  B.cond v37
  (Q (.bool true) h)
  (zd.k8 C E f1 Q Y1 v0 v1 v2 v7 v8 h))
@[simp] def zd.l10 (C : CSem) (E : zx) (f1 : Nat) (Q : AVal → za → Prop) (Y1 : List AVal → za → Prop) (v0 v1 v2 v8 : AVal) : List AVal → za → (List AVal → za → Prop) → Prop
 | [v7], h, Y4 => zd.k9 C E f1 Q Y1 Y4 v0 v1 v2 v7 v8 h
 | _, _, _ => False
@[simp] def zd.k11 (C : CSem) (E : zx) (f1 : Nat) (Q : AVal → za → Prop) (Y1 : List AVal → za → Prop) (v0 v1 v2 v7 v8 : AVal) (h : za) : Prop :=
 B.pv (V.bin .lss v8 (.int .i64 5)) fun v14 =>
  B.cond v14
  (zm (zd.l10 C E f1 Q Y1 v0 v1 v2 v8) [v7] h)
  (Q (.bool false) h)
@[simp] def zd.l12 (C : CSem) (E : zx) (f1 : Nat) (Q : AVal → za → Prop) (v0 v1 v2 : AVal) : List AVal → za → (List AVal → za → Prop) → Prop
 | [v7, v8], h, Y1 => zd.k11 C E f1 Q Y1 v0 v1 v2 v7 v8 h
 | _, _, _ => False
@[simp] def zd.cps (C : CSem) (E : zx) (f1 : Nat) (v0 v1 v2 : AVal) (h : za) (Q : AVal → za → Prop) : Prop :=
 B.pv (V.bin .add v1 (.int .i64 1)) fun v12 =>
  zm (zd.l12 C E f1 Q v0 v1 v2) [v12, (.int .i64 0)] h
@[simp] def zl.k1 (C : CSem) (E : zx) (f1 : Nat) (Q : AVal → za → Prop) (Y1 : List AVal → za → Prop) (v0 v1 v9 v10 : AVal) (h : za) : Prop :=
 B.pv (V.bin .gtr v9 v10) fun v64 =>
  B.cond v64
  (Q v9 h)
  (B.pv (V.idxS E.es v0 v10) fun v71 =>
  E.ld h v71 fun v72 =>
  B.pv (V.idxS E.es v0 v9) fun v75 =>
  E.ld h v75 fun v76 =>
  B.pv (V.idxS E.es v0 v9) fun v77 =>
  E.st h v77 v72 fun h =>
  B.pv (V.idxS E.es v0 v10) fun v78 =>
  E.st h v78 v76 fun h =>
  B.pv (V.bin .add v9 (.int .i64 1)) fun v80 =>
  B.pv (V.bin .sub v10 (.int .i64 1)) fun v82 =>
  Y1 [v80, v82] h)
@[simp] def zl.k2 (C : CSem) (E : zx) (f1 : Nat) (Q : AVal → za → Prop) (Y1 : List AVal → za → Prop) (Y2 : List AVal → za → Prop) (v0 v1 v9 v10 : AVal) (h : za) : Prop :=
 B.pv (V.bin .leq v9 v10) fun v48 =>
  B.gd h v48 true (fun K => K v0 h) fun v50 h =>
  B.gd h v48 true (fun K => K v1 h) fun v51 h =>
  B.gd h v48 true (fun K => B.pv (V.idxS E.es v50 v51) fun v => K v h) fun v52 h =>
  B.gd h v48 true (fun K => E.ld h v52 fun v => K v h) fun v53 h =>
  B.gd h v48 true (fun K => K v0 h) fun v54 h =>
  B.gd h v48 true (fun K => K v10 h) fun v55 h =>
  B.gd h v48 true (fun K => B.pv (V.idxS E.es v54 v55) fun v => K v h) fun v56 h =>
  B.gd h v48 true (fun K => E.ld h v56 fun v => K v h) fun v57 h =>
  B.gd h v48 true (fun K => B.call C f1 [v53, v57] h K) fun v58 h =>
  B.pick v48 v58 (.bool false) fun v59 =>
  B.cond v59
  (B.pv (V.bin .sub v10 (.int .i64 1)) fun v61 =>
  Y2 [v61] h)
  (zl.k1 C E f1 Q Y1 v0 v1 v9 v10 h)
@[simp] def zl.l3 (C : CSem) (E : zx) (f1 : Nat) (Q : AVal → za → Prop) (Y1 : List AVal → za → Prop) (v0 v1 v9 : AVal) : List AVal → za → (List AVal → za → Prop) → Prop
 | [v10], h, Y2 => zl.k2 C E f1 Q Y1 Y2 v0 v1 v9 v10 h
 | _, _, _ => False
@[simp] def zl.k4 (C : CSem) (E : zx) (f1 : Nat) (Q : AVal → za → Prop) (Y1 : List AVal → za → Prop) (Y3 : List AVal → za → Prop) (v0 v1 v9 v10 : AVal) (h : za) : Prop :=
 B.pv (V.bin .leq v9 v10) fun v31 =>
  B.gd h v31 true (fun K => K v0 h) fun v33 h =>
  B.gd h v31 true (fun K => K v1 h) fun v34 h =>
  B.gd h v31 true (fun K => B.pv (V.idxS E.es v33 v34) fun v => K v h) fun v35 h =>
  B.gd h v31 true (fun K => E.ld h v35 fun v => K v h) fun v36 h =>
  B.gd h v31 true (fun K => K v0 h) fun v37 h =>
  B.gd h v31 true (fun K => K v9 h) fun v38 h =>
  B.gd h v31 true (fun K => B.pv (V.idxS E.es v37 v38) fun v => K v h) fun v39 h =>
  B.gd h v31 true (fun K => E.ld h v39 fun v => K v h) fun v40 h =>
  B.gd h v31 true (fun K => B.call C f1 [v36, v40] h K) fun v41 h =>
  B.gd h v31 true (fun K => B.pv (V.un .not v41) fun v => K v h) fun v42 h =>
  B.pick v31 v42 (.bool false) fun v43 =>
  B.cond v43
  (B.pv (V.bin .add v9 (.int .i64 1)) fun v45 =>
  Y3 [v45] h)
  (zm (zl.l3 C E f1 Q Y1 v0 v1 v9) [v10] h)
@[simp] def zl.l5 (C : CSem) (E : zx) (f1 : Nat) (Q : AVal → za → Prop) (Y1 : List AVal → za → Prop) (v0 v1 v10 : AVal) : List AVal → za → (List AVal → za → Prop) → Prop
 | [v9], h, Y3 => zl.k4 C E f1 Q Y1 Y3 v0 v1 v9 v10 h
 | _, _, _ => False
@[simp] def zl.l6 (C : CSem) (E : zx) (f1 : Nat) (Q : AVal → za → Prop) (v0 v1 : AVal) : List AVal → za → (List AVal → za → Prop) → Prop
 | [v9, v10], h, Y1 => zm (zl.l5 C E f1 Q Y1 v0 v1 v10) [v9] h
 | _, _, _ => False
@[simp] def zl.k7 (C : CSem) (E : zx) (f1 : Nat) (Q : AVal → za → Prop) (v0 v1 v2 : AVal) (h : za) : Prop :=
 B.pv (V.bin .add v1 (.int .i64 1)) fun v26 =>
  B.pv (V.bin .sub v2 (.int .i64 1)) fun v28 =>
  zm (zl.l6 C E f1 Q v0 v1) [v26, v28] h
@[simp] def zl.k8 (C : CSem) (E : zx) (f1 : Nat) (Q : AVal → za → Prop) (v0 v1 v2 v3 : AVal) (h : za) : Prop :=
 B.pv (V.idxS E.es v0 v3) fun v17 =>
  E.ld h v17 fun v18 =>
  B.pv (V.idxS E.es v0 v1) fun v21 =>
  E.ld h v21 fun v22 =>
  B.pv (V.idxS E.es v0 v1) fun v23 =>
  E.st h v23 v18 fun h =>
  B.pv (V.idxS E.es v0 v3) fun v24 =>
  E.st h v24 v22 fun h =>
  zl.k7 C E f1 Q v0 v1 v2 h
@[simp] def zl.cps (C : CSem) (E : zx) (f1 : Nat) (v0 v1 v2 v3 : AVal) (h : za) (Q : AVal → za → Prop) : Prop :=
 zl.k8 C E f1 Q v0 v1 v2 v3 h
@[simp] def zg.k1 (C : CSem) (E : zx) (f1 : Nat) (Q : AVal → za → Prop) (v0 v1 v11 : AVal) (h : za) : Prop :=
 B.pv (V.idxS E.es v0 v1) fun v159 =>
  E.ld h v159 fun v160 =>
  B.pv (V.idxS E.es v0 v11) fun v163 =>
  E.ld h v163 fun v164 =>
  B.pv (V.idxS E.es v0 v11) fun v165 =>
  E.st h v165 v160 fun h =>
  B.pv (V.idxS E.es v0 v1) fun v166 =>
  E.st h v166 v164 fun h =>
  Q (.tup [v11, (.bool false)]) h
@[simp] def zg.k2 (C : CSem) (E : zx) (f1 : Nat) (Q : AVal → za → Prop) (Y1 : List AVal → za → Prop) (v0 v1 v10 v11 : AVal) (h : za) : Prop :=
 B.pv (V.bin .gtr v10 v11) fun v134 =>
  B.cond v134
  (zg.k1 C E f1 Q v0 v1 v11 h)
  (B.pv (V.idxS E.es v0 v11) fun v141 =>
  E.ld h v141 fun v142 =>
  B.pv (V.idxS E.es v0 v10) fun v145 =>
  E.ld h v145 fun v146 =>
  B.pv (V.idxS E.es v0 v10) fun v147 =>
  E.st h v147 v142 fun h =>
  B.pv (V.idxS E.es v0 v11) fun v148 =>
  E.st h v148 v146 fun h =>
  B.pv (V.bin .add v10 (.int .i64 1)) fun v150 =>
  B.pv (V.bin .sub v11 (.int .i64 1)) fun v152 =>
  Y1 [v150, v152] h)
@[simp] def zg.k3 (C : CSem) (E : zx) (f1 : Nat) (Q : AVal → za → Prop) (Y1 : List AVal → za → Prop) (Y2 : List AVal → za → Prop) (v0 v1 v10 v11 : AVal) (h : za) : Prop :=
 B.pv (V.bin .leq v10 v11) fun v117 =>
  B.gd h v117 true (fun K => K v0 h) fun v119 h =>
  B.gd h v117 true (fun K => K v11 h) fun v120 h =>
  B.gd h v117 true (fun K => B.pv (V.idxS E.es v119 v120) fun v => K v h) fun v121 h =>
  B.gd h v117 true (fun K => E.ld h v121 fun v => K v h) fun v122 h =>
  B.gd h v117 true (fun K => K v0 h) fun v123 h =>
  B.gd h v117 true (fun K => K v1 h) fun v124 h =>
  B.gd h v117 true (fun K => B.pv (V.idxS E.es v123 v124) fun v => K v h) fun v125 h =>
  B.gd h v117 true (fun K => E.ld h v125 fun v => K v h) fun v126 h =>
  B.gd h v117 true (fun K => B.call C f1 [v122, v126] h K) fun v127 h =>
  B.gd h v117 true (fun K => B.pv (V.un .not v127) fun v => K v h) fun v128 h =>
  B.pick v117 v128 (.bool false) fun v129 =>
  B.cond v129
  (B.pv (V.bin .sub v11 (.int .i64 1)) fun v131 =>
  Y2 [v131] h)
  (zg.k2 C E f1 Q Y1 v0 v1 v10 v11 h)
@[simp] def zg.l4 (C : CSem) (E : zx) (f1 : Nat) (Q : AVal → za → Prop) (Y1 : List AVal → za → Prop) (v0 v1 v10 : AVal) : List AVal → za → (List AVal → za → Prop) → Prop
 | [v11], h, Y2 => zg.k3 C E f1 Q Y1 Y2 v0 v1 v10 v11 h
 | _, _, _ => False
@[simp] def zg.k5 (C : CSem) (E : zx) (f1 : Nat) (Q : AVal → za → Prop) (Y1 : List AVal → za → Prop) (Y3 : List AVal → za → Prop) (v0 v1 v10 v11 : AVal) (h : za) : Prop :=
 B.pv (V.bin .leq v10 v11) fun v101 =>
  B.gd h v101 true (fun K => K v0 h) fun v103 h =>
  B.gd h v101 true (fun K => K v10 h) fun v104 h =>
  B.gd h v101 true (fun K => B.pv (V.idxS E.es v103 v104) fun v => K v h) fun v105 h =>
  B.gd h v101 true (fun K => E.ld h v105 fun v => K v h) fun v106 h =>
  B.gd h v101 true (fun K => K v0 h) fun v107 h =>
  B.gd h v101 true (fun K => K v1 h) fun v108 h =>
  B.gd h v101 true (fun K => B.pv (V.idxS E.es v107 v108) fun v => K v h) fun v109 h =>
  B.gd h v101 true (fun K => E.ld h v109 fun v => K v h) fun v110 h =>
  B.gd h v101 true (fun K => B.call C f1 [v106, v110] h K) fun v111 h =>
  B.pick v101 v111 (.bool false) fun v112 =>
  B.cond v112
  (B.pv (V.bin .add v10 (.int .i64 1)) fun v114 =>
  Y3 [v114] h)
  (zm (zg.l4 C E f1 Q Y1 v0 v1 v10) [v11] h)
@[simp] def zg.l6 (C : CSem) (E : zx) (f1 : Nat) (Q : AVal → za → Prop) (Y1 : List AVal → za → Prop) (v0 v1 v11 : AVal) : List AVal → za → (List AVal → za → Prop) → Prop
 | [v10], h, Y3 => zg.k5 C E f1 Q Y1 Y3 v0 v1 v10 v11 h
 | _, _, _ => False
@[simp] def zg.l7 (C : CSem) (E : zx) (f1 : Nat) (Q : AVal → za → Prop) (v0 v1 : AVal) : List AVal → za → (List AVal → za → Prop) → Prop
 | [v10, v11], h, Y1 => zm (zg.l6 C E f1 Q Y1 v0 v1 v11) [v10] h
 | _, _, _ => False
@[simp] def zg.k8 (C : CSem) (E : zx) (f1 : Nat) (Q : AVal → za → Prop) (v0 v1 v10 v11 : AVal) (h : za) : Prop :=
 B.pv (V.bin .add v10 (.int .i64 1)) fun v96 =>
  B.pv (V.bin .sub v11 (.int .i64 1)) fun v98 =>
  zm (zg.l7 C E f1 Q v0 v1) [v96, v98] h
@[simp] def zg.k9 (C : CSem) (E : zx) (f1 : Nat) (Q : AVal → za → Prop) (v0 v1 v10 v11 : AVal) (h : za) : Prop :=
 B.pv (V.idxS E.es v0 v11) fun v87 =>
  E.ld h v87 fun v88 =>
  B.pv (V.idxS E.es v0 v10) fun v91 =>
  E.ld h v91 fun v92 =>
  B.pv (V.idxS E.es v0 v10) fun v93 =>
  E.st h v93 v88 fun h =>
  B.pv (V.idxS E.es v0 v11) fun v94 =>
  E.st h v94 v92 fun h =>
  zg.k8 C E f1 Q v0 v1 v10 v11 h
@[simp] def zg.k10 (C : CSem) (E : zx) (f1 : Nat) (Q : AVal → za → Prop) (v0 v1 v10 v11 : AVal) (h : za) : Prop :=
 B.pv (V.bin .gtr v10 v11) fun v65 =>
  B.cond v65
  (B.pv (V.idxS E.es v0 v1) fun v72 =>
  E.ld h v72 fun v73 =>
  B.pv (V.idxS E.es v0 v11) fun v76 =>
  E.ld h v76 fun v77 =>
  B.pv (V.idxS E.es v0 v11) fun v78 =>
  E.st h v78 v73 fun h =>
  B.pv (V.idxS E.es v0 v1) fun v79 =>
  E.st h v79 v77 fun h =>
  Q (.tup [v11, (.bool true)]) h)
  (zg.k9 C E f1 Q v0 v1 v10 v11 h)
@[simp] def zg.k11 (C : CSem) (E : zx) (f1 : Nat) (Q : AVal → za → Prop) (Y4 : List AVal → za → Prop) (v0 v1 v10 v11 : AVal) (h : za) : Prop :=
 B.pv (V.bin .leq v10 v11) fun v48 =>
  B.gd h v48 true (fun K => K v0 h) fun v50 h =>
  B.gd h v48 true (fun K => K v11 h) fun v51 h =>
  B.gd h v48 true (fun K => B.pv (V.idxS E.es v50 v51) fun v => K v h) fun v52 h =>
  B.gd h v48 true (fun K => E.ld h v52 fun v => K v h) fun v53 h =>
  B.gd h v48 true (fun K => K v0 h) fun v54 h =>
  B.gd h v48 true (fun K => K v1 h) fun v55 h =>
  B.gd h v48 true (fun K => B.pv (V.idxS E.es v54 v55) fun v => K v h) fun v56 h =>
  B.gd h v48 true (fun K => E.ld h v56 fun v => K v h) fun v57 h =>
  B.gd h v48 true (fun K => B.call C f1 [v53, v57] h K) fun v58 h =>
  B.gd h v48 true (fun K => B.pv (V.un .not v58) fun v => K v h) fun v59 h =>
  B.pick v48 v59 (.bool false) fun v60 =>
  B.cond v60
  (B.pv (V.bin .sub v11 (.int .i64 1)) fun v62 =>
  Y4 [v62] h)
  (zg.k10 C E f1 Q v0 v1 v10 v11 h)
@[simp] def zg.l12 (C : CSem) (E : zx) (f1 : Nat) (Q : AVal → za → Prop) (v0 v1 v10 : AVal) : List AVal → za → (List AVal → za → Prop) → Prop
 | [v11], h, Y4 => zg.k11 C E f1 Q Y4 v0 v1 v10 v11 h
 | _, _, _ => False
@[simp] def zg.k13 (C : CSem) (E : zx) (f1 : Nat) (Q : AVal → za → Prop) (Y5 : List AVal → za → Prop) (v0 v1 v10 v11 : AVal) (h : za) : Prop :=
 B.pv (V.bin .leq v10 v11) fun v32 =>
  B.gd h v32 true (fun K => K v0 h) fun v34 h =>
  B.gd h v32 true (fun K => K v10 h) fun v35 h =>
  B.gd h v32 true (fun K => B.pv (V.idxS E.es v34 v35) fun v => K v h) fun v36 h =>
  B.gd h v32 true (fun K => E.ld h v36 fun v => K v h) fun v37 h =>
  B.gd h v32 true (fun K => K v0 h) fun v38 h =>
  B.gd h v32 true (fun K => K v1 h) fun v39 h =>
  B.gd h v32 true (fun K => B.pv (V.idxS E.es v38 v39) fun v => K v h) fun v40 h =>
  B.gd h v32 true (fun K => E.ld h v40 fun v => K v h) fun v41 h =>
  B.gd h v32 true (fun K => B.call C f1 [v37, v41] h K) fun v42 h =>
  B.pick v32 v42 (.bool false) fun v43 =>
  B.cond v43
  (B.pv (V.bin .add v10 (.int .i64 1)) fun v45 =>
  Y5 [v45] h)
  (zm (zg.l12 C E f1 Q v0 v1 v10) [v11] h)
@[simp] def zg.l14 (C : CSem) (E : zx) (f1 : Nat) (Q : AVal → za → Prop) (v0 v1 v11 : AVal) : List AVal → za → (List AVal → za → Prop) → Prop
 | [v10], h, Y5 => zg.k13 C E f1 Q Y5 v0 v1 v10 v11 h
 | _, _, _ => False
@[simp] def zg.k15 (C : CSem) (E : zx) (f1 : Nat) (Q : AVal → za → Prop) (v0 v1 v2 : AVal) (h : za) : Prop :=
 B.pv (V.bin .add v1 (.int .i64 1)) fun v27 =>
  B.pv (V.bin .sub v2 (.int .i64 1)) fun v29 =>
  zm (zg.l14 C E f1 Q v0 v1 v29) [v27] h
@[simp] def zg.k16 (C : CSem) (E : zx) (f1 : Nat) (Q : AVal → za → Prop) (v0 v1 v2 v3 : AVal) (h : za) : Prop :=
 B.pv (V.idxS E.es v0 v3) fun v18 =>
  E.ld h v18 fun v19 =>
  B.pv (V.idxS E.es v0 v1) fun v22 =>
  E.ld h v22 fun v23 =>
  B.pv (V.idxS E.es v0 v1) fun v24 =>
  E.st h v24 v19 fun h =>
  B.pv (V.idxS E.es v0 v3) fun v25 =>
  E.st h v25 v23 fun h =>
  zg.k15 C E f1 Q v0 v1 v2 h
@[simp] def zg.cps (C : CSem) (E : zx) (f1 : Nat) (v0 v1 v2 v3 : AVal) (h : za) (Q : AVal → za → Prop) : Prop :=
 zg.k16 C E f1 Q v0 v1 v2 v3 h
@[simp] def zbt.k1 (C : CSem) (E : zx) (f1 : Nat) (Q : AVal → za → Prop) (Y1 : List AVal → za → Prop) (v0 v2 v3 v8 v9 : AVal) (h : za) : Prop :=
 B.pv (V.bin .add v3 v8) fun v42 =>
  B.pv (V.idxS E.es v0 v42) fun v43 =>
  E.ld h v43 fun v44 =>
  B.pv (V.bin .add v3 v9) fun v48 =>
  B.pv (V.idxS E.es v0 v48) fun v49 =>
  E.ld h v49 fun v50 =>
  B.call C f1 [v44, v50] h fun v51 h =>
  B.pv (V.un .not v51) fun v52 =>
  B.cond v52
  (Q (.tup []) h)
  (B.pv (V.bin .add v3 v8) fun v56 =>
  B.pv (V.bin .add v3 v9) fun v60 =>
  B.pv (V.bin .add v3 v9) fun v64 =>
  B.pv (V.idxS E.es v0 v64) fun v65 =>
  E.ld h v65 fun v66 =>
  B.pv (V.bin .add v3 v8) fun v70 =>
  B.pv (V.idxS E.es v0 v70) fun v71 =>
  E.ld h v71 fun v72 =>
  B.pv (V.idxS E.es v0 v56) fun v73 =>
  E.st h v73 v66 fun h =>
  B.pv (V.idxS E.es v0 v60) fun v74 =>
  E.st h v74 v72 fun h =>
  Y1 [v9] h)
@[simp] def zbt.k2 (C : CSem) (E : zx) (f1 : Nat) (Q : AVal → za → Prop) (Y1 : List AVal → za → Prop) (v0 v2 v3 v8 v9 : AVal) (h : za) : Prop :=
 B.pv (V.bin .add v9 (.int .i64 1)) fun v18 =>
  B.pv (V.bin .lss v18 v2) fun v20 =>
  B.gd h v20 true (fun K => K v0 h) fun v22 h =>
  B.gd h v20 true (fun K => K v3 h) fun v23 h =>
  B.gd h v20 true (fun K => K v9 h) fun v24 h =>
  B.gd h v20 true (fun K => B.pv (V.bin .add v23 v24) fun v => K v h) fun v25 h =>
  B.gd h v20 true (fun K => B.pv (V.idxS E.es v22 v25) fun v => K v h) fun v26 h =>
  B.gd h v20 true (fun K => E.ld h v26 fun v => K v h) fun v27 h =>
  B.gd h v20 true (fun K => K v0 h) fun v28 h =>
  B.gd h v20 true (fun K => K v3 h) fun v29 h =>
  B.gd h v20 true (fun K => K v9 h) fun v30 h =>
  B.gd h v20 true (fun K => B.pv (V.bin .add v29 v30) fun v => K v h) fun v31 h =>
  B.gd h v20 true (fun K => B.pv (V.bin .add v31 (.int .i64 1)) fun v => K v h) fun v32 h =>
  B.gd h v20 true (fun K => B.pv (V.idxS E.es v28 v32) fun v => K v h) fun v33 h =>
  B.gd h v20 true (fun K => E.ld h v33 fun v => K v h) fun v34 h =>
  B.gd h v20 true (fun K => B.call C f1 [v27, v34] h K) fun v35 h =>
  B.pick v20 v35 (.bool false) fun v36 =>
  B.cond v36
  (B.pv (V.bin .add v9 (.int .i64 1)) fun v38 =>
  zbt.k1 C E f1 Q Y1 v0 v2 v3 v8 v38 h)
  (zbt.k1 C E f1 Q Y1 v0 v2 v3 v8 v9 h)
@[simp] def zbt.k3 (C : CSem) (E : zx) (f1 : Nat) (Q : AVal → za → Prop) (Y1 : List AVal → za → Prop) (v0 v2 v3 v8 : AVal) (h : za) : Prop :=
 B.pv (V.bin .mul (.int .i64 2) v8) fun v12 =>
  B.pv (V.bin .add v12 (.int .i64 1)) fun v13 =>
  B.pv (V.bin .geq v13 v2) fun v16 =>
  B.cond v16
  (Q (.tup []) h)
  (zbt.k2 C E f1 Q Y1 v0 v2 v3 v8 v13 h)
@[simp] def zbt.l4 (C : CSem) (E : zx) (f1 : Nat) (Q : AVal → za → Prop) (v0 v2 v3 : AVal) : List AVal → za → (List AVal → za → Prop) → Prop
 | [v8], h, Y1 => zbt.k3 C E f1 Q Y1 v0 v2 v3 v8 h
 | _, _, _ => False
@[simp] def zbt.cps (C : CSem) (E : zx) (f1 : Nat) (v0 v1 v2 v3 : AVal) (h : za) (Q : AVal → za → Prop) : Prop :=
 zm (zbt.l4 C E f1 Q v0 v2 v3) [v1] h
@[simp] def ze9.cps (C : CSem) (E : zx) (f1 : Nat) (v0 v1 v2 : AVal) (h : za) (Q : AVal → za → Prop) : Prop :=
 B.pv (V.bin .sub v1 (.int .i64 1)) fun v9 =>
  B.pv (V.bin .add v1 (.int .i64 1)) fun v12 =>
  B.call C f1 [v0, v9, v1, v12, v2] h fun v14 h =>
  Q v14 h
@[simp] def ze5.k1 (C : CSem) (E : zx) (f1 : Nat) (Q : AVal → za → Prop) (v0 v1 v2 v3 v4 : AVal) (h : za) : Prop :=
 B.call C f1 [v0, v1, v2, v4] h fun v16 h =>
  B.pv (V.ext 0 v16) fun v17 =>
  B.pv (V.ext 1 v16) fun v18 =>
  B.call C f1 [v0, v18, v3, v4] h fun v24 h =>
  B.pv (V.ext 0 v24) fun v25 =>
  B.pv (V.ext 1 v24) fun v26 =>
  B.call C f1 [v0, v17, v25, v4] h fun v32 h =>
  B.pv (V.ext 0 v32) fun v33 =>
  B.pv (V.ext 1 v32) fun v34 =>
  Q v34 h
@[simp] def ze5.cps (C : CSem) (E : zx) (f1 : Nat) (v0 v1 v2 v3 v4 : AVal) (h : za) (Q : AVal → za → Prop) : Prop :=
 ze5.k1 C E f1 Q v0 v1 v2 v3 v4 h
@[simp] def ze4.k1 (C : CSem) (E : zx) (f1 : Nat) (Q : AVal → za → Prop) (v0 v1 v2 v3 : AVal) (h : za) : Prop :=
 B.pv (V.idxS E.es v0 v2) fun v12 =>
  E.ld h v12 fun v13 =>
  B.pv (V.idxS E.es v0 v1) fun v16 =>
  E.ld h v16 fun v17 =>
  B.call C f1 [v13, v17] h fun v18 h =>
  B.cond v18
  (B.nilCheck v3 fun v20 =>
  B.ld h v20 fun v21 =>
  B.pv (V.bin .add v21 (.int .i64 1)) fun v22 =>
  B.nilCheck v3 fun v23 =>
  B.st h v23 v22 fun h =>
  Q (.tup [v2, v1]) h)
  (Q (.tup [v1, v2]) h)
@[simp] def ze4.cps (C : CSem) (E : zx) (f1 : Nat) (v0 v1 v2 v3 : AVal) (h : za) (Q : AVal → za → Prop) : Prop :=
 ze4.k1 C E f1 Q v0 v1 v2 v3 h
end Go.Ab
namespace Go.Ab
def z7.cps (C : CSem) (N : Nat → Nat) (v0 : AVal) (h : za) (Q : AVal → za → Prop) : Prop :=
 znz.cps C (opsF 6 56 [.int .i64 0, .str [], .int .i64 0, .int .i64 0, .int .i64 0, .bool false] 0 []) v0 h Q
def z7.Imp (C : CSem) (N : Nat → Nat) : Prop := ∀ (v0 : AVal) (h : za) (Q : AVal → za → Prop), z7.cps C N v0 h (dn Q) → C (N 160) [v0] h Q
def zo.cps (C : CSem) (N : Nat → Nat) (v0 v1 : AVal) (h : za) (Q : AVal → za → Prop) : Prop :=
 zfi.cps C (opsF 6 56 [.int .i64 0, .str [], .int .i64 0, .int .i64 0, .int .i64 0, .bool false] 0 []) (N 166) v0 v1 h Q
def zo.Imp (C : CSem) (N : Nat → Nat) : Prop := ∀ (v0 v1 : AVal) (h : za) (Q : AVal → za → Prop), zo.cps C N v0 v1 h (dn Q) → C (N 161) [v0, v1] h Q
def zb0.cps (C : CSem) (N : Nat → Nat) (v0 v1 v2 : AVal) (h : za) (Q : AVal → za → Prop) : Prop :=
 zi.cps C (opsF 6 56 [.int .i64 0, .str [], .int .i64 0, .int .i64 0, .int .i64 0, .bool false] 0 []) (N 167) (N 168) v0 v1 v2 h Q
def zb0.Imp (C : CSem) (N : Nat → Nat) : Prop := ∀ (v0 v1 v2 : AVal) (h : za) (Q : AVal → za → Prop), zb0.cps C N v0 v1 v2 h (dn Q) → C (N 166) [v0, v1, v2] h Q
def zbv.cps (C : CSem) (N : Nat → Nat) (v0 v1 v2 v3 v4 : AVal) (h : za) (Q : AVal → za → Prop) : Prop :=
 zb.cps C (opsF 6 56 [.int .i64 0, .str [], .int .i64 0, .int .i64 0, .int .i64 0, .bool false] 0 []) (N 167) (N 169) v0 v1 v2 v3 v4 h Q
def zbv.Imp (C : CSem) (N : Nat → Nat) : Prop := ∀ (v0 v1 v2 v3 v4 : AVal) (h : za) (Q : AVal → za → Prop), zbv.cps C N v0 v1 v2 v3 v4 h (dn Q) → C (N 167) [v0, v1, v2, v3, v4] h Q
def zbg.cps (C : CSem) (N : Nat → Nat) (v0 v1 v2 v3 : AVal) (h : za) (Q : AVal → za → Prop) : Prop :=
 zn.cps C (opsF 6 56 [.int .i64 0, .str [], .int .i64 0, .int .i64 0, .int .i64 0, .bool false] 0 []) v0 v1 v2 v3 h Q
def zbg.Imp (C : CSem) (N : Nat → Nat) : Prop := ∀ (v0 v1 v2 v3 : AVal) (h : za) (Q : AVal → za → Prop), zbg.cps C N v0 v1 v2 v3 h (dn Q) → C (N 168) [v0, v1, v2, v3] h Q
def zb1.cps (C : CSem) (N : Nat → Nat) (v0 v1 v2 v3 v4 : AVal) (h : za) (Q : AVal → za → Prop) : Prop :=
 zbk.cps C (opsF 6 56 [.int .i64 0, .str [], .int .i64 0, .int .i64 0, .int .i64 0, .bool false] 0 []) (N 170) v0 v1 v2 v3 v4 h Q
def zb1.Imp (C : CSem) (N : Nat → Nat) : Prop := ∀ (v0 v1 v2 v3 v4 : AVal) (h : za) (Q : AVal → za → Prop), zb1.cps C N v0 v1 v2 v3 v4 h (dn Q) → C (N 169) [v0, v1, v2, v3, v4] h Q
def zbp.cps (C : CSem) (N : Nat → Nat) (v0 v1 v2 v3 v4 : AVal) (h : za) (Q : AVal → za → Prop) : Prop :=
 zbi.cps C (opsF 6 56 [.int .i64 0, .str [], .int .i64 0, .int .i64 0, .int .i64 0, .bool false] 0 []) v0 v1 v2 v3 v4 h Q
def zbp.Imp (C : CSem) (N : Nat → Nat) : Prop := ∀ (v0 v1 v2 v3 v4 : AVal) (h : za) (Q : AVal → za → Prop), zbp.cps C N v0 v1 v2 v3 v4 h (dn Q) → C (N 170) [v0, v1, v2, v3, v4] h Q
def zp.cps (C : CSem) (N : Nat → Nat) (v0 v1 : AVal) (h : za) (Q : AVal → za → Prop) : Prop :=
 zgq.cps C (opsF 3 32 [.str [], .int .i64 0, .int .i64 0] 0 []) (N 244) v0 v1 h Q
def zp.Imp (C : CSem) (N : Nat → Nat) : Prop := ∀ (v0 v1 : AVal) (h : za) (Q : AVal → za → Prop), zp.cps C N v0 v1 h (dn Q) → C (N 237) [v0, v1] h Q
def zw.cps (C : CSem) (N : Nat → Nat) (v0 v1 : AVal) (h : za) (Q : AVal → za → Prop) : Prop :=
 zdz.cps C (opsF 3 32 [.str [], .int .i64 0, .int .i64 0] 0 []) v0 v1 h Q
def zw.Imp (C : CSem) (N : Nat → Nat) : Prop := ∀ (v0 v1 : AVal) (h : za) (Q : AVal → za → Prop), zw.cps C N v0 v1 h (dn Q) → C (N 244) [v0, v1] h Q
def z5.cps (C : CSem) (N : Nat → Nat) (v0 v1 : AVal) (h : za) (Q : AVal → za → Prop) : Prop :=
 zfi.cps C (opsS 8 (.int .i64 0) 0) (N 248) v0 v1 h Q
def z5.Imp (C : CSem) (N : Nat → Nat) : Prop := ∀ (v0 v1 : AVal) (h : za) (Q : AVal → za → Prop), z5.cps C N v0 v1 h (dn Q) → C (N 246) [v0, v1] h Q
def zcl.cps (C : CSem) (N : Nat → Nat) (v0 v1 v2 : AVal) (h : za) (Q : AVal → za → Prop) : Prop :=
 zi.cps C (opsS 8 (.int .i64 0) 0) (N 249) (N 250) v0 v1 v2 h Q
def zcl.Imp (C : CSem) (N : Nat → Nat) : Prop := ∀ (v0 v1 v2 : AVal) (h : za) (Q : AVal → za → Prop), zcl.cps C N v0 v1 v2 h (dn Q) → C (N 248) [v0, v1, v2] h Q
def zcb.cps (C : CSem) (N : Nat → Nat) (v0 v1 v2 v3 v4 : AVal) (h : za) (Q : AVal → za → Prop) : Prop :=
 zb.cps C (opsS 8 (.int .i64 0) 0) (N 249) (N 251) v0 v1 v2 v3 v4 h Q
def zcb.Imp (C : CSem) (N : Nat → Nat) : Prop := ∀ (v0 v1 v2 v3 v4 : AVal) (h : za) (Q : AVal → za → Prop), zcb.cps C N v0 v1 v2 v3 v4 h (dn Q) → C (N 249) [v0, v1, v2, v3, v4] h Q
def zbr.cps (C : CSem) (N : Nat → Nat) (v0 v1 v2 v3 : AVal) (h : za) (Q : AVal → za → Prop) : Prop :=
 zn.cps C (opsS 8 (.int .i64 0) 0) v0 v1 v2 v3 h Q
def zbr.Imp (C : CSem) (N : Nat → Nat) : Prop := ∀ (v0 v1 v2 v3 : AVal) (h : za) (Q : AVal → za → Prop), zbr.cps C N v0 v1 v2 v3 h (dn Q) → C (N 250) [v0, v1, v2, v3] h Q
def zcm.cps (C : CSem) (N : Nat → Nat) (v0 v1 v2 v3 v4 : AVal) (h : za) (Q : AVal → za → Prop) : Prop :=
 zbk.cps C (opsS 8 (.int .i64 0) 0) (N 252) v0 v1 v2 v3 v4 h Q
def zcm.Imp (C : CSem) (N : Nat → Nat) : Prop := ∀ (v0 v1 v2 v3 v4 : AVal) (h : za) (Q : AVal → za → Prop), zcm.cps C N v0 v1 v2 v3 v4 h (dn Q) → C (N 251) [v0, v1, v2, v3, v4] h Q
def zb7.cps (C : CSem) (N : Nat → Nat) (v0 v1 v2 v3 v4 : AVal) (h : za) (Q : AVal → za → Prop) : Prop :=
 zbi.cps C (opsS 8 (.int .i64 0) 0) v0 v1 v2 v3 v4 h Q
def zb7.Imp (C : CSem) (N : Nat → Nat) : Prop := ∀ (v0 v1 v2 v3 v4 : AVal) (h : za) (Q : AVal → za → Prop), zb7.cps C N v0 v1 v2 v3 v4 h (dn Q) → C (N 252) [v0, v1, v2, v3, v4] h Q
@[simp] def zb3.k1 (C : CSem) (N : Nat → Nat) (Q : AVal → za → Prop) (v0 : AVal) (h : za) : Prop :=
 B.nilCheck v0 fun v4 =>
  B.ld h v4 fun v5 =>
  B.nilCheck v0 fun v7 =>
  B.ld h v7 fun v8 =>
  B.pv (V.bin .shl v8 (.int .u64 13)) fun v9 =>
  B.pv (V.bin .xor v5 v9) fun v10 =>
  B.nilCheck v0 fun v11 =>
  B.st h v11 v10 fun h =>
  B.nilCheck v0 fun v13 =>
  B.ld h v13 fun v14 =>
  B.nilCheck v0 fun v16 =>
  B.ld h v16 fun v17 =>
  B.pv (V.bin .shr v17 (.int .u64 7)) fun v18 =>
  B.pv (V.bin .xor v14 v18) fun v19 =>
  B.nilCheck v0 fun v20 =>
  B.st h v20 v19 fun h =>
  B.nilCheck v0 fun v22 =>
  B.ld h v22 fun v23 =>
  B.nilCheck v0 fun v25 =>
  B.ld h v25 fun v26 =>
  B.pv (V.bin .shl v26 (.int .u64 17)) fun v27 =>
  B.pv (V.bin .xor v23 v27) fun v28 =>
  B.nilCheck v0 fun v29 =>
  B.st h v29 v28 fun h =>
  B.nilCheck v0 fun v31 =>
  B.ld h v31 fun v32 =>
  Q v32 h
@[simp] def zb3.cps (C : CSem) (N : Nat → Nat) (v0 : AVal) (h : za) (Q : AVal → za → Prop) : Prop :=
 zb3.k1 C N Q v0 h
def zb3.Imp (C : CSem) (N : Nat → Nat) : Prop := ∀ (v0 : AVal) (h : za) (Q : AVal → za → Prop), zb3.cps C N v0 h (dn Q) → C (N 298) [v0] h Q
@[simp] def zce.cps (C : CSem) (N : Nat → Nat) (v0 : AVal) (h : za) (Q : AVal → za → Prop) : Prop :=
 B.pv (V.toInt .u64 v0) fun v4 =>
  B.call C (N 287) [v4] h fun v5 h =>
  B.pv (V.bin .shl (.int .u64 1) v5) fun v6 =>
  Q v6 h
def zce.Imp (C : CSem) (N : Nat → Nat) : Prop := ∀ (v0 : AVal) (h : za) (Q : AVal → za → Prop), zce.cps C N v0 h (dn Q) → C (N 299) [v0] h Q
def zb9.cps (C : CSem) (N : Nat → Nat) (v0 : AVal) (h : za) (Q : AVal → za → Prop) : Prop :=
 zhb.cps C (opsS 8 (.int .i64 0) 0) (N 287) (N 339) v0 h Q
def zb9.Imp (C : CSem) (N : Nat → Nat) : Prop := ∀ (v0 : AVal) (h : za) (Q : AVal → za → Prop), zb9.cps C N v0 h (dn Q) → C (N 335) [v0] h Q
def zbj.cps (C : CSem) (N : Nat → Nat) (v0 : AVal) (h : za) (Q : AVal → za → Prop) : Prop :=
 zb2.cps C (opsS 8 (.int .i64 0) 0) v0 h Q
def zbj.Imp (C : CSem) (N : Nat → Nat) : Prop := ∀ (v0 : AVal) (h : za) (Q : AVal → za → Prop), zbj.cps C N v0 h (dn Q) → C (N 336) [v0] h Q
def z4.cps (C : CSem) (N : Nat → Nat) (v0 : AVal) (h : za) (Q : AVal → za → Prop) : Prop :=
 zpx.cps C (opsF 3 32 [.str [], .int .i64 0, .int .i64 0] 0 []) v0 h Q
def z4.Imp (C : CSem) (N : Nat → Nat) : Prop := ∀ (v0 : AVal) (h : za) (Q : AVal → za → Prop), z4.cps C N v0 h (dn Q) → C (N 338) [v0] h Q
def zcg.cps (C : CSem) (N : Nat → Nat) (v0 v1 v2 v3 : AVal) (h : za) (Q : AVal → za → Prop) : Prop :=
 zr.cps C (opsS 8 (.int .i64 0) 0) (N 340) (N 341) (N 342) (N 339) (N 343) (N 344) (N 345) (N 346) (N 347) (N 348) v0 v1 v2 v3 h Q
def zcg.Imp (C : CSem) (N : Nat → Nat) : Prop := ∀ (v0 v1 v2 v3 : AVal) (h : za) (Q : AVal → za → Prop), zcg.cps C N v0 v1 v2 v3 h (dn Q) → C (N 339) [v0, v1, v2, v3] h Q
def zbl.cps (C : CSem) (N : Nat → Nat) (v0 v1 v2 v3 : AVal) (h : za) (Q : AVal → za → Prop) : Prop :=
 zl.cps C (opsS 8 (.int .i64 0) 0) (N 340) v0 v1 v2 v3 h Q
def zbl.Imp (C : CSem) (N : Nat → Nat) : Prop := ∀ (v0 v1 v2 v3 : AVal) (h : za) (Q : AVal → za → Prop), zbl.cps C N v0 v1 v2 v3 h (dn Q) → C (N 341) [v0, v1, v2, v3] h Q
def zb8.cps (C : CSem) (N : Nat → Nat) (v0 v1 v2 v3 : AVal) (h : za) (Q : AVal → za → Prop) : Prop :=
 zg.cps C (opsS 8 (.int .i64 0) 0) (N 340) v0 v1 v2 v3 h Q
def zb8.Imp (C : CSem) (N : Nat → Nat) : Prop := ∀ (v0 v1 v2 v3 : AVal) (h : za) (Q : AVal → za → Prop), zb8.cps C N v0 v1 v2 v3 h (dn Q) → C (N 342) [v0, v1, v2, v3] h Q
def zbc.cps (C : CSem) (N : Nat → Nat) (v0 v1 v2 : AVal) (h : za) (Q : AVal → za → Prop) : Prop :=
 zd.cps C (opsS 8 (.int .i64 0) 0) (N 340) v0 v1 v2 h Q
def zbc.Imp (C : CSem) (N : Nat → Nat) : Prop := ∀ (v0 v1 v2 : AVal) (h : za) (Q : AVal → za → Prop), zbc.cps C N v0 v1 v2 h (dn Q) → C (N 343) [v0, v1, v2] h Q
def zbw.cps (C : CSem) (N : Nat → Nat) (v0 v1 v2 : AVal) (h : za) (Q : AVal → za → Prop) : Prop :=
 zcq.cps C (opsS 8 (.int .i64 0) 0) v0 v1 v2 h Q
def zbw.Imp (C : CSem) (N : Nat → Nat) : Prop := ∀ (v0 v1 v2 : AVal) (h : za) (Q : AVal → za → Prop), zbw.cps C N v0 v1 v2 h (dn Q) → C (N 344) [v0, v1, v2] h Q
def zby.cps (C : CSem) (N : Nat → Nat) (v0 v1 v2 : AVal) (h : za) (Q : AVal → za → Prop) : Prop :=
 z3.cps C (opsS 8 (.int .i64 0) 0) (N 350) (N 351) v0 v1 v2 h Q
def zby.Imp (C : CSem) (N : Nat → Nat) : Prop := ∀ (v0 v1 v2 : AVal) (h : za) (Q : AVal → za → Prop), zby.cps C N v0 v1 v2 h (dn Q) → C (N 345) [v0, v1, v2] h Q
def zbs.cps (C : CSem) (N : Nat → Nat) (v0 v1 v2 : AVal) (h : za) (Q : AVal → za → Prop) : Prop :=
 zj.cps C (opsS 8 (.int .i64 0) 0) (N 298) (N 299) v0 v1 v2 h Q
def zbs.Imp (C : CSem) (N : Nat → Nat) : Prop := ∀ (v0 v1 v2 : AVal) (h : za) (Q : AVal → za → Prop), zbs.cps C N v0 v1 v2 h (dn Q) → C (N 346) [v0, v1, v2] h Q
def zcd.cps (C : CSem) (N : Nat → Nat) (v0 v1 v2 : AVal) (h : za) (Q : AVal → za → Prop) : Prop :=
 zbf.cps C (opsS 8 (.int .i64 0) 0) (N 349) v0 v1 v2 h Q
def zcd.Imp (C : CSem) (N : Nat → Nat) : Prop := ∀ (v0 v1 v2 : AVal) (h : za) (Q : AVal → za → Prop), zcd.cps C N v0 v1 v2 h (dn Q) → C (N 347) [v0, v1, v2] h Q
def zbq.cps (C : CSem) (N : Nat → Nat) (v0 v1 v2 : AVal) (h : za) (Q : AVal → za → Prop) : Prop :=
 zbn.cps C (opsS 8 (.int .i64 0) 0) (N 340) v0 v1 v2 h Q
def zbq.Imp (C : CSem) (N : Nat → Nat) : Prop := ∀ (v0 v1 v2 : AVal) (h : za) (Q : AVal → za → Prop), zbq.cps C N v0 v1 v2 h (dn Q) → C (N 348) [v0, v1, v2] h Q
def zcc.cps (C : CSem) (N : Nat → Nat) (v0 v1 v2 v3 : AVal) (h : za) (Q : AVal → za → Prop) : Prop :=
 zbt.cps C (opsS 8 (.int .i64 0) 0) (N 340) v0 v1 v2 v3 h Q
def zcc.Imp (C : CSem) (N : Nat → Nat) : Prop := ∀ (v0 v1 v2 v3 : AVal) (h : za) (Q : AVal → za → Prop), zcc.cps C N v0 v1 v2 v3 h (dn Q) → C (N 349) [v0, v1, v2, v3] h Q
def zbm.cps (C : CSem) (N : Nat → Nat) (v0 v1 v2 : AVal) (h : za) (Q : AVal → za → Prop) : Prop :=
 ze9.cps C (opsS 8 (.int .i64 0) 0) (N 351) v0 v1 v2 h Q
def zbm.Imp (C : CSem) (N : Nat → Nat) : Prop := ∀ (v0 v1 v2 : AVal) (h : za) (Q : AVal → za → Prop), zbm.cps C N v0 v1 v2 h (dn Q) → C (N 350) [v0, v1, v2] h Q
def zco.cps (C : CSem) (N : Nat → Nat) (v0 v1 v2 v3 v4 : AVal) (h : za) (Q : AVal → za → Prop) : Prop :=
 ze5.cps C (opsS 8 (.int .i64 0) 0) (N 352) v0 v1 v2 v3 v4 h Q
def zco.Imp (C : CSem) (N : Nat → Nat) : Prop := ∀ (v0 v1 v2 v3 v4 : AVal) (h : za) (Q : AVal → za → Prop), zco.cps C N v0 v1 v2 v3 v4 h (dn Q) → C (N 351) [v0, v1, v2, v3, v4] h Q
def zcn.cps (C : CSem) (N : Nat → Nat) (v0 v1 v2 v3 : AVal) (h : za) (Q : AVal → za → Prop) : Prop :=
 ze4.cps C (opsS 8 (.int .i64 0) 0) (N 340) v0 v1 v2 v3 h Q
def zcn.Imp (C : CSem) (N : Nat → Nat) : Prop := ∀ (v0 v1 v2 v3 : AVal) (h : za) (Q : AVal → za → Prop), zcn.cps C N v0 v1 v2 v3 h (dn Q) → C (N 352) [v0, v1, v2, v3] h Q
end Go.Ab
namespace Go.Ab
@[simp] def zd4.k1 (C : CSem) (N : Nat → Nat) (Q : AVal → za → Prop) (v0 v1 : AVal) (h : za) : Prop :=
 B.pv (A.boxN 2 v0) fun c2 =>
  B.pv (A.boxN 2 v1) fun c3 =>
  B.pv (V.zen 0 2 c2) fun v6 =>
  B.call C (N 5) [v6] h fun v7 h =>
  B.pv (V.un .not v7) fun v8 =>
  B.gd h v8 false (fun K => B.pv (V.zen 0 2 c3) fun v => K v h) fun v10 h =>
  B.gd h v8 false (fun K => B.call C (N 5) [v10] h K) fun v11 h =>
  B.gd h v8 false (fun K => B.pv (V.un .not v11) fun v => K v h) fun v12 h =>
  B.pick v8 (.bool true) v12 fun v13 =>
  B.cond v13
  (B.pv (A.bld [] [.int .i64 0, .int .i64 0]) fun v14 =>
  B.pv (V.setN 0 2 v14 (.agg [.int .i64 0, .int .i64 0])) fun c4 =>
  B.pv (oneOf (zfe (V.zen 0 2 c4) (zfe (some (.bool false)) (some [])))) fun v => Q v h)
  (B.al c2 (B.pv (V.zbu 0 c2) fun v16 =>
  B.al c3 (B.pv (V.zbu 0 c3) fun v18 =>
  B.pv (V.max2 v16 v18) fun v19 =>
  B.al c2 (B.pv (V.zbu 1 c2) fun v21 =>
  B.al c3 (B.pv (V.zbu 1 c3) fun v23 =>
  B.pv (V.min2 v21 v23) fun v24 =>
  B.call C (N 16) [v19, v24] h fun v25 h =>
  B.pv (V.ext 0 v25) fun v26 =>
  B.pv (V.ext 1 v25) fun v27 =>
  B.pv (V.setN 0 2 v26 (.agg [.int .i64 0, .int .i64 0])) fun c4 =>
  B.pv (oneOf (zfe (V.zen 0 2 c4) (zfe (some v27) (some [])))) fun v => Q v h)))))
@[simp] def zd4.cps (C : CSem) (N : Nat → Nat) (v0 v1 : AVal) (h : za) (Q : AVal → za → Prop) : Prop :=
 zd4.k1 C N Q v0 v1 h
def zd4.Imp (C : CSem) (N : Nat → Nat) : Prop := ∀ (v0 v1 : AVal) (h : za) (Q : AVal → za → Prop), zd4.cps C N v0 v1 h (dn Q) → C (N 1) [v0, v1] h Q
@[simp] def zdc.k1 (C : CSem) (N : Nat → Nat) (Q : AVal → za → Prop) (v0 : AVal) (h : za) : Prop :=
 B.pv (A.boxN 2 v0) fun c1 =>
  B.al c1 (B.pv (V.zbu 0 c1) fun v4 =>
  B.pv (V.bin .leq (.int .i64 0) v4) fun v5 =>
  B.al c1 (B.gd h v5 true (fun K => K .undef h) fun _ h =>
  B.gd h v5 true (fun K => B.pv (V.zbu 0 c1) fun v => K v h) fun v8 h =>
  B.al c1 (B.gd h v5 true (fun K => K .undef h) fun _ h =>
  B.gd h v5 true (fun K => B.pv (V.zbu 1 c1) fun v => K v h) fun v10 h =>
  B.gd h v5 true (fun K => B.pv (V.bin .leq v8 v10) fun v => K v h) fun v11 h =>
  B.pick v5 v11 (.bool false) fun v12 =>
  B.al c1 (B.gd h v12 true (fun K => K .undef h) fun _ h =>
  B.gd h v12 true (fun K => B.pv (V.zbu 1 c1) fun v => K v h) fun v15 h =>
  B.gd h v12 true (fun K => B.pv (V.bin .leq v15 (.int .i64 4001)) fun v => K v h) fun v16 h =>
  B.pick v12 v16 (.bool false) fun v17 =>
  Q v17 h))))
@[simp] def zdc.cps (C : CSem) (N : Nat → Nat) (v0 : AVal) (h : za) (Q : AVal → za → Prop) : Prop :=
 zdc.k1 C N Q v0 h
def zdc.Imp (C : CSem) (N : Nat → Nat) : Prop := ∀ (v0 : AVal) (h : za) (Q : AVal → za → Prop), zdc.cps C N v0 h (dn Q) → C (N 5) [v0] h Q
@[simp] def zec.k1 (C : CSem) (N : Nat → Nat) (Q : AVal → za → Prop) (v0 v1 : AVal) (h : za) : Prop :=
 B.pv (A.boxN 2 v0) fun c2 =>
  B.pv (V.zen 0 2 c2) fun v5 =>
  B.call C (N 5) [v5] h fun v6 h =>
  B.al c2 (B.gd h v6 true (fun K => K .undef h) fun _ h =>
  B.gd h v6 true (fun K => B.pv (V.zbu 0 c2) fun v => K v h) fun v9 h =>
  B.gd h v6 true (fun K => K v1 h) fun v10 h =>
  B.gd h v6 true (fun K => B.pv (V.bin .leq v9 v10) fun v => K v h) fun v11 h =>
  B.pick v6 v11 (.bool false) fun v12 =>
  B.gd h v12 true (fun K => K v1 h) fun v14 h =>
  B.al c2 (B.gd h v12 true (fun K => K .undef h) fun _ h =>
  B.gd h v12 true (fun K => B.pv (V.zbu 1 c2) fun v => K v h) fun v16 h =>
  B.gd h v12 true (fun K => B.pv (V.bin .lss v14 v16) fun v => K v h) fun v17 h =>
  B.pick v12 v17 (.bool false) fun v18 =>
  Q v18 h))
@[simp] def zec.cps (C : CSem) (N : Nat → Nat) (v0 v1 : AVal) (h : za) (Q : AVal → za → Prop) : Prop :=
 zec.k1 C N Q v0 v1 h
def zec.Imp (C : CSem) (N : Nat → Nat) : Prop := ∀ (v0 v1 : AVal) (h : za) (Q : AVal → za → Prop), zec.cps C N v0 v1 h (dn Q) → C (N 7) [v0, v1] h Q
@[simp] def zb6.k1 (C : CSem) (N : Nat → Nat) (Q : AVal → za → Prop) (Y1 : List AVal → za → Prop) (v3 v6 v7 v32 : AVal) (h : za) : Prop :=
 B.pv (V.bin .lss v32 (.int .i64 4002)) fun v33 =>
  B.cond v33
  (B.pv (V.idxA 4002 1 v3 v32) fun v38 =>
  B.ld h v38 fun v39 =>
  B.pv (V.bin .add v7 v39) fun v40 =>
  B.pv (V.bin .eql v7 (.int .i64 0)) fun v43 =>
  B.gd h v43 true (fun K => K v40 h) fun v45 h =>
  B.gd h v43 true (fun K => B.pv (V.bin .gtr v45 (.int .i64 0)) fun v => K v h) fun v46 h =>
  B.pick v43 v46 (.bool false) fun v47 =>
  B.cond v47
  (B.pv (A.bld [(0, none, v32)] [.int .i64 0, .int .i64 0]) fun v50 =>
  B.newO h (zfu [(0, some 2, v50)] (repL 1 [.int .i64 0, .int .i64 0])) fun i51 h =>
  B.appW h 2 16 v6 (.sl i51 0 0 1 2 1) fun v52 h =>
  B.pv (V.bin .add v32 (.int .i64 1)) fun v67 =>
  Y1 [v52, v40, v67] h)
  (B.pv (V.bin .gtr v7 (.int .i64 0)) fun v55 =>
  B.gd h v55 true (fun K => K v40 h) fun v57 h =>
  B.gd h v55 true (fun K => B.pv (V.bin .eql v57 (.int .i64 0)) fun v => K v h) fun v58 h =>
  B.pick v55 v58 (.bool false) fun v59 =>
  B.cond v59
  (B.pv (V.zcj v6) fun v62 =>
  B.pv (V.bin .sub v62 (.int .i64 1)) fun v63 =>
  B.pv (V.idxS 2 v6 v63) fun v65 =>
  B.pv (V.fieldAddr 1 v65) fun v66 =>
  B.st h v66 v32 fun h =>
  B.pv (V.bin .add v32 (.int .i64 1)) fun v67 =>
  Y1 [v6, v40, v67] h)
  (B.pv (V.bin .add v32 (.int .i64 1)) fun v67 =>
  Y1 [v6, v40, v67] h)))
  (Q v6 h)
@[simp] def zb6.l2 (C : CSem) (N : Nat → Nat) (Q : AVal → za → Prop) (v3 : AVal) : List AVal → za → (List AVal → za → Prop) → Prop
 | [v6, v7, v32], h, Y1 => zb6.k1 C N Q Y1 v3 v6 v7 v32 h
 | _, _, _ => False
@[simp] def zb6.k3 (C : CSem) (N : Nat → Nat) (Q : AVal → za → Prop) (Y2 : List AVal → za → Prop) (v3 v10 v11 v12 : AVal) (h : za) : Prop :=
 B.pv (V.bin .lss v12 v11) fun v13 =>
  B.cond v13
  (B.pv (V.idxS 2 v10 v12) fun v14 =>
  B.ldn h v14 2 fun v15 =>
  B.pv (V.setN 0 2 v15 (.agg [.int .i64 0, .int .i64 0])) fun c5 =>
  B.pv (V.zen 0 2 c5) fun v16 =>
  B.call C (N 5) [v16] h fun v17 h =>
  B.pv (V.un .not v17) fun v18 =>
  B.cond v18
  (Q .nils h)
  (B.al c5 (B.pv (V.zbu 0 c5) fun v20 =>
  B.pv (V.idxA 4002 1 v3 v20) fun v21 =>
  B.ld h v21 fun v22 =>
  B.pv (V.bin .add v22 (.int .i64 1)) fun v23 =>
  B.pv (V.idxA 4002 1 v3 v20) fun v24 =>
  B.st h v24 v23 fun h =>
  B.al c5 (B.pv (V.zbu 1 c5) fun v26 =>
  B.pv (V.idxA 4002 1 v3 v26) fun v27 =>
  B.ld h v27 fun v28 =>
  B.pv (V.bin .sub v28 (.int .i64 1)) fun v29 =>
  B.pv (V.idxA 4002 1 v3 v26) fun v30 =>
  B.st h v30 v29 fun h =>
  B.pv (V.bin .add v12 (.int .i64 1)) fun v31 =>
  Y2 [v31] h))))
  (zm (zb6.l2 C N Q v3) [.nils, (.int .i64 0), (.int .i64 0)] h)
@[simp] def zb6.l4 (C : CSem) (N : Nat → Nat) (Q : AVal → za → Prop) (v3 v10 v11 : AVal) : List AVal → za → (List AVal → za → Prop) → Prop
 | [v12], h, Y2 => zb6.k3 C N Q Y2 v3 v10 v11 v12 h
 | _, _, _ => False
@[simp] def zb6.cps (C : CSem) (N : Nat → Nat) (v0 : AVal) (h : za) (Q : AVal → za → Prop) : Prop :=
 B.newO h (some (zrep 4002 (.int .i64 0))) fun i3 h =>
  B.pv (V.zcj v0) fun v11 =>
  zm (zb6.l4 C N Q (.ptr i3 0 0) v0 v11) [(.int .i64 0)] h
def zb6.Imp (C : CSem) (N : Nat → Nat) : Prop := ∀ (v0 : AVal) (h : za) (Q : AVal → za → Prop), zb6.cps C N v0 h (dn Q) → C (N 10) [v0] h Q
@[simp] def zdd.k1 (C : CSem) (N : Nat → Nat) (Q : AVal → za → Prop) (v0 v1 : AVal) (h : za) : Prop :=
 B.pv (V.bin .geq v0 v1) fun v8 =>
  B.cond v8
  (B.pv (A.bld [] [.int .i64 0, .int .i64 0]) fun v9 =>
  B.pv (V.setN 0 2 v9 (.agg [.int .i64 0, .int .i64 0])) fun c4 =>
  B.pv (oneOf (zfe (V.zen 0 2 c4) (zfe (some (.bool false)) (some [])))) fun v => Q v h)
  (B.pv (A.bld [(0, none, v0), (1, none, v1)] [.int .i64 0, .int .i64 0]) fun v12 =>
  B.pv (V.setN 0 2 v12 (.agg [.int .i64 0, .int .i64 0])) fun c4 =>
  B.pv (oneOf (zfe (V.zen 0 2 c4) (zfe (some (.bool true)) (some [])))) fun v => Q v h)
@[simp] def zdd.cps (C : CSem) (N : Nat → Nat) (v0 v1 : AVal) (h : za) (Q : AVal → za → Prop) : Prop :=
 zdd.k1 C N Q v0 v1 h
def zdd.Imp (C : CSem) (N : Nat → Nat) : Prop := ∀ (v0 v1 : AVal) (h : za) (Q : AVal → za → Prop), zdd.cps C N v0 v1 h (dn Q) → C (N 16) [v0, v1] h Q
end Go.Ab
