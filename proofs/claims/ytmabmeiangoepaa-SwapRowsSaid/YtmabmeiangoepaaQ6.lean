/- What is proved: a part of the way to the statement: AcJ, AcL, AcM, AcN, AcO, Ctypes, AcR, AdD, Rcmp, Rcode, Rkit, Rlaw08, Rmathbits, Rgen, Rslices, Rswap, L08, DbA, Ckit. No conditions. -/
import Derived.Test.YtmabmeiangoepaaQ3
import Derived.Test.YtmabmeiangoepaaQ5
import Derived.KernelRfl
import Derived.Test.YtmabmeiangoepaaRows
set_option linter.unusedVariables false
set_option linter.unusedSimpArgs false
namespace Go.Ab
theorem arg_slice {T : Type} {H : AHeap} {bytes es : Nat} {e : Ty} {v : AVal} (cs : T → List AVal) (hd : ∀ p, AbsOk H e p → ∃ t, p = cs t) (h : AbsOk H (.sl bytes es e) [v]) :
  ∃ L : List T, SlIs H es v (L.map cs) ∧ L.length * bytes ≤ reach := by
 rcases h with h | h | ⟨id, parts, h1, h2, h3, h4⟩
 ·cases h; exact ⟨[], SlX.nils H es, by simp⟩
 ·cases h; exact ⟨[], SlX.sz H es, by simp⟩
 ·cases h1
  have : ∃ L : List T, parts = L.map cs := by
   clear h2 h3
   induction parts with
   | nil => exact ⟨[], rfl⟩
   | cons p r ih =>
    obtain ⟨L, rfl⟩ := ih fun q hq => h4 q (by simp [hq])
    obtain ⟨t, rfl⟩ := hd p (h4 p (by simp)).1
    exact ⟨t :: L, rfl⟩
  obtain ⟨L, rfl⟩ := this
  have hl : ∀ p ∈ L.map cs ++ [], p.length = es := fun p hp => (h4 p (by simpa using hp)).2
  have hfl : (L.map cs).flatten.length = L.length * es := by
   have := flat_len (css := L.map cs) (n := es) fun p hp => (h4 p hp).2
   simpa using this
  refine ⟨L, ⟨hl, .inr ⟨id, 0, 0, (L.map cs).length, roOf (L.map cs).flatten, (L.map cs).flatten.length, rfl, by simp, h2, lookup_self .., ?_, Nat.le_refl _, ?_⟩⟩, by simpa using h3⟩
  ·rw [hfl]; simp
  ·simp only [roOf, List.drop_zero, List.append_nil, List.length_nil, Nat.add_zero, List.length_map]
   rw [← hfl, List.take_length]
end Go.Ab
namespace Go.Ab
variable {C : CSem} {N : Nat → Nat}
structure ElOps where
 es : Nat
 bytes : Nat
 z : List AVal
 f : Nat
 kp : Option Nat
 ld : AHeap → AVal → (AVal → Prop) → Prop
 st : AHeap → AVal → AVal → (AHeap → Prop) → Prop
 eq : AHeap → AVal → AVal → (AVal → AHeap → Prop) → Prop
section
variable (E : ElOps)
def opsF (es bytes : Nat) (z : List AVal) (f : Nat) (sh : List Ck) : ElOps where
 es := es; bytes := bytes; z := z; f := f; kp := some es
 ld := fun h p K => B.ldn h p es K
 st := fun h p v K => B.stn h p es v K
 eq := fun h a b K => B.pv (V.binAgg .eql sh a b) fun v => K v h
def opsS (bytes : Nat) (z : AVal) (f : Nat) : ElOps where
 es := 1; bytes := bytes; z := [z]; f := f; kp := none
 ld := fun h p K => B.ld h p K
 st := fun h p v K => B.st h p v K
 eq := fun h a b K => B.pv (V.bin .eql a b) fun v => K v h
end
end Go.Ab
namespace Go.Ab
variable {C : CSem} {N : Nat → Nat}
def aoff : AVal → Nat
 | .sl _ _ off _ _ _ => off
 | _ => 0
structure Old (h : AHeap) (es : Nat) (x : AVal) (L : List (List AVal)) (y : AVal) (M : List (List AVal)) : Prop where
 at_ : SlX h es x L []
 ft : foot x = none ∨ (foot x = foot y ∧ aoff x = aoff y)
 len : L.length ≤ M.length
theorem Old.other {h h' : AHeap} {es : Nat} {x y z : AVal} {L M : List (List AVal)} (ho : Old h es x L y M) (hb : But z h h') (hne : ∀ id, foot y = some id → foot z ≠ some id) : Old h' es x L y M :=
 ⟨hb.sl ho.at_ fun id hf => hne id (by rcases ho.ft with e | ⟨e, _⟩ <;> rw [e] at hf; cases hf; exact hf), ho.ft, ho.len⟩
section
variable {h H h0 : AHeap} {es : Nat} {x : AVal} {L R : List (List AVal)}
end
section
variable {h0 h h' : AHeap} {l : List Ob}
theorem Owns.ne (ho : Owns h0 h l) {i j : Nat} {a b : Ob} (hi : l[i]? = some a) (hj : l[j]? = some b) (hij : i ≠ j) : ∀ id, a.foot = some id → b.foot ≠ some id := fun id ha hb => by
 rcases Nat.lt_or_gt_of_ne hij with hlt | hgt
 ·have := List.pairwise_iff_getElem.1 ho.apart i j (List.getElem?_eq_some_iff.1 hi).1 (List.getElem?_eq_some_iff.1 hj).1 hlt
  rw [(List.getElem?_eq_some_iff.1 hi).2, (List.getElem?_eq_some_iff.1 hj).2] at this
  exact this id ha hb
 ·have := List.pairwise_iff_getElem.1 ho.apart j i (List.getElem?_eq_some_iff.1 hj).1 (List.getElem?_eq_some_iff.1 hi).1 hgt
  rw [(List.getElem?_eq_some_iff.1 hj).2, (List.getElem?_eq_some_iff.1 hi).2] at this
  exact this id hb ha
end
def Kp (h : AHeap) (p : AVal) (o : Option Nat) : Prop := match o with | none => ∃ x, A.ldv h p = some x | some n => ∃ x, A.ldnv h p n = some x
def upf {α : Type} (f : Nat → α) (k : Nat) (v : α) : Nat → α := fun j => if j = k then v else f j
def Objs (es n : Nat) (xs : Nat → AVal) (D R : Nat → List (List AVal)) : List Ob := (List.range n).map fun j => Ob.sl es (xs j) (D j) (R j)
section
variable {es n k : Nat} {xs : Nat → AVal} {D R : Nat → List (List AVal)}
@[simp] theorem Objs.length : (Objs es n xs D R).length = n := by simp [Objs]
theorem Objs.get (hk : k < n) : (Objs es n xs D R)[k]? = some (.sl es (xs k) (D k) (R k)) := by simp [Objs, hk]
theorem Objs.congr {ys : Nat → AVal} {E S : Nat → List (List AVal)} (h : ∀ j, j < n → xs j = ys j ∧ D j = E j ∧ R j = S j) : Objs es n xs D R = Objs es n ys E S :=
 List.map_congr_left fun j hj => by obtain ⟨a, b, c⟩ := h j (by simpa using hj); rw [a, b, c]
theorem Objs.getA {l : List Ob} (hk : k < n) : (Objs es n xs D R ++ l)[k]? = some (.sl es (xs k) (D k) (R k)) := by
 rw [List.getElem?_append_left (by simpa using hk)]; exact Objs.get hk
theorem Objs.getL {o : Ob} : (Objs es n xs D R ++ [o])[n]? = some o := by
 rw [List.getElem?_append_right (by simp)]; simp
theorem Objs.setL {o o' : Ob} : (Objs es n xs D R ++ [o]).set n o' = Objs es n xs D R ++ [o'] := by
 rw [List.set_append_right _ _ (by simp)]; simp
end
theorem Owns.cutR {h0 h : AHeap} {es n : Nat} {xs : Nat → AVal} {D R : Nat → List (List AVal)} {l : List Ob} (ho : Owns h0 h (Objs es n xs D R ++ l)) : Owns h0 h (Objs es n xs D (fun _ => []) ++ l) := by
 have mem : ∀ o ∈ Objs es n xs D (fun _ => []), ∃ o' ∈ Objs es n xs D R, o'.foot = o.foot ∧ (o'.at h → o.at h) := fun o hm => by
  obtain ⟨j, hj, rfl⟩ := List.mem_map.1 hm
  exact ⟨_, List.mem_map.2 ⟨j, hj, rfl⟩, rfl, fun h => SlX.cut h⟩
 refine ⟨ho.le, fun o hm => ?_, fun o hm => ?_, ?_⟩
 ·rcases List.mem_append.1 hm with hm | hm
  ·obtain ⟨o', h1, _, h3⟩ := mem o hm
   exact h3 (ho.is _ (List.mem_append_left _ h1))
  ·exact ho.is _ (List.mem_append_right _ hm)
 ·rcases List.mem_append.1 hm with hm | hm
  ·obtain ⟨o', h1, h2, _⟩ := mem o hm
   rw [← h2]
   exact ho.own _ (List.mem_append_left _ h1)
  ·exact ho.own _ (List.mem_append_right _ hm)
 ·obtain ⟨a, b, c⟩ := List.pairwise_append.1 ho.apart
  refine List.pairwise_append.2 ⟨?_, b, fun x hx y hy => ?_⟩
  ·unfold Objs at a ⊢
   rw [List.pairwise_map] at a ⊢
   exact a.imp fun h => h
  ·obtain ⟨o', h1, h2, _⟩ := mem x hx
   rw [← h2]
   exact c o' h1 y hy
end Go.Ab
namespace Go.Ab
variable {C : CSem} {N : Nat → Nat}
def mkTo (m : Int → Int → List AVal) (k n : Nat) : List (List AVal) := (List.range n).map fun (i : Nat) => m (k : Int) (i : Int)
section
variable {m : Int → Int → List AVal} {k n i : Nat}
@[simp] theorem mkTo_len : (mkTo m k n).length = n := by simp [mkTo]
@[simp] theorem mkTo_zero : mkTo m k 0 = [] := rfl
end
section
variable {h : AHeap} {x : AVal} {n k : Nat} {xs : Nat → AVal} {W : List (List AVal)} (hx : SlX h 1 x (fills n fun j => [xs j]) W)
include hx
theorem ls_ld (hk : k < n) : A.ldv h (elp 1 x k 0) = some (xs k) := by rw [hx.ldv (fills_get _ hk) (by omega)]; rfl
end
structure FS (E : ElOps) (m : Int → Int → List AVal) (h0 h : AHeap) (v5 : AVal) (n : Nat) (xs : Nat → AVal) (len : Nat → Nat) (ys : Nat → AVal) (F : Nat → List (List AVal)) (gs : Nat → AVal) : Prop where
 own : Owns h0 h (Objs E.es n ys F (fun _ => []) ++ [.sl 1 v5 (fills n fun j => [gs j]) []])
 old : ∀ j, j < n → Old h E.es (xs j) (mkTo m j (len j)) (ys j) (F j)
section
variable {E : ElOps} {m : Int → Int → List AVal} {v : Int → Int → AVal} {h0 h h' : AHeap} {x v5 : AVal} {n k : Nat} {xs ys gs : Nat → AVal} {len : Nat → Nat} {F : Nat → List (List AVal)} {W : List (List AVal)} {Q : AVal → AHeap → Prop}
theorem FS.store (fs : FS E m h0 h v5 n xs len ys F gs) (hk : k < n) {y : AVal} (hy : y.isCell = true) {K : AHeap → Prop} (hK : ∀ h', FS E m h0 h' v5 n xs len ys F (upf gs k y) → K h') : A.st h (elp 1 v5 k 0) y K := by
 refine fs.own.st n Objs.getL (fills_get _ hk) (by omega) hy fun h' ho hb => hK h' ⟨?_, fun j hj => ?_⟩
 ·rw [Objs.setL] at ho
  have e : (fills n fun j => [gs j]).set k ([gs k].set 0 y) = fills n fun j => [upf gs k y j] := by
   rw [fills_set]
   refine fills_congr fun j hj => ?_
   unfold upf
   split <;> rfl
  rwa [e] at ho
 ·exact (fs.old j hj).other hb (fs.own.ne (Objs.getA hj) Objs.getL (by omega))
end
end Go.Ab
namespace Go.Ab
variable {C : CSem} {N : Nat → Nat}
structure Scal (T : Type) [DecidableEq T] where
 c : T → AVal
 cell : ∀ t, (c t).isCell = true
 eql : ∀ a b, V.bin .eql (c a) (c b) = some (.bool (decide (a = b)))
 neq : ∀ a b, V.bin .neq (c a) (c b) = some (.bool (!decide (a = b)))
theorem SlX.cell {h : AHeap} {x c : AVal} {L R : List (List AVal)} {i : Nat} (hs : SlX h 1 x L R) (hc : L[i]? = some [c]) : A.ldv h (elp 1 x i 0) = some c := by
 rw [hs.ldv hc (by omega)]; rfl
section
variable {T : Type} [DecidableEq T] (F : Scal T)
abbrev Scal.cs (t : T) : List AVal := [F.c t]
@[simp] def sameS.k2 (Q : AVal → AHeap → Prop) (Y1 : List AVal → AHeap → Prop) (v0 v1 v5 : AVal) (h : AHeap) : Prop :=
 B.pv (V.lenSl v0) fun v13 =>
  B.pv (V.bin .lss v5 v13) fun v14 =>
  B.cond v14
  (B.pv (V.idxS 1 v0 v5) fun v19 =>
  B.ld h v19 fun v20 =>
  B.pv (V.idxS 1 v1 v5) fun v23 =>
  B.ld h v23 fun v24 =>
  B.pv (V.bin .neq v20 v24) fun v25 =>
  B.cond v25
  (Q (.bool false) h)
  (B.pv (V.bin .add v5 (.int .i64 1)) fun v16 =>
  Y1 [v16] h))
  (Q (.bool true) h)
@[simp] def sameS.l4 (Q : AVal → AHeap → Prop) (v0 v1 : AVal) : List AVal → AHeap → (List AVal → AHeap → Prop) → Prop
 | [v5], h, Y1 => sameS.k2 Q Y1 v0 v1 v5 h
 | _, _, _ => False
def sameS (v0 v1 : AVal) (h : AHeap) (Q : AVal → AHeap → Prop) : Prop :=
 B.pv (V.lenSl v0) fun v7 =>
  B.pv (V.lenSl v1) fun v9 =>
  B.pv (V.bin .neq v7 v9) fun v10 =>
  B.cond v10
  (Q (.bool false) h)
  (LoopR (sameS.l4 Q v0 v1) [(.int .i64 0)] h)
theorem sameS_spec {x y : AVal} {L M : List T} {R S : List (List AVal)} {h : AHeap} {Q : AVal → AHeap → Prop} (hx : SlX h 1 x (L.map F.cs) R) (hy : SlX h 1 y (M.map F.cs) S) (hlen : L.length < 4611686018427387904)
  (hq : Q (.bool (decide (L = M))) h) : sameS x y h Q := by
 have hlx := hx.lenSl
 have hly := hy.lenSl
 rw [List.length_map] at hlx hly
 simp -dsimp [sameS, hlx, hly]
 refine B.cond_bool (fun hb => ?_) (fun hb => ?_) <;> simp -dsimp at hb ⊢
 ·rw [decide_eq_false fun e => hb (by rw [e])] at hq
  exact hq
 ·refine LoopR.intro (fun n vs hh => ∃ k, k + n = L.length ∧ vs = [.int .i64 k] ∧ hh = h ∧ L.take k = M.take k) L.length ?_ ⟨0, by simp, by simp, rfl, by simp⟩
  rintro Y n vs _ ⟨k, hn, rfl, rfl, he⟩ hY
  simp -dsimp [hlx]
  refine B.cond_bool (fun hc => ?_) (fun hc => ?_) <;> simp -dsimp at hc ⊢
  ·obtain ⟨w, hw⟩ := get_lt hc
   obtain ⟨u, hu⟩ := get_lt (L := M) (k := k) (by omega)
   have hk : k < (L.map F.cs).length := by simpa using hc
   have hk2 : k < (M.map F.cs).length := by simp; omega
   simp only [hx.idxN hk, hy.idxN hk2, hx.cell (get_map hw), hy.cell (get_map hu), B.pv_some, B.ld_eq, F.neq]
   refine B.cond_bool (fun hd => ?_) (fun hd => ?_) <;> simp -dsimp at hd ⊢
   ·rw [decide_eq_false fun e => by subst e; rw [hw] at hu; cases hu; exact hd rfl] at hq
    exact hq
   ·simp [inc64 (n := k) (by omega)]
    refine hY (L.length - (k + 1)) _ _ (by omega) ⟨k + 1, by omega, by simp, rfl, ?_⟩
    rw [take_succ hw, take_succ hu, he, hd]
  ·rw [List.take_of_length_le (by omega), List.take_of_length_le (by omega)] at he
   rw [decide_eq_true he] at hq
   exact hq
def cmarks (mk : Int → T) (n : Nat) : List (List AVal) := (List.range n).map fun (i : Nat) => F.cs (mk (i : Int))
@[simp] theorem cmarks_len (mk : Int → T) (n : Nat) : (cmarks F mk n).length = n := by simp [cmarks]
theorem cmarks_succ (mk : Int → T) (n : Nat) : cmarks F mk (n + 1) = cmarks F mk n ++ [F.cs (mk n)] := by simp [cmarks, List.range_succ]
@[simp] def lentS.k2 (C : CSem) (bytes f : Nat) (z : AVal) (m : Int) (Q : AVal → AHeap → Prop) (Y1 : List AVal → AHeap → Prop) (v0 v3 v4 : AVal) (h : AHeap) : Prop :=
 B.pv (V.bin .lss v4 (.int .i64 12)) fun v13 =>
  B.cond v13
  (B.call C f [(.int .i64 m), v4] h fun v18 h =>
  B.newO h (fillL [(0, none, v18)] (repL 1 [z])) fun i19 h =>
  B.appW h 1 bytes v3 (.sl i19 0 0 1 1 1) fun v20 h =>
  B.pv (V.bin .add v4 (.int .i64 1)) fun v15 =>
  Y1 [v20, v15] h)
  (B.pv (V.lenSl v0) fun v23 =>
  B.pv (V.cutSl 1 v3 none (some v23)) fun v24 =>
  Q v24 h)
@[simp] def lentS.l4 (C : CSem) (bytes f : Nat) (z : AVal) (m : Int) (Q : AVal → AHeap → Prop) (v0 : AVal) : List AVal → AHeap → (List AVal → AHeap → Prop) → Prop
 | [v3, v4], h, Y1 => lentS.k2 C bytes f z m Q Y1 v0 v3 v4 h
 | _, _, _ => False
def lentS (C : CSem) (bytes f : Nat) (z : AVal) (m : Int) (v0 : AVal) (h : AHeap) (Q : AVal → AHeap → Prop) : Prop :=
 B.pv (V.lenSl v0) fun v6 =>
  B.pv (V.bin .add v6 (.int .i64 12)) fun v7 =>
  0 < 1 ∧ B.mks h bytes (some [z]) (.int .i64 0) v7 fun v8 h =>
  B.appW h 1 bytes v8 v0 fun v11 h =>
  LoopR (lentS.l4 C bytes f z m Q v0) [v11, (.int .i64 0)] h
theorem lentS_specL {bytes f : Nat} {z : AVal} {m : Int} {mk : Int → T} (s1 : ∀ (i : Int) (h : AHeap) (Q : AVal → AHeap → Prop), Q (F.c (mk i)) h → C f [.int .i64 m, .int .i64 i] h Q)
  {x : AVal} {L : List T} {R : List (List AVal)} {h : AHeap} {Q : AVal → AHeap → Prop} (hx : SlX h 1 x (L.map F.cs) R) (hlen : L.length ≤ 4611686018427387000) (hbm : (L.length + 12) * bytes ≤ 140737488355328)
  (hq : ∀ x' h', Owns h h' [.sl 1 x' (L.map F.cs) (cmarks F mk 12)] → Q x' h') : lentS C bytes f z m x h Q := by
 have hlx := hx.lenSl
 rw [List.length_map] at hlx
 have hmul : ∀ n : Nat, n ≤ L.length + 12 → n * bytes ≤ 140737488355328 := fun n hn => Nat.le_trans (Nat.mul_le_mul_right bytes hn) hbm
 have e1 : IntKind.i64.wrap ((L.length : Int) + 12) = (L.length : Int) + 12 := wrap_i64 (by omega) (by omega)
 simp -dsimp [lentS, hlx, e1]
 refine (Owns.start h).mks (es := 1) rfl (by omega) (by omega) ?_ (by omega) fun y h1 ho => ?_
 ·have := hmul (L.length + 12) (by omega)
  have e : ((L.length : Int) + 12) * bytes = ((L.length + 12) * bytes : Nat) := by simp
  rw [e]; omega
 refine ho.appW 0 rfl (hx.mono ho.le) Nat.one_pos (by simpa using hmul L.length (by omega)) (by simp [maxLen]; omega) fun y2 h2 ho2 _ => ?_
 refine LoopR.intro (fun n vs hh => ∃ k y, k + n = 12 ∧ vs = [y, .int .i64 k] ∧ Owns h hh [.sl 1 y (L.map F.cs ++ cmarks F mk k) []]) 12 ?_ ⟨0, y2, by simp, by simp, by simpa [cmarks] using ho2⟩
 rintro Y n vs hh ⟨k, y3, hn, rfl, ho3⟩ hY
 simp -dsimp [hlx]
 refine B.cond_bool (fun hc => ?_) (fun hc => ?_) <;> simp -dsimp at hc ⊢
 ·refine s1 _ _ _ ?_
  have hfill : fillL [(0, none, F.c (mk k))] (repL 1 [z]) = some (F.cs (mk k)) := by
   simp [F.cell, repL]
  rw [hfill]
  refine ho3.push 0 rfl rfl Nat.one_pos (by simp; have := hmul (L.length + k + 1) (by omega); omega) (by simp [maxLen]; omega) fun z' h4 ho4 _ => ?_
  simp [inc64 (n := k) (by omega)]
  refine hY (12 - (k + 1)) _ _ (by omega) ⟨k + 1, z', by omega, by simp, ?_⟩
  rw [cmarks_succ, ← List.append_assoc]
  exact ho4
 ·have : k = 12 := by omega
  subst this
  obtain ⟨x', e2, e3, e4⟩ := (ho3.slAt 0 rfl).slice Nat.one_pos (lo := 0) (hi := L.length) (a := none) (b := some (.int .i64 L.length)) (.inl ⟨rfl, rfl⟩) (.inr ⟨_, rfl⟩) (by omega) (by simp)
  simp -dsimp [hlx, e2]
  refine hq _ _ (ho3.turn 0 rfl (o' := .sl 1 x' (L.map F.cs) (cmarks F mk 12)) ?_ (fun id b hf hb => ho3.ownAt 0 rfl id b (by show foot y3 = some id; rw [← e4]; exact hf) hb) (fun j b hb _ => hb) (.inl e4))
  have h1 : ((L.map F.cs ++ cmarks F mk 12 ++ []).take L.length).drop 0 = L.map F.cs := by simp [List.take_append_of_le_length]
  have h2 : (L.map F.cs ++ cmarks F mk 12 ++ []).drop L.length = cmarks F mk 12 := by simp [List.drop_append_of_le_length]
  rw [h1, h2] at e3
  exact e3
theorem lentS_spec {bytes f : Nat} {z : AVal} {m : Int} {mk : Int → T} (hbm : bytes ≤ 1000) (s1 : ∀ (i : Int) (h : AHeap) (Q : AVal → AHeap → Prop), Q (F.c (mk i)) h → C f [.int .i64 m, .int .i64 i] h Q)
  {x : AVal} {L : List T} {R : List (List AVal)} {h : AHeap} {Q : AVal → AHeap → Prop} (hx : SlX h 1 x (L.map F.cs) R) (hlen : L.length ≤ 100000000)
  (hq : ∀ x' h', Owns h h' [.sl 1 x' (L.map F.cs) (cmarks F mk 12)] → Q x' h') : lentS C bytes f z m x h Q :=
 lentS_specL F s1 hx (by omega) (by have := Nat.mul_le_mul (show L.length + 12 ≤ 100000100 by omega) hbm; omega) hq
end
theorem copy_specL {es bytes : Nat} (hes : 0 < es) {h : AHeap} {x : AVal} {L R : List (List AVal)} {K : AVal → AHeap → Prop} (hx : SlX h es x L R) (hlen : L.length ≤ 4611686018427387000) (hmul : L.length * bytes ≤ 140737488355328) (hk : ∀ x' h', Owns h h' [.sl es x' L []] → K x' h') : B.appW h es bytes .nils x K := by
 refine ((Owns.start h).nils es).appW 0 rfl hx hes (by simp; omega) (by simp [maxLen]; omega) fun x' h' ho _ => hk x' h' (by simpa using ho)
theorem copy_spec {es bytes : Nat} (hes : 0 < es) (hb : bytes ≤ 1000) {h : AHeap} {x : AVal} {L R : List (List AVal)} {K : AVal → AHeap → Prop} (hx : SlX h es x L R) (hlen : L.length ≤ 100000000) (hk : ∀ x' h', Owns h h' [.sl es x' L []] → K x' h') : B.appW h es bytes .nils x K := by
 have hmul := Nat.mul_le_mul hlen hb
 exact copy_specL hes hx (by omega) (by omega) hk
def AHeap.without (h : AHeap) (l : List Ob) : AHeap := ⟨fun i => bif l.any (fun o => o.foot == some i) then none else h i, by
 obtain ⟨n, k⟩ := h.2
 refine ⟨n, fun i hi => ?_⟩
 show (bif l.any (fun o => o.foot == some i) then none else h i) = none
 cases l.any (fun o => o.foot == some i)
 ·exact k i hi
 ·rfl⟩
theorem without_in {h : AHeap} {l : List Ob} {i : Nat} {o : Ob} (hm : o ∈ l) (hf : o.foot = some i) : h.without l i = none := by
 have : (l.any fun o => o.foot == some i) = true := List.any_eq_true.2 ⟨o, hm, by simp [hf]⟩
 show (bif l.any (fun o => o.foot == some i) then none else h i) = none
 rw [this]; rfl
theorem without_out {h : AHeap} {l : List Ob} {i : Nat} (hm : ∀ o ∈ l, o.foot ≠ some i) : h.without l i = h i := by
 have : (l.any fun o => o.foot == some i) = false := by
  rw [← Bool.not_eq_true, List.any_eq_true]
  rintro ⟨o, h1, h2⟩
  exact hm o h1 (by simpa using h2)
 show (bif l.any (fun o => o.foot == some i) then none else h i) = _
 rw [this]; rfl
theorem without_le (h : AHeap) (l : List Ob) : (h.without l).le h := fun i b e => by
 by_cases hm : ∃ o ∈ l, o.foot = some i
 ·obtain ⟨o, h1, h2⟩ := hm
  rw [without_in h1 h2] at e; cases e
 ·rw [without_out fun o h1 h2 => hm ⟨o, h1, h2⟩] at e; exact e
theorem Owns.out {h0 h : AHeap} {l1 l2 : List Ob} (ho : Owns h0 h (l1 ++ l2)) : Owns h0 (h.without l2) l1 ∧ Owns (h.without l2) h l2 := by
 obtain ⟨a1, a2, a3⟩ := List.pairwise_append.1 ho.apart
 have h1 : h0.le (h.without l2) := fun i b e => by
  rw [without_out fun o hm hf => by rw [(ho.own o (List.mem_append_right _ hm) i hf).1] at e; cases e]
  exact ho.le i b e
 have keep : ∀ o ∈ l1, ∀ id, o.foot = some id → (h.without l2) id = h id := fun o hm id hf => without_out fun o2 hm2 hf2 => a3 o hm o2 hm2 id hf hf2
 refine ⟨⟨h1, fun o hm => (ho.is o (List.mem_append_left _ hm)).keep fun id b hf hb => by rw [keep o hm id hf]; exact hb, fun o hm id hf => ?_, a1⟩,
  ⟨without_le h l2, fun o hm => ho.is o (List.mem_append_right _ hm), fun o hm id hf => ⟨without_in hm hf, (ho.own o (List.mem_append_right _ hm) id hf).2⟩, a2⟩⟩
 obtain ⟨b1, b2⟩ := ho.own o (List.mem_append_left _ hm) id hf
 exact ⟨b1, fun b hb => b2 b (by rw [← keep o hm id hf]; exact hb)⟩
theorem Owns.perm {h0 h : AHeap} {l l' : List Ob} (ho : Owns h0 h l) (hp : l.Perm l') : Owns h0 h l' :=
 ⟨ho.le, fun o hm => ho.is o (hp.mem_iff.2 hm), fun o hm => ho.own o (hp.mem_iff.2 hm), (hp.pairwise_iff fun {a b} hab id hb ha => hab id ha hb).1 ho.apart⟩
end Go.Ab
namespace Go.Ab
structure Window where
 From : Int
 Until : Int
 deriving DecidableEq
@[simp] def Window.cs (w : Window) : List AVal := [.int .i64 w.From, .int .i64 w.Until]
@[simp] theorem Window.eta (w : Window) : Window.mk w.From w.Until = w := rfl
def wF : Flat Window where
 cs := Window.cs
 es := 2
 sh := [.i .i64, .i .i64]
 len _ := rfl
 pos := by omega
 eq a b := by
  cases a; cases b
  simp
structure Lot where
 Id : Int
 Item : List UInt8
 From : Int
 Until : Int
 Qty : Int
 Arrived : Bool
 deriving DecidableEq
@[simp] def Lot.cs (l : Lot) : List AVal := [.int .i64 l.Id, .str l.Item, .int .i64 l.From, .int .i64 l.Until, .int .i64 l.Qty, .bool l.Arrived]
def lotF : Flat Lot where
 cs := Lot.cs
 es := 6
 sh := [.i .i64, .s, .i .i64, .i .i64, .i .i64, .b]
 len _ := rfl
 pos := by omega
 eq a b := by
  cases a; cases b
  simp
structure Use where
 Want : Int
 Lot : Int
 Qty : Int
 deriving DecidableEq
@[simp] def Use.cs (u : Use) : List AVal := [.int .i64 u.Want, .int .i64 u.Lot, .int .i64 u.Qty]
def useF : Flat Use where
 cs := Use.cs
 es := 3
 sh := [.i .i64, .i .i64, .i .i64]
 len _ := rfl
 pos := by omega
 eq a b := by
  cases a; cases b
  simp
structure Want where
 Item : List UInt8
 Day : Int
 Qty : Int
 deriving DecidableEq
structure Part where
 Item : List UInt8
 Qty : Int
 deriving DecidableEq
@[simp] def Part.cs (u : Part) : List AVal := [.str u.Item, .int .i64 u.Qty]
def partF : Flat Part where
 cs := Part.cs
 es := 2
 sh := [.s, .i .i64]
 len _ := rfl
 pos := by omega
 eq a b := by
  cases a; cases b
  simp
theorem u8_eq (a b : UInt8) : decide ((a.toNat : Int) = b.toNat) = decide (a = b) := by
 rw [decide_eq_decide]
 constructor
 ·intro h; exact UInt8.toNat_inj.1 (by omega)
 ·intro h; rw [h]
def bS : Scal UInt8 where
 c b := .int .u8 b.toNat
 cell _ := rfl
 eql a b := by rw [V.bin_eql, u8_eq]
 neq a b := by rw [V.bin_neq, u8_eq]
abbrev bc : UInt8 → List AVal := bS.cs
def tS : Scal (List UInt8) where
 c b := .str b
 cell _ := rfl
 eql a b := by rw [V.bin_seql]
 neq a b := by rw [V.bin_sneq]
abbrev tc : List UInt8 → List AVal := tS.cs
theorem wrap_u8 (n : Int) : IntKind.u8.wrap n = n % 256 := by
 simp [IntKind.wrap, IntKind.bits, IntKind.signed]
def byt (m : Int) : UInt8 := UInt8.ofNat (m % 256).toNat
theorem bin_shr {k j : IntKind} {a b : Int} (h0 : 0 ≤ b) (h1 : b < k.bits) : V.bin .shr (.int k a) (.int j b) = some (.int k (a.fdiv (2 ^ b.toNat))) := by
 simp only [V.bin, V.shift]
 rw [if_neg (by omega), Nat.min_eq_left (by omega)]
theorem wrap_u64 (n : Int) : IntKind.u64.wrap n = n % 18446744073709551616 := by
 simp [IntKind.wrap, IntKind.bits, IntKind.signed]
structure TellP where
 Err : Int
 Id : Int
 Day : Int
 Code : List UInt8
 State : UInt8
 Lots : List Lot
 Uses : List Use
 deriving DecidableEq
@[simp] def TellP.cs (t : TellP) (x y : AVal) : List AVal := [.int .i64 t.Err, .int .i64 t.Id, .int .i64 t.Day, .str t.Code, .int .u8 (t.State.toNat : Int), x, y]
structure TellAt (h : AHeap) (t : TellP) (x y : AVal) : Prop where
 lots : ∃ R, SlX h 6 x (t.Lots.map Lot.cs) R
 uses : ∃ R, SlX h 3 y (t.Uses.map Use.cs) R
end Go.Ab
namespace Go.Ab
abbrev tyPart : Ty := .st [.s, .i .i64]
theorem arg_sliceP {T : Type} {H : AHeap} {bytes es : Nat} {e : Ty} {v : AVal} (cs : T → List AVal) (P : T → Prop) (hd : ∀ p, AbsOk H e p → ∃ t, p = cs t ∧ P t) (h : AbsOk H (.sl bytes es e) [v]) :
  ∃ L : List T, SlIs H es v (L.map cs) ∧ L.length * bytes ≤ reach ∧ ∀ t ∈ L, P t := by
 obtain ⟨L, h1, h2⟩ := arg_slice (T := { t : T // P t }) (fun t => cs t.1) (fun p hp => by obtain ⟨t, e, k⟩ := hd p hp; exact ⟨⟨t, k⟩, e⟩) h
 refine ⟨L.map (·.1), ?_, by simpa using h2, fun t ht => ?_⟩
 ·rw [List.map_map]; exact h1
 ·obtain ⟨u, _, rfl⟩ := List.mem_map.1 ht; exact u.2
end Go.Ab
namespace Go.Ab
def cA : Code → Code
 | .seq a _ => a
 | .cond _ a _ => a
 | .block _ b => b
 | .loop b => b
 | .scope b => b
 | _ => .skip
def cB : Code → Code
 | .seq _ b => b
 | .cond _ _ b => b
 | _ => .skip
def cI : Code → Nat
 | .block i _ => i
 | _ => 0
def isS : Code → Bool
 | .seq _ _ => true
 | _ => false
def isC (t : Nat) : Code → Bool
 | .cond (.tmp k) _ _ => Nat.beq k t
 | _ => false
def isK : Code → Bool
 | .block _ _ => true
 | _ => false
def isL : Code → Bool
 | .loop _ => true
 | _ => false
section
variable {P : Program} {C : CSem} {I : Bx}
theorem eS (hC : CMono C) {c : Code} {Q : Ex → Slots → AHeap → Prop} {s : Slots} {h : AHeap} (X : Slots → AHeap → Prop) (ha : bwp P C I (cA c) (Ex.then X Q) s h) (hb : ∀ s h, X s h → bwp P C I (cB c) Q s h) (hk : isS c = true := by kernel_rfl) : bwp P C I c Q s h := by
 cases c <;> first | exact seqB hC rfl hb ha | cases hk
theorem eC {c : Code} {Q : Ex → Slots → AHeap → Prop} {p q : Prop} {s : Slots} {h : AHeap} (t : Nat) (hr : A.cond (s t) p q) (hx : p → bwp P C I (cA c) Q s h) (hy : q → bwp P C I (cB c) Q s h) (hk : isC t c = true := by kernel_rfl) : bwp P C I c Q s h := by
 cases c with
 | cond o x y =>
  cases o with
  | tmp k =>
   have e : k = t := Nat.eq_of_beq_eq_true hk
   subst e
   exact condB rfl hx hy hr
  | _ => cases hk
 | _ => cases hk
theorem eK {c : Code} {Q : Ex → Slots → AHeap → Prop} {s : Slots} {h : AHeap} (hb : bwp P C I (cA c) (Ex.inBlock (cI c) Q) s h) (hk : isK c = true := by kernel_rfl) : bwp P C I c Q s h := by
 cases c <;> first | exact hb | cases hk
theorem eL (hC : CMono C) {c : Code} {Q : Ex → Slots → AHeap → Prop} {s : Slots} {h : AHeap} (keep live : List Nat) (G : List AVal → List AVal → AHeap → (List AVal → AHeap → Prop) → Prop)
  (hr : LoopR (G (keep.map s)) (live.map s) h)
  (hG : ∀ (Y : List AVal → AHeap → Prop) (s : Slots) (h : AHeap), G (keep.map s) (live.map s) h Y → bwp P C I (cA c) (Ex.then (fun s h => Y (live.map s) h) Q) s h)
  (hk : isL c = true := by kernel_rfl) (hw : (keep.all fun k => !memB (writesB P I (cA c)) k) = true := by kernel_rfl) : bwp P C I c Q s h := by
 cases c <;> first | exact loopB hC keep live rfl hw hG hr | cases hk
theorem e0 {q p : Prop} (hR : p) (e : q = p := by kernel_rfl) : q := e.mpr hR
theorem e1 {c : Code} {Q : Ex → Slots → AHeap → Prop} {s : Slots} {h : AHeap} {p : Prop} (hR : p) (e : bwp P C I c Q s h = p := by kernel_rfl) : bwp P C I c Q s h := e.mpr hR
theorem eF (hm : P.follows .mixedOrders = true) {f : FuncId} {fn : Func} {c : Code} {I : Bx} {args : List AVal} {h : AHeap} {Q : AVal → AHeap → Prop}
  (hx : CMono (AC P) → bwp P (AC P) I c (retB P I fn.results.toList (dn Q)) (startS args) h) (hf : P.funcs[f]? = some fn := by kernel_rfl) (hb : fn.body = some c := by kernel_rfl) (h1 : (fn.name == "runtime.NumGoroutine") = false := by kernel_rfl)
  (hc : codeIn fn.ntmps c = true := by kernel_rfl) (hne : Nat.beq f yieldF = false := by kernel_rfl) (hl : Nat.ble args.length fn.ntmps = true := by kernel_rfl) (hB : Nat.ble args.length I.B = true := by kernel_rfl) (hk : chkC P I c = true := by kernel_rfl) : AC P f args h Q :=
 AC_drop (AC_introB hm hf hb (callFunc_enter hf (by rw [hb]; rfl) h1) hc hne (Nat.le_of_ble_eq_true hl) (Nat.le_of_ble_eq_true hB) hk (hx (AC_cmono P)))
end
end Go.Ab
namespace Go.Ab
@[simp] def cmp_Less_string.k1 (C : CSem) (N : Nat → Nat) (Q : AVal → AHeap → Prop) (v0 v1 : AVal) (h : AHeap) : Prop :=
 B.call C (N 389) [v0] h fun v6 h =>
  B.gd h v6 true (fun K => K v1 h) fun v8 h =>
  B.gd h v6 true (fun K => B.call C (N 389) [v8] h K) fun v9 h =>
  B.gd h v6 true (fun K => B.pv (V.un .not v9) fun v => K v h) fun v10 h =>
  B.pick v6 v10 (.bool false) fun v11 =>
  B.gd h v11 false (fun K => K v0 h) fun v13 h =>
  B.gd h v11 false (fun K => K v1 h) fun v14 h =>
  B.gd h v11 false (fun K => B.pv (V.bin .lss v13 v14) fun v => K v h) fun v15 h =>
  B.pick v11 (.bool true) v15 fun v16 =>
  Q v16 h
@[simp] def cmp_Less_string.cps (C : CSem) (N : Nat → Nat) (v0 v1 : AVal) (h : AHeap) (Q : AVal → AHeap → Prop) : Prop :=
 cmp_Less_string.k1 C N Q v0 v1 h
def cmp_Less_string.Imp (C : CSem) (N : Nat → Nat) : Prop := ∀ (v0 v1 : AVal) (h : AHeap) (Q : AVal → AHeap → Prop), cmp_Less_string.cps C N v0 v1 h (dn Q) → C (N 377) [v0, v1] h Q
@[simp] def cmp_isNaN_string.cps (C : CSem) (N : Nat → Nat) (v0 : AVal) (h : AHeap) (Q : AVal → AHeap → Prop) : Prop :=
 B.pv (V.bin .neq v0 v0) fun v5 =>
  Q v5 h
def cmp_isNaN_string.Imp (C : CSem) (N : Nat → Nat) : Prop := ∀ (v0 : AVal) (h : AHeap) (Q : AVal → AHeap → Prop), cmp_isNaN_string.cps C N v0 h (dn Q) → C (N 389) [v0] h Q
end Go.Ab
namespace Go.Ab
@[simp] def code_Right.k1 (C : CSem) (N : Nat → Nat) (Q : AVal → AHeap → Prop) (v0 : AVal) (h : AHeap) : Prop :=
 B.pv (V.bin .neq v0 (.str [])) fun v34 =>
  B.gd h v34 true (fun K => K v0 h) fun v36 h =>
  B.gd h v34 true (fun K => B.pv (V.lenStr v36) fun v => K v h) fun v37 h =>
  B.gd h v34 true (fun K => B.pv (V.bin .leq v37 (.int .i64 12)) fun v => K v h) fun v38 h =>
  B.pick v34 v38 (.bool false) fun v39 =>
  Q v39 h
@[simp] def code_Right.k2 (C : CSem) (N : Nat → Nat) (Q : AVal → AHeap → Prop) (Y1 : List AVal → AHeap → Prop) (v0 v6 : AVal) (h : AHeap) : Prop :=
 B.nextStr h v6 fun v7 h =>
  B.pv (V.ext 0 v7) fun v8 =>
  B.cond v8
  (B.pv (V.ext 1 v7) fun v9 =>
  B.pv (V.ext 2 v7) fun v10 =>
  B.pv (V.bin .geq v10 (.int .i32 65)) fun v13 =>
  B.gd h v13 true (fun K => K v10 h) fun v15 h =>
  B.gd h v13 true (fun K => B.pv (V.bin .leq v15 (.int .i32 90)) fun v => K v h) fun v16 h =>
  B.pick v13 v16 (.bool false) fun v17 =>
  B.cond v17
  (Y1 [] h)
  (B.pv (V.bin .gtr v9 (.int .i64 0)) fun v20 =>
  B.gd h v20 true (fun K => K v10 h) fun v22 h =>
  B.gd h v20 true (fun K => B.pv (V.bin .geq v22 (.int .i32 48)) fun v => K v h) fun v23 h =>
  B.gd h v20 true (fun K => K v23 h) fun v24 h =>
  B.gd h v24 true (fun K => K v10 h) fun v25 h =>
  B.gd h v24 true (fun K => B.pv (V.bin .leq v25 (.int .i32 57)) fun v => K v h) fun v26 h =>
  B.gd h v20 true (fun K => B.pick v24 v26 (.bool false) fun v => K v h) fun v27 h =>
  B.gd h v20 true (fun K => K v27 h) fun v28 h =>
  B.gd h v28 false (fun K => K v10 h) fun v29 h =>
  B.gd h v28 false (fun K => B.pv (V.bin .eql v29 (.int .i32 45)) fun v => K v h) fun v30 h =>
  B.gd h v20 true (fun K => B.pick v28 (.bool true) v30 fun v => K v h) fun v31 h =>
  B.pick v20 v31 (.bool false) fun v32 =>
  B.cond v32
  (Y1 [] h)
  (Q (.bool false) h)))
  (code_Right.k1 C N Q v0 h)
@[simp] def code_Right.l3 (C : CSem) (N : Nat → Nat) (Q : AVal → AHeap → Prop) (v0 v6 : AVal) : List AVal → AHeap → (List AVal → AHeap → Prop) → Prop
 | [], h, Y1 => code_Right.k2 C N Q Y1 v0 v6 h
 | _, _, _ => False
@[simp] def code_Right.cps (C : CSem) (N : Nat → Nat) (v0 : AVal) (h : AHeap) (Q : AVal → AHeap → Prop) : Prop :=
 B.rangeStr h v0 fun v6 h =>
  LoopR (code_Right.l3 C N Q v0 v6) [] h
def code_Right.Imp (C : CSem) (N : Nat → Nat) : Prop := ∀ (v0 : AVal) (h : AHeap) (Q : AVal → AHeap → Prop), code_Right.cps C N v0 h (dn Q) → C (N 53) [v0] h Q
end Go.Ab
namespace Go.Ab
@[simp] def kit_ApartBytes.k1 (C : CSem) (N : Nat → Nat) (Q : AVal → AHeap → Prop) (Y1 : List AVal → AHeap → Prop) (v0 v3 v4 : AVal) (h : AHeap) : Prop :=
 B.pv (V.lenSl v0) fun v9 =>
  B.pv (V.bin .lss v4 v9) fun v10 =>
  B.cond v10
  (B.pv (V.idxS 1 v0 v4) fun v16 =>
  B.ld h v16 fun v17 =>
  B.call C (N 63) [v3, v17] h fun v18 h =>
  B.pv (V.bin .add v4 (.int .i64 1)) fun v12 =>
  Y1 [v12] h)
  (B.call C (N 62) [v3] h fun v20 h =>
  Q v20 h)
@[simp] def kit_ApartBytes.l2 (C : CSem) (N : Nat → Nat) (Q : AVal → AHeap → Prop) (v0 v3 : AVal) : List AVal → AHeap → (List AVal → AHeap → Prop) → Prop
 | [v4], h, Y1 => kit_ApartBytes.k1 C N Q Y1 v0 v3 v4 h
 | _, _, _ => False
@[simp] def kit_flatWords.k14 (C : CSem) (N : Nat → Nat) (Q : AVal → AHeap → Prop) (Y7 : List AVal → AHeap → Prop) (Y8 : List AVal → AHeap → Prop) (v0 v5 v6 v7 v8 : AVal) (h : AHeap) : Prop :=
 B.pv (V.bin .lss v8 (.int .i64 64)) fun v55 =>
  B.cond v55
  (B.pv (V.idxS 1 v0 v6) fun v62 =>
  B.ld h v62 fun v63 =>
  B.pv (V.lenSl v63) fun v64 =>
  B.pv (V.bin .add v64 v8) fun v66 =>
  B.call C (N 20) [v6, v66] h fun v67 h =>
  B.pv (V.toInt .u64 v67) fun v68 =>
  B.newO h (fillL [(0, none, v68)] (repL 1 [.int .u64 0])) fun i69 h =>
  B.appW h 1 8 v7 (.sl i69 0 0 1 1 1) fun v70 h =>
  B.pv (V.bin .add v8 (.int .i64 1)) fun v57 =>
  Y8 [v70, v57] h)
  (B.pv (V.idxS 1 v5 v6) fun v74 =>
  B.st h v74 v7 fun h =>
  B.pv (V.bin .add v6 (.int .i64 1)) fun v49 =>
  Y7 [v49] h)
@[simp] def kit_flatWords.l15 (C : CSem) (N : Nat → Nat) (Q : AVal → AHeap → Prop) (Y7 : List AVal → AHeap → Prop) (v0 v5 v6 : AVal) : List AVal → AHeap → (List AVal → AHeap → Prop) → Prop
 | [v7, v8], h, Y8 => kit_flatWords.k14 C N Q Y7 Y8 v0 v5 v6 v7 v8 h
 | _, _, _ => False
@[simp] def kit_SameTexts.k3 (C : CSem) (N : Nat → Nat) (Q : AVal → AHeap → Prop) (v0 v1 : AVal) (h : AHeap) : Prop :=
 B.pv (V.lenSl v0) fun v7 =>
  B.pv (V.lenSl v1) fun v9 =>
  B.pv (V.bin .neq v7 v9) fun v10 =>
  B.cond v10
  (Q (.bool false) h)
  (LoopR (sameS.l4  Q v0 v1) [(.int .i64 0)] h)
def kit_SameTexts.cps (C : CSem) (N : Nat → Nat) (v0 v1 : AVal) (h : AHeap) (Q : AVal → AHeap → Prop) : Prop :=
 kit_SameTexts.k3 C N Q v0 v1 h
def kit_SameTexts.Imp (C : CSem) (N : Nat → Nat) : Prop := ∀ (v0 v1 : AVal) (h : AHeap) (Q : AVal → AHeap → Prop), kit_SameTexts.cps C N v0 v1 h (dn Q) → C (N 133) [v0, v1] h Q
@[simp] def kit_Pick.k1 (C : CSem) (N : Nat → Nat) (Q : AVal → AHeap → Prop) (v0 v1 : AVal) (h : AHeap) : Prop :=
 B.pv (V.bin .lss v1 (.int .i64 1)) fun v6 =>
  B.cond v6
  (Q (.int .i64 0) h)
  (B.pv (V.bin .rem v0 v1) fun v9 =>
  B.pv (V.bin .lss v9 (.int .i64 0)) fun v11 =>
  B.cond v11
  (B.pv (V.bin .add v9 v1) fun v14 =>
  Q v14 h)
  (Q v9 h))
@[simp] def kit_Pick.cps (C : CSem) (N : Nat → Nat) (v0 v1 : AVal) (h : AHeap) (Q : AVal → AHeap → Prop) : Prop :=
 kit_Pick.k1 C N Q v0 v1 h
def kit_Pick.Imp (C : CSem) (N : Nat → Nat) : Prop := ∀ (v0 v1 : AVal) (h : AHeap) (Q : AVal → AHeap → Prop), kit_Pick.cps C N v0 v1 h (dn Q) → C (N 155) [v0, v1] h Q
@[simp] def kit_LentParts.k3 (C : CSem) (N : Nat → Nat) (Q : AVal → AHeap → Prop) (v0 : AVal) (h : AHeap) : Prop :=
 B.pv (V.lenSl v0) fun v6 =>
  B.pv (V.bin .add v6 (.int .i64 12)) fun v7 =>
  0 < 2 ∧ B.mks h 24 (some [.str [], .int .i64 0]) (.int .i64 0) v7 fun v8 h =>
  B.appW h 2 24 v8 v0 fun v11 h =>
  LoopR (lentG.l4 C 2 24 (N 108) [.str [], .int .i64 0] 1 Q v0) [v11, (.int .i64 0)] h
def kit_LentParts.cps (C : CSem) (N : Nat → Nat) (v0 : AVal) (h : AHeap) (Q : AVal → AHeap → Prop) : Prop :=
 kit_LentParts.k3 C N Q v0 h
def kit_LentParts.Imp (C : CSem) (N : Nat → Nat) : Prop := ∀ (v0 : AVal) (h : AHeap) (Q : AVal → AHeap → Prop), kit_LentParts.cps C N v0 h (dn Q) → C (N 319) [v0] h Q
@[simp] def kit_CopyItems.k1 (C : CSem) (N : Nat → Nat) (Q : AVal → AHeap → Prop) (Y1 : List AVal → AHeap → Prop) (v0 v3 v4 : AVal) (h : AHeap) : Prop :=
 B.pv (V.lenSl v0) fun v8 =>
  B.pv (V.bin .lss v4 v8) fun v9 =>
  B.cond v9
  (B.pv (V.idxS 4 v0 v4) fun v14 =>
  B.ldn h v14 4 fun v15 =>
  B.call C (N 361) [v15] h fun v16 h =>
  B.pv (V.setN 0 4 v16 (.agg [.str [], .int .i64 0, .nils, .nils])) fun c5 =>
  B.pv (V.fieldN 0 4 c5) fun v18 =>
  B.newO h (fillL [(0, some 4, v18)] (repL 1 [.str [], .int .i64 0, .nils, .nils])) fun i19 h =>
  B.appW h 4 72 v3 (.sl i19 0 0 1 4 1) fun v20 h =>
  B.pv (V.bin .add v4 (.int .i64 1)) fun v11 =>
  Y1 [v20, v11] h)
  (Q v3 h)
@[simp] def kit_CopyItems.l2 (C : CSem) (N : Nat → Nat) (Q : AVal → AHeap → Prop) (v0 : AVal) : List AVal → AHeap → (List AVal → AHeap → Prop) → Prop
 | [v3, v4], h, Y1 => kit_CopyItems.k1 C N Q Y1 v0 v3 v4 h
 | _, _, _ => False
@[simp] def kit_CopyItems.cps (C : CSem) (N : Nat → Nat) (v0 : AVal) (h : AHeap) (Q : AVal → AHeap → Prop) : Prop :=
 LoopR (kit_CopyItems.l2 C N Q v0) [.nils, (.int .i64 0)] h
def kit_CopyItems.Imp (C : CSem) (N : Nat → Nat) : Prop := ∀ (v0 : AVal) (h : AHeap) (Q : AVal → AHeap → Prop), kit_CopyItems.cps C N v0 h (dn Q) → C (N 354) [v0] h Q
@[simp] def kit_Check.cps (C : CSem) (N : Nat → Nat) (v0 : AVal) (h : AHeap) (Q : AVal → AHeap → Prop) : Prop :=
 B.call C (N 362) [v0] h fun v8 h =>
  B.pv (V.ext 0 v8) fun v9 =>
  B.pv (V.ext 1 v8) fun v10 =>
  B.pv (V.ext 2 v8) fun v11 =>
  Q v11 h
def kit_Check.Imp (C : CSem) (N : Nat → Nat) : Prop := ∀ (v0 : AVal) (h : AHeap) (Q : AVal → AHeap → Prop), kit_Check.cps C N v0 h (dn Q) → C (N 356) [v0] h Q
@[simp] def kit_CopyItem.k1 (C : CSem) (N : Nat → Nat) (Q : AVal → AHeap → Prop) (v0 : AVal) (h : AHeap) : Prop :=
 B.pv (A.boxN 4 v0) fun c1 =>
  B.al c1 (B.pv (V.field1 2 c1) fun v4 =>
  B.call C (N 368) [v4] h fun v5 h =>
  B.al c1 (B.pv (V.setF 2 v5 c1) fun c1 =>
  B.al c1 (B.pv (V.field1 3 c1) fun v8 =>
  B.call C (N 369) [v8] h fun v9 h =>
  B.al c1 (B.pv (V.setF 3 v9 c1) fun c1 =>
  B.pv (V.fieldN 0 4 c1) fun v11 =>
  B.pv (V.setN 0 4 v11 (.agg [.str [], .int .i64 0, .nils, .nils])) fun c2 =>
  B.pv (oneOf (joinV (V.fieldN 0 4 c2) (some []))) fun v => Q v h))))
@[simp] def kit_CopyItem.cps (C : CSem) (N : Nat → Nat) (v0 : AVal) (h : AHeap) (Q : AVal → AHeap → Prop) : Prop :=
 kit_CopyItem.k1 C N Q v0 h
def kit_CopyItem.Imp (C : CSem) (N : Nat → Nat) : Prop := ∀ (v0 : AVal) (h : AHeap) (Q : AVal → AHeap → Prop), kit_CopyItem.cps C N v0 h (dn Q) → C (N 361) [v0] h Q
@[simp] def kit_check.k1 (C : CSem) (N : Nat → Nat) (Q : AVal → AHeap → Prop) (Y1 : List AVal → AHeap → Prop) (v7 v12 v82 : AVal) (h : AHeap) : Prop :=
 B.nextMap h v82 fun v83 h =>
  B.pv (V.ext 0 v83) fun v84 =>
  B.cond v84
  (B.pv (A.entryAt h v82) fun v85 =>
  B.pv (V.ext 1 v85) fun v86 =>
  B.pv (V.bin .gtr v86 (.int .i64 8)) fun v88 =>
  B.cond v88
  (Q (.tup [.nilm, .nilm, (.int .i64 3)]) h)
  (Y1 [] h))
  (Q (.tup [v7, v12, (.int .i64 0)]) h)
@[simp] def kit_check.l2 (C : CSem) (N : Nat → Nat) (Q : AVal → AHeap → Prop) (v7 v12 v82 : AVal) : List AVal → AHeap → (List AVal → AHeap → Prop) → Prop
 | [], h, Y1 => kit_check.k1 C N Q Y1 v7 v12 v82 h
 | _, _, _ => False
@[simp] def kit_check.k3 (C : CSem) (N : Nat → Nat) (Q : AVal → AHeap → Prop) (v7 v12 v13 : AVal) (h : AHeap) : Prop :=
 B.pv (V.un .not v13) fun v80 =>
  B.cond v80
  (Q (.tup [.nilm, .nilm, (.int .i64 152)]) h)
  (B.rangeMap h v12 fun v82 h =>
  LoopR (kit_check.l2 C N Q v7 v12 v82) [] h)
@[simp] def kit_check.k4 (C : CSem) (N : Nat → Nat) (Q : AVal → AHeap → Prop) (Y2 : List AVal → AHeap → Prop) (Y3 : List AVal → AHeap → Prop) (v7 v53 v54 v55 v60 v61 v62 : AVal) (h : AHeap) : Prop :=
 B.pv (V.bin .lss v62 v61) fun v63 =>
  B.cond v63
  (B.pv (V.idxS 2 v60 v62) fun v64 =>
  B.ldn h v64 2 fun v65 =>
  B.pv (V.setN 0 2 v65 (.agg [.str [], .int .i64 0])) fun c11 =>
  B.al c11 (B.pv (V.field1 0 c11) fun v68 =>
  B.pv (A.lkp h (some .s) (some (.agg [.str [], .int .i64 0, .nils, .nils])) false v7 v68) fun v69 =>
  B.pv (V.field1 0 v69) fun v70 =>
  B.pv (V.bin .eql v70 (.str [])) fun v71 =>
  B.cond v71
  (Q (.tup [.nilm, .nilm, (.int .i64 150)]) h)
  (B.pv (V.bin .add v62 (.int .i64 1)) fun v72 =>
  Y3 [v72] h)))
  (B.pv (V.bin .add v55 (.int .i64 1)) fun v73 =>
  Y2 [v73] h)
@[simp] def kit_check.l5 (C : CSem) (N : Nat → Nat) (Q : AVal → AHeap → Prop) (Y2 : List AVal → AHeap → Prop) (v7 v53 v54 v55 v60 v61 : AVal) : List AVal → AHeap → (List AVal → AHeap → Prop) → Prop
 | [v62], h, Y3 => kit_check.k4 C N Q Y2 Y3 v7 v53 v54 v55 v60 v61 v62 h
 | _, _, _ => False
@[simp] def kit_check.k6 (C : CSem) (N : Nat → Nat) (Q : AVal → AHeap → Prop) (Y2 : List AVal → AHeap → Prop) (v7 v53 v54 v55 : AVal) (h : AHeap) : Prop :=
 B.pv (V.idxS 4 v53 v55) fun v57 =>
  B.ldn h v57 4 fun v58 =>
  B.pv (V.setN 0 4 v58 (.agg [.str [], .int .i64 0, .nils, .nils])) fun c9 =>
  B.al c9 (B.pv (V.field1 2 c9) fun v60 =>
  B.pv (V.lenSl v60) fun v61 =>
  LoopR (kit_check.l5 C N Q Y2 v7 v53 v54 v55 v60 v61) [(.int .i64 0)] h)
@[simp] def kit_check.k7 (C : CSem) (N : Nat → Nat) (Q : AVal → AHeap → Prop) (Y2 : List AVal → AHeap → Prop) (v7 v53 v54 v55 v56 : AVal) (h : AHeap) : Prop :=
 B.cond v56
  (kit_check.k6 C N Q Y2 v7 v53 v54 v55 h)
  (B.call C (N 370) [v7] h fun v76 h =>
  B.pv (V.ext 0 v76) fun v77 =>
  B.pv (V.ext 1 v76) fun v78 =>
  kit_check.k3 C N Q v7 v77 v78 h)
@[simp] def kit_check.l8 (C : CSem) (N : Nat → Nat) (Q : AVal → AHeap → Prop) (v7 v53 v54 : AVal) : List AVal → AHeap → (List AVal → AHeap → Prop) → Prop
 | [v55], h, Y2 => B.pv (V.bin .lss v55 v54) fun v56 =>
  kit_check.k7 C N Q Y2 v7 v53 v54 v55 v56 h
 | _, _, _ => False
@[simp] def kit_check.k9 (C : CSem) (N : Nat → Nat) (Q : AVal → AHeap → Prop) (Y4 : List AVal → AHeap → Prop) (v0 v19 v20 v21 : AVal) (h : AHeap) : Prop :=
 B.pv (V.bin .lss v21 v20) fun v22 =>
  B.cond v22
  (B.pv (V.idxS 4 v19 v21) fun v24 =>
  B.ldn h v24 4 fun v25 =>
  B.pv (V.setN 0 4 v25 (.agg [.str [], .int .i64 0, .nils, .nils])) fun c6 =>
  B.al c6 (B.pv (V.field1 0 c6) fun v27 =>
  B.call C (N 53) [v27] h fun v28 h =>
  B.pv (V.un .not v28) fun v29 =>
  B.gd h v29 false (fun K => K v21 h) fun v31 h =>
  B.gd h v29 false (fun K => B.pv (V.bin .gtr v31 (.int .i64 0)) fun v => K v h) fun v32 h =>
  B.gd h v29 false (fun K => K v32 h) fun v33 h =>
  B.gd h v33 true (fun K => K v0 h) fun v34 h =>
  B.gd h v33 true (fun K => K v21 h) fun v35 h =>
  B.gd h v33 true (fun K => B.pv (V.bin .sub v35 (.int .i64 1)) fun v => K v h) fun v36 h =>
  B.gd h v33 true (fun K => B.pv (V.idxS 4 v34 v36) fun v => K v h) fun v37 h =>
  B.gd h v33 true (fun K => B.pv (V.fieldAddr 0 v37) fun v => K v h) fun v38 h =>
  B.gd h v33 true (fun K => B.ld h v38 fun v => K v h) fun v39 h =>
  B.al c6 (B.gd h v33 true (fun K => K .undef h) fun _ h =>
  B.gd h v33 true (fun K => B.pv (V.field1 0 c6) fun v => K v h) fun v41 h =>
  B.gd h v33 true (fun K => B.pv (V.bin .geq v39 v41) fun v => K v h) fun v42 h =>
  B.gd h v29 false (fun K => B.pick v33 v42 (.bool false) fun v => K v h) fun v43 h =>
  B.pick v29 (.bool true) v43 fun v44 =>
  B.gd h v44 false (fun K => B.pv (V.fieldN 0 4 c6) fun v => K v h) fun v46 h =>
  B.gd h v44 false (fun K => B.call C (N 372) [v46] h K) fun v47 h =>
  B.gd h v44 false (fun K => B.pv (V.un .not v47) fun v => K v h) fun v48 h =>
  B.pick v44 (.bool true) v48 fun v49 =>
  B.cond v49
  (Q (.tup [.nilm, .nilm, (.int .i64 4)]) h)
  (B.pv (V.bin .add v21 (.int .i64 1)) fun v50 =>
  Y4 [v50] h))))
  (B.call C (N 371) [v0] h fun v52 h =>
  B.pv (V.lenSl v0) fun v54 =>
  LoopR (kit_check.l8 C N Q v52 v0 v54) [(.int .i64 0)] h)
@[simp] def kit_check.l10 (C : CSem) (N : Nat → Nat) (Q : AVal → AHeap → Prop) (v0 v19 v20 : AVal) : List AVal → AHeap → (List AVal → AHeap → Prop) → Prop
 | [v21], h, Y4 => kit_check.k9 C N Q Y4 v0 v19 v20 v21 h
 | _, _, _ => False
@[simp] def kit_check.k11 (C : CSem) (N : Nat → Nat) (Q : AVal → AHeap → Prop) (v0 : AVal) (h : AHeap) : Prop :=
 B.pv (V.lenSl v0) fun v17 =>
  B.pv (V.bin .gtr v17 (.int .i64 60)) fun v18 =>
  B.cond v18
  (Q (.tup [.nilm, .nilm, (.int .i64 3)]) h)
  (B.pv (V.lenSl v0) fun v20 =>
  LoopR (kit_check.l10 C N Q v0 v0 v20) [(.int .i64 0)] h)
@[simp] def kit_check.cps (C : CSem) (N : Nat → Nat) (v0 : AVal) (h : AHeap) (Q : AVal → AHeap → Prop) : Prop :=
 kit_check.k11 C N Q v0 h
def kit_check.Imp (C : CSem) (N : Nat → Nat) : Prop := ∀ (v0 : AVal) (h : AHeap) (Q : AVal → AHeap → Prop), kit_check.cps C N v0 h (dn Q) → C (N 362) [v0] h Q
@[simp] def kit_CopyParts.cps (C : CSem) (N : Nat → Nat) (v0 : AVal) (h : AHeap) (Q : AVal → AHeap → Prop) : Prop :=
 B.appW h 2 24 .nils v0 fun v6 h =>
  Q v6 h
def kit_CopyParts.Imp (C : CSem) (N : Nat → Nat) : Prop := ∀ (v0 : AVal) (h : AHeap) (Q : AVal → AHeap → Prop), kit_CopyParts.cps C N v0 h (dn Q) → C (N 368) [v0] h Q
@[simp] def kit_CopyTexts.cps (C : CSem) (N : Nat → Nat) (v0 : AVal) (h : AHeap) (Q : AVal → AHeap → Prop) : Prop :=
 B.appW h 1 16 .nils v0 fun v6 h =>
  Q v6 h
def kit_CopyTexts.Imp (C : CSem) (N : Nat → Nat) : Prop := ∀ (v0 : AVal) (h : AHeap) (Q : AVal → AHeap → Prop), kit_CopyTexts.cps C N v0 h (dn Q) → C (N 369) [v0] h Q
@[simp] def kit_depths.k1 (C : CSem) (N : Nat → Nat) (Q : AVal → AHeap → Prop) (Y1 : List AVal → AHeap → Prop) (v4 v5 v10 : AVal) (h : AHeap) : Prop :=
 B.nextMap h v10 fun v11 h =>
  B.pv (V.ext 0 v11) fun v12 =>
  B.cond v12
  (B.pv (A.entryAt h v10) fun v13 =>
  B.pv (V.ext 0 v13) fun v14 =>
  B.ld h v5 fun v15 =>
  B.callv h C v15 [v14] fun v17 h =>
  B.pv (V.un .not v17) fun v18 =>
  B.cond v18
  (Q (.tup [.nilm, (.bool false)]) h)
  (Y1 [] h))
  (B.ld h v4 fun v19 =>
  Q (.tup [v19, (.bool true)]) h)
@[simp] def kit_depths.l2 (C : CSem) (N : Nat → Nat) (Q : AVal → AHeap → Prop) (v4 v5 v10 : AVal) : List AVal → AHeap → (List AVal → AHeap → Prop) → Prop
 | [], h, Y1 => kit_depths.k1 C N Q Y1 v4 v5 v10 h
 | _, _, _ => False
@[simp] def kit_depths.k3 (C : CSem) (N : Nat → Nat) (Q : AVal → AHeap → Prop) (v1 v4 : AVal) (h : AHeap) : Prop :=
 B.newO h (some [.nilf]) fun i5 h =>
  B.st h (.ptr i5 0 0) (.fn (N 374) [] [v4, v1, (.ptr i5 0 0)]) fun h =>
  B.ld h v1 fun v9 =>
  B.rangeMap h v9 fun v10 h =>
  LoopR (kit_depths.l2 C N Q v4 (.ptr i5 0 0) v10) [] h
@[simp] def kit_depths.k4 (C : CSem) (N : Nat → Nat) (Q : AVal → AHeap → Prop) (v0 : AVal) (h : AHeap) : Prop :=
 B.newO h (A.cells1 v0) fun i1 h =>
  B.newMap h fun v7 h =>
  B.newO h (some [.nilm]) fun i4 h =>
  B.st h (.ptr i4 0 0) v7 fun h =>
  kit_depths.k3 C N Q (.ptr i1 0 0) (.ptr i4 0 0) h
@[simp] def kit_depths.cps (C : CSem) (N : Nat → Nat) (v0 : AVal) (h : AHeap) (Q : AVal → AHeap → Prop) : Prop :=
 kit_depths.k4 C N Q v0 h
def kit_depths.Imp (C : CSem) (N : Nat → Nat) : Prop := ∀ (v0 : AVal) (h : AHeap) (Q : AVal → AHeap → Prop), kit_depths.cps C N v0 h (dn Q) → C (N 370) [v0] h Q
@[simp] def kit_book.k1 (C : CSem) (N : Nat → Nat) (Q : AVal → AHeap → Prop) (Y1 : List AVal → AHeap → Prop) (v3 v7 v8 v9 : AVal) (h : AHeap) : Prop :=
 B.pv (V.bin .lss v9 v8) fun v10 =>
  B.cond v10
  (B.pv (V.idxS 4 v7 v9) fun v11 =>
  B.ldn h v11 4 fun v12 =>
  B.pv (V.setN 0 4 v12 (.agg [.str [], .int .i64 0, .nils, .nils])) fun c5 =>
  B.al c5 (B.pv (V.field1 0 c5) fun v15 =>
  B.pv (V.fieldN 0 4 c5) fun v16 =>
  B.mset h .s v3 v15 v16 fun h =>
  B.pv (V.bin .add v9 (.int .i64 1)) fun v17 =>
  Y1 [v17] h))
  (Q v3 h)
@[simp] def kit_book.l2 (C : CSem) (N : Nat → Nat) (Q : AVal → AHeap → Prop) (v3 v7 v8 : AVal) : List AVal → AHeap → (List AVal → AHeap → Prop) → Prop
 | [v9], h, Y1 => kit_book.k1 C N Q Y1 v3 v7 v8 v9 h
 | _, _, _ => False
@[simp] def kit_book.cps (C : CSem) (N : Nat → Nat) (v0 : AVal) (h : AHeap) (Q : AVal → AHeap → Prop) : Prop :=
 B.newMap h fun v6 h =>
  B.pv (V.lenSl v0) fun v8 =>
  LoopR (kit_book.l2 C N Q v6 v0 v8) [(.int .i64 0)] h
def kit_book.Imp (C : CSem) (N : Nat → Nat) : Prop := ∀ (v0 : AVal) (h : AHeap) (Q : AVal → AHeap → Prop), kit_book.cps C N v0 h (dn Q) → C (N 371) [v0] h Q
@[simp] def kit_right.k1 (C : CSem) (N : Nat → Nat) (Q : AVal → AHeap → Prop) (c1 : AVal) (h : AHeap) : Prop :=
 B.al c1 (B.pv (V.field1 1 c1) fun v48 =>
  B.pv (V.bin .eql v48 (.int .i64 0)) fun v49 =>
  B.al c1 (B.gd h v49 true (fun K => K .undef h) fun _ h =>
  B.gd h v49 true (fun K => B.pv (V.field1 2 c1) fun v => K v h) fun v52 h =>
  B.gd h v49 true (fun K => B.pv (V.lenSl v52) fun v => K v h) fun v53 h =>
  B.gd h v49 true (fun K => B.pv (V.bin .leq v53 (.int .i64 8)) fun v => K v h) fun v54 h =>
  B.pick v49 v54 (.bool false) fun v55 =>
  Q v55 h))
@[simp] def kit_right.k2 (C : CSem) (N : Nat → Nat) (Q : AVal → AHeap → Prop) (Y1 : List AVal → AHeap → Prop) (v3 v20 v21 v22 c1 : AVal) (h : AHeap) : Prop :=
 B.pv (V.bin .lss v22 v21) fun v23 =>
  B.cond v23
  (B.pv (V.idxS 2 v20 v22) fun v24 =>
  B.ldn h v24 2 fun v25 =>
  B.pv (V.setN 0 2 v25 (.agg [.str [], .int .i64 0])) fun c5 =>
  B.al c5 (B.pv (V.field1 0 c5) fun v28 =>
  B.pv (A.lkp h (some .s) (some (.int .i64 0)) false v3 v28) fun v29 =>
  B.pv (V.bin .add v29 (.int .i64 1)) fun v30 =>
  B.mset h .s v3 v28 v30 fun h =>
  B.al c5 (B.pv (V.field1 1 c5) fun v32 =>
  B.pv (V.bin .lss v32 (.int .i64 1)) fun v33 =>
  B.al c5 (B.gd h v33 false (fun K => K .undef h) fun _ h =>
  B.gd h v33 false (fun K => B.pv (V.field1 1 c5) fun v => K v h) fun v36 h =>
  B.gd h v33 false (fun K => B.pv (V.bin .gtr v36 (.int .i64 1073741824)) fun v => K v h) fun v37 h =>
  B.pick v33 (.bool true) v37 fun v38 =>
  B.gd h v38 false (fun K => K v3 h) fun v40 h =>
  B.al c5 (B.gd h v38 false (fun K => K .undef h) fun _ h =>
  B.gd h v38 false (fun K => B.pv (V.field1 0 c5) fun v => K v h) fun v42 h =>
  B.gd h v38 false (fun K => B.pv (A.lkp h (some .s) (some (.int .i64 0)) false v40 v42) fun v => K v h) fun v43 h =>
  B.gd h v38 false (fun K => B.pv (V.bin .gtr v43 (.int .i64 1)) fun v => K v h) fun v44 h =>
  B.pick v38 (.bool true) v44 fun v45 =>
  B.cond v45
  (Q (.bool false) h)
  (B.pv (V.bin .add v22 (.int .i64 1)) fun v46 =>
  Y1 [v46] h))))))
  (kit_right.k1 C N Q c1 h)
@[simp] def kit_right.l3 (C : CSem) (N : Nat → Nat) (Q : AVal → AHeap → Prop) (v3 v20 v21 c1 : AVal) : List AVal → AHeap → (List AVal → AHeap → Prop) → Prop
 | [v22], h, Y1 => kit_right.k2 C N Q Y1 v3 v20 v21 v22 c1 h
 | _, _, _ => False
@[simp] def kit_right.k4 (C : CSem) (N : Nat → Nat) (Q : AVal → AHeap → Prop) (c1 : AVal) (h : AHeap) : Prop :=
 B.newMap h fun v18 h =>
  B.al c1 (B.pv (V.field1 2 c1) fun v20 =>
  B.pv (V.lenSl v20) fun v21 =>
  LoopR (kit_right.l3 C N Q v18 v20 v21 c1) [(.int .i64 0)] h)
@[simp] def kit_right.k5 (C : CSem) (N : Nat → Nat) (Q : AVal → AHeap → Prop) (c1 : AVal) (h : AHeap) : Prop :=
 B.al c1 (B.pv (V.field1 2 c1) fun v7 =>
  B.pv (V.lenSl v7) fun v8 =>
  B.pv (V.bin .eql v8 (.int .i64 0)) fun v9 =>
  B.cond v9
  (B.al c1 (B.pv (V.field1 1 c1) fun v11 =>
  B.pv (V.bin .gtr v11 (.int .i64 0)) fun v12 =>
  B.al c1 (B.gd h v12 true (fun K => K .undef h) fun _ h =>
  B.gd h v12 true (fun K => B.pv (V.field1 1 c1) fun v => K v h) fun v15 h =>
  B.gd h v12 true (fun K => B.pv (V.bin .leq v15 (.int .i64 2000)) fun v => K v h) fun v16 h =>
  B.pick v12 v16 (.bool false) fun v17 =>
  Q v17 h)))
  (kit_right.k4 C N Q c1 h))
@[simp] def kit_right.cps (C : CSem) (N : Nat → Nat) (v0 : AVal) (h : AHeap) (Q : AVal → AHeap → Prop) : Prop :=
 B.pv (A.boxN 4 v0) fun c1 =>
  kit_right.k5 C N Q c1 h
def kit_right.Imp (C : CSem) (N : Nat → Nat) : Prop := ∀ (v0 : AVal) (h : AHeap) (Q : AVal → AHeap → Prop), kit_right.cps C N v0 h (dn Q) → C (N 372) [v0] h Q
@[simp] def kit_depths_1.k1 (C : CSem) (N : Nat → Nat) (Q : AVal → AHeap → Prop) (Y1 : List AVal → AHeap → Prop) (v0 v1 v3 v7 v22 v23 v24 : AVal) (h : AHeap) : Prop :=
 B.pv (V.bin .lss v24 v23) fun v25 =>
  B.cond v25
  (B.pv (V.idxS 2 v22 v24) fun v26 =>
  B.ldn h v26 2 fun v27 =>
  B.pv (V.setN 0 2 v27 (.agg [.str [], .int .i64 0])) fun c9 =>
  B.ld h v3 fun v28 =>
  B.al c9 (B.pv (V.field1 0 c9) fun v30 =>
  B.callv h C v28 [v30] fun v31 h =>
  B.pv (V.un .not v31) fun v32 =>
  B.cond v32
  (Q (.bool false) h)
  (B.ld h v1 fun v34 =>
  B.al c9 (B.pv (V.field1 0 c9) fun v36 =>
  B.pv (A.lkp h (some .s) (some (.int .i64 0)) false v34 v36) fun v37 =>
  B.pv (V.bin .add (.int .i64 1) v37) fun v38 =>
  B.pv (V.max2 v7 v38) fun v39 =>
  B.pv (V.bin .add v24 (.int .i64 1)) fun v40 =>
  Y1 [v39, v40] h))))
  (B.ld h v1 fun v41 =>
  B.mset h .s v41 v0 v7 fun h =>
  Q (.bool true) h)
@[simp] def kit_depths_1.l2 (C : CSem) (N : Nat → Nat) (Q : AVal → AHeap → Prop) (v0 v1 v3 v22 v23 : AVal) : List AVal → AHeap → (List AVal → AHeap → Prop) → Prop
 | [v7, v24], h, Y1 => kit_depths_1.k1 C N Q Y1 v0 v1 v3 v7 v22 v23 v24 h
 | _, _, _ => False
@[simp] def kit_depths_1.k3 (C : CSem) (N : Nat → Nat) (Q : AVal → AHeap → Prop) (v0 v1 v2 v3 v7 : AVal) (h : AHeap) : Prop :=
 B.ld h v2 fun v19 =>
  B.pv (A.lkp h (some .s) (some (.agg [.str [], .int .i64 0, .nils, .nils])) false v19 v0) fun v21 =>
  B.pv (V.field1 2 v21) fun v22 =>
  B.pv (V.lenSl v22) fun v23 =>
  LoopR (kit_depths_1.l2 C N Q v0 v1 v3 v22 v23) [v7, (.int .i64 0)] h
@[simp] def kit_depths_1.k4 (C : CSem) (N : Nat → Nat) (Q : AVal → AHeap → Prop) (v0 v1 v2 v3 : AVal) (h : AHeap) : Prop :=
 B.ld h v1 fun v10 =>
  B.pv (A.lkp h (some .s) (some (.int .i64 0)) false v10 v0) fun v12 =>
  B.pv (V.bin .neq v12 (.int .i64 0)) fun v14 =>
  B.cond v14
  (B.pv (V.bin .gtr v12 (.int .i64 0)) fun v16 =>
  Q v16 h)
  (B.ld h v1 fun v17 =>
  B.mset h .s v17 v0 (.int .i64 (-1)) fun h =>
  kit_depths_1.k3 C N Q v0 v1 v2 v3 (.int .i64 1) h)
@[simp] def kit_depths_1.cps (C : CSem) (N : Nat → Nat) (v0 v1 v2 v3 : AVal) (h : AHeap) (Q : AVal → AHeap → Prop) : Prop :=
 kit_depths_1.k4 C N Q v0 v1 v2 v3 h
def kit_depths_1.Imp (C : CSem) (N : Nat → Nat) : Prop := ∀ (v0 v1 v2 v3 : AVal) (h : AHeap) (Q : AVal → AHeap → Prop), kit_depths_1.cps C N v0 v1 v2 v3 h (dn Q) → C (N 374) [v0, v1, v2, v3] h Q
@[simp] def kit_LentTexts.k3 (C : CSem) (N : Nat → Nat) (Q : AVal → AHeap → Prop) (v0 : AVal) (h : AHeap) : Prop :=
 B.pv (V.lenSl v0) fun v6 =>
  B.pv (V.bin .add v6 (.int .i64 12)) fun v7 =>
  0 < 1 ∧ B.mks h 16 (some [.str []]) (.int .i64 0) v7 fun v8 h =>
  B.appW h 1 16 v8 v0 fun v11 h =>
  LoopR (lentS.l4 C 16 (N 106) (.str []) 1 Q v0) [v11, (.int .i64 0)] h
def kit_LentTexts.cps (C : CSem) (N : Nat → Nat) (v0 : AVal) (h : AHeap) (Q : AVal → AHeap → Prop) : Prop :=
 kit_LentTexts.k3 C N Q v0 h
def kit_LentTexts.Imp (C : CSem) (N : Nat → Nat) : Prop := ∀ (v0 : AVal) (h : AHeap) (Q : AVal → AHeap → Prop), kit_LentTexts.cps C N v0 h (dn Q) → C (N 406) [v0] h Q
end Go.Ab
namespace Go.Ab
@[simp] def law08_great.k1 (C : CSem) (N : Nat → Nat) (Q : AVal → AHeap → Prop) (v0 v3 : AVal) (h : AHeap) : Prop :=
 B.pv (V.bin .gtr v3 (.int .i64 4000)) fun v95 =>
  B.gd h v95 false (fun K => K v0 h) fun v97 h =>
  B.gd h v95 false (fun K => B.pv (V.lenSl v97) fun v => K v h) fun v98 h =>
  B.gd h v95 false (fun K => B.pv (V.bin .gtr v98 (.int .i64 70)) fun v => K v h) fun v99 h =>
  B.pick v95 (.bool true) v99 fun v100 =>
  Q v100 h
@[simp] def law08_great.k2 (C : CSem) (N : Nat → Nat) (Q : AVal → AHeap → Prop) (Y1 : List AVal → AHeap → Prop) (Y2 : List AVal → AHeap → Prop) (v0 v3 v4 v6 : AVal) (h : AHeap) : Prop :=
 B.pv (V.idxS 4 v0 v4) fun v71 =>
  B.pv (V.fieldAddr 3 v71) fun v72 =>
  B.ld h v72 fun v73 =>
  B.pv (V.lenSl v73) fun v74 =>
  B.pv (V.bin .lss v6 v74) fun v75 =>
  B.gd h v75 true (fun K => K v3 h) fun v77 h =>
  B.gd h v75 true (fun K => B.pv (V.bin .leq v77 (.int .i64 4000)) fun v => K v h) fun v78 h =>
  B.pick v75 v78 (.bool false) fun v79 =>
  B.cond v79
  (B.pv (V.idxS 4 v0 v4) fun v85 =>
  B.pv (V.fieldAddr 3 v85) fun v86 =>
  B.ld h v86 fun v87 =>
  B.pv (V.idxS 1 v87 v6) fun v89 =>
  B.ld h v89 fun v90 =>
  B.pv (V.lenStr v90) fun v91 =>
  B.pv (V.bin .quo v91 (.int .i64 20)) fun v92 =>
  B.pv (V.bin .add v3 v92) fun v93 =>
  B.pv (V.bin .add v6 (.int .i64 1)) fun v81 =>
  Y2 [v93, v81] h)
  (B.pv (V.bin .add v4 (.int .i64 1)) fun v16 =>
  Y1 [v3, v16] h)
@[simp] def law08_great.l3 (C : CSem) (N : Nat → Nat) (Q : AVal → AHeap → Prop) (Y1 : List AVal → AHeap → Prop) (v0 v4 : AVal) : List AVal → AHeap → (List AVal → AHeap → Prop) → Prop
 | [v3, v6], h, Y2 => law08_great.k2 C N Q Y1 Y2 v0 v3 v4 v6 h
 | _, _, _ => False
@[simp] def law08_great.k4 (C : CSem) (N : Nat → Nat) (Q : AVal → AHeap → Prop) (Y1 : List AVal → AHeap → Prop) (Y3 : List AVal → AHeap → Prop) (v0 v3 v4 v5 : AVal) (h : AHeap) : Prop :=
 B.pv (V.idxS 4 v0 v4) fun v44 =>
  B.pv (V.fieldAddr 2 v44) fun v45 =>
  B.ld h v45 fun v46 =>
  B.pv (V.lenSl v46) fun v47 =>
  B.pv (V.bin .lss v5 v47) fun v48 =>
  B.gd h v48 true (fun K => K v3 h) fun v50 h =>
  B.gd h v48 true (fun K => B.pv (V.bin .leq v50 (.int .i64 4000)) fun v => K v h) fun v51 h =>
  B.pick v48 v51 (.bool false) fun v52 =>
  B.cond v52
  (B.pv (V.idxS 4 v0 v4) fun v58 =>
  B.pv (V.fieldAddr 2 v58) fun v59 =>
  B.ld h v59 fun v60 =>
  B.pv (V.idxS 2 v60 v5) fun v62 =>
  B.pv (V.fieldAddr 0 v62) fun v63 =>
  B.ld h v63 fun v64 =>
  B.pv (V.lenStr v64) fun v65 =>
  B.pv (V.bin .quo v65 (.int .i64 20)) fun v66 =>
  B.pv (V.bin .add v3 v66) fun v67 =>
  B.pv (V.bin .add v5 (.int .i64 1)) fun v54 =>
  Y3 [v67, v54] h)
  (LoopR (law08_great.l3 C N Q Y1 v0 v4) [v3, (.int .i64 0)] h)
@[simp] def law08_great.l5 (C : CSem) (N : Nat → Nat) (Q : AVal → AHeap → Prop) (Y1 : List AVal → AHeap → Prop) (v0 v4 : AVal) : List AVal → AHeap → (List AVal → AHeap → Prop) → Prop
 | [v3, v5], h, Y3 => law08_great.k4 C N Q Y1 Y3 v0 v3 v4 v5 h
 | _, _, _ => False
@[simp] def law08_great.k6 (C : CSem) (N : Nat → Nat) (Q : AVal → AHeap → Prop) (Y1 : List AVal → AHeap → Prop) (v0 v3 v4 : AVal) (h : AHeap) : Prop :=
 B.pv (V.bin .add v3 (.int .i64 1)) fun v18 =>
  B.pv (V.idxS 4 v0 v4) fun v21 =>
  B.pv (V.fieldAddr 0 v21) fun v22 =>
  B.ld h v22 fun v23 =>
  B.pv (V.lenStr v23) fun v24 =>
  B.pv (V.bin .quo v24 (.int .i64 20)) fun v25 =>
  B.pv (V.bin .add v18 v25) fun v26 =>
  B.pv (V.idxS 4 v0 v4) fun v29 =>
  B.pv (V.fieldAddr 2 v29) fun v30 =>
  B.ld h v30 fun v31 =>
  B.pv (V.lenSl v31) fun v32 =>
  B.pv (V.bin .add v26 v32) fun v33 =>
  B.pv (V.idxS 4 v0 v4) fun v36 =>
  B.pv (V.fieldAddr 3 v36) fun v37 =>
  B.ld h v37 fun v38 =>
  B.pv (V.lenSl v38) fun v39 =>
  B.pv (V.bin .add v33 v39) fun v40 =>
  LoopR (law08_great.l5 C N Q Y1 v0 v4) [v40, (.int .i64 0)] h
@[simp] def law08_great.k7 (C : CSem) (N : Nat → Nat) (Q : AVal → AHeap → Prop) (Y1 : List AVal → AHeap → Prop) (v0 v3 v4 : AVal) (h : AHeap) : Prop :=
 B.pv (V.lenSl v0) fun v9 =>
  B.pv (V.bin .lss v4 v9) fun v10 =>
  B.gd h v10 true (fun K => K v3 h) fun v12 h =>
  B.gd h v10 true (fun K => B.pv (V.bin .leq v12 (.int .i64 4000)) fun v => K v h) fun v13 h =>
  B.pick v10 v13 (.bool false) fun v14 =>
  B.cond v14
  (law08_great.k6 C N Q Y1 v0 v3 v4 h)
  (law08_great.k1 C N Q v0 v3 h)
@[simp] def law08_great.l8 (C : CSem) (N : Nat → Nat) (Q : AVal → AHeap → Prop) (v0 : AVal) : List AVal → AHeap → (List AVal → AHeap → Prop) → Prop
 | [v3, v4], h, Y1 => law08_great.k7 C N Q Y1 v0 v3 v4 h
 | _, _, _ => False
@[simp] def law08_great.cps (C : CSem) (N : Nat → Nat) (v0 : AVal) (h : AHeap) (Q : AVal → AHeap → Prop) : Prop :=
 LoopR (law08_great.l8 C N Q v0) [(.int .i64 0), (.int .i64 0)] h
def law08_great.Imp (C : CSem) (N : Nat → Nat) : Prop := ∀ (v0 : AVal) (h : AHeap) (Q : AVal → AHeap → Prop), law08_great.cps C N v0 h (dn Q) → C (N 357) [v0] h Q
@[simp] def law08_awake.k1 (C : CSem) (N : Nat → Nat) (Q : AVal → AHeap → Prop) (h : AHeap) : Prop :=
 B.newO h (fillL [(0, none, (.str [67])), (1, none, (.str [66]))] (repL 2 [.str []])) fun i1 h =>
  B.call C (N 360) [(.sl i1 0 0 2 1 2)] h fun v2 h =>
  B.call C (N 355) [v2, (.str [65])] h fun v3 h =>
  B.newO h (fillL [(0, none, (.str [65])), (1, none, (.str [67])), (2, none, (.str [66]))] (repL 3 [.str []])) fun i4 h =>
  B.call C (N 133) [v3, (.sl i4 0 0 3 1 3)] h fun v5 h =>
  B.gd h v5 true (fun K => B.call C (N 360) [.nils] h K) fun v7 h =>
  B.gd h v5 true (fun K => B.call C (N 355) [v7, (.str [90])] h K) fun v8 h =>
  B.gd h v5 true (fun K => B.pv (V.lenSl v8) fun v => K v h) fun v9 h =>
  B.gd h v5 true (fun K => B.pv (V.bin .eql v9 (.int .i64 0)) fun v => K v h) fun v10 h =>
  B.pick v5 v10 (.bool false) fun v11 =>
  B.gd h v11 true (fun K => B.newO h (fillL [(0, none, (.str [67])), (1, none, (.str [66]))] (repL 2 [.str []])) fun i h => K (.sl i 0 0 2 1 2) h) fun v13 h =>
  B.gd h v11 true (fun K => B.call C (N 360) [v13] h K) fun v14 h =>
  B.gd h v11 true (fun K => B.call C (N 353) [v14] h K) fun v15 h =>
  B.gd h v11 true (fun K => B.pv (V.bin .eql v15 (.int .i64 0)) fun v => K v h) fun v16 h =>
  B.pick v11 v16 (.bool false) fun v17 =>
  B.gd h v17 true (fun K => B.newO h (fillL [(0, none, (.str [65]))] (repL 1 [.str []])) fun i h => K (.sl i 0 0 1 1 1) h) fun v19 h =>
  B.gd h v17 true (fun K => B.call C (N 360) [v19] h K) fun v20 h =>
  B.gd h v17 true (fun K => B.call C (N 353) [v20] h K) fun v21 h =>
  B.gd h v17 true (fun K => B.pv (V.bin .eql v21 (.int .i64 4)) fun v => K v h) fun v22 h =>
  B.pick v17 v22 (.bool false) fun v23 =>
  B.gd h v23 true (fun K => B.newO h (fillL [(0, none, (.str [90]))] (repL 1 [.str []])) fun i h => K (.sl i 0 0 1 1 1) h) fun v25 h =>
  B.gd h v23 true (fun K => B.call C (N 360) [v25] h K) fun v26 h =>
  B.gd h v23 true (fun K => B.call C (N 353) [v26] h K) fun v27 h =>
  B.gd h v23 true (fun K => B.pv (V.bin .eql v27 (.int .i64 150)) fun v => K v h) fun v28 h =>
  B.pick v23 v28 (.bool false) fun v29 =>
  Q v29 h
@[simp] def law08_awake.cps (C : CSem) (N : Nat → Nat) (h : AHeap) (Q : AVal → AHeap → Prop) : Prop :=
 law08_awake.k1 C N Q h
def law08_awake.Imp (C : CSem) (N : Nat → Nat) : Prop := ∀ (h : AHeap) (Q : AVal → AHeap → Prop), law08_awake.cps C N h (dn Q) → C (N 358) [] h Q
@[simp] def law08_SwapRows.k1 (C : CSem) (N : Nat → Nat) (Q : AVal → AHeap → Prop) (Y1 : List AVal → AHeap → Prop) (v11 v12 v13 v14 : AVal) (h : AHeap) : Prop :=
 B.pv (V.bin .lss v13 v14) fun v132 =>
  B.cond v132
  (B.nilCheck v12 fun v138 =>
  B.pv (V.fieldAddr 3 v138) fun v139 =>
  B.ld h v139 fun v140 =>
  B.nilCheck v12 fun v143 =>
  B.pv (V.fieldAddr 3 v143) fun v144 =>
  B.ld h v144 fun v145 =>
  B.nilCheck v12 fun v148 =>
  B.pv (V.fieldAddr 3 v148) fun v149 =>
  B.ld h v149 fun v150 =>
  B.pv (V.idxS 1 v150 v14) fun v152 =>
  B.ld h v152 fun v153 =>
  B.nilCheck v12 fun v155 =>
  B.pv (V.fieldAddr 3 v155) fun v156 =>
  B.ld h v156 fun v157 =>
  B.pv (V.idxS 1 v157 v13) fun v159 =>
  B.ld h v159 fun v160 =>
  B.pv (V.idxS 1 v140 v13) fun v161 =>
  B.st h v161 v153 fun h =>
  B.pv (V.idxS 1 v145 v14) fun v162 =>
  B.st h v162 v160 fun h =>
  B.pv (V.bin .add v13 (.int .i64 1)) fun v134 =>
  B.pv (V.bin .sub v14 (.int .i64 1)) fun v136 =>
  Y1 [v134, v136] h)
  (B.call C (N 353) [v11] h fun v164 h =>
  B.pv (V.bin .eql v164 (.int .i64 0)) fun v165 =>
  Q v165 h)
@[simp] def law08_SwapRows.l2 (C : CSem) (N : Nat → Nat) (Q : AVal → AHeap → Prop) (v11 v12 : AVal) : List AVal → AHeap → (List AVal → AHeap → Prop) → Prop
 | [v13, v14], h, Y1 => law08_SwapRows.k1 C N Q Y1 v11 v12 v13 v14 h
 | _, _, _ => False
@[simp] def law08_SwapRows.k3 (C : CSem) (N : Nat → Nat) (Q : AVal → AHeap → Prop) (v11 v12 : AVal) (h : AHeap) : Prop :=
 B.nilCheck v12 fun v125 =>
  B.pv (V.fieldAddr 3 v125) fun v126 =>
  B.ld h v126 fun v127 =>
  B.pv (V.lenSl v127) fun v128 =>
  B.pv (V.bin .sub v128 (.int .i64 1)) fun v129 =>
  LoopR (law08_SwapRows.l2 C N Q v11 v12) [(.int .i64 0), v129] h
@[simp] def law08_SwapRows.k4 (C : CSem) (N : Nat → Nat) (Q : AVal → AHeap → Prop) (v0 v1 : AVal) (h : AHeap) : Prop :=
 B.call C (N 354) [v0] h fun v117 h =>
  B.pv (V.lenSl v0) fun v121 =>
  B.call C (N 155) [v1, v121] h fun v122 h =>
  B.pv (V.idxS 4 v117 v122) fun v123 =>
  law08_SwapRows.k3 C N Q v117 v123 h
@[simp] def law08_SwapRows.k5 (C : CSem) (N : Nat → Nat) (Q : AVal → AHeap → Prop) (Y2 : List AVal → AHeap → Prop) (Y3 : List AVal → AHeap → Prop) (Y4 : List AVal → AHeap → Prop) (v0 v1 v7 v8 v9 v10 : AVal) (h : AHeap) : Prop :=
 B.pv (V.bin .lss v10 v9) fun v101 =>
  B.cond v101
  (B.pv (V.idxS 1 v8 v10) fun v106 =>
  B.ld h v106 fun v107 =>
  B.pv (V.idxS 1 v8 v9) fun v110 =>
  B.ld h v110 fun v111 =>
  B.pv (V.bin .eql v107 v111) fun v112 =>
  B.cond v112
  (Q (.bool false) h)
  (B.pv (V.bin .add v10 (.int .i64 1)) fun v103 =>
  Y4 [v103] h))
  (B.pv (V.bin .add v9 (.int .i64 1)) fun v90 =>
  Y3 [v90] h)
@[simp] def law08_SwapRows.l6 (C : CSem) (N : Nat → Nat) (Q : AVal → AHeap → Prop) (Y2 : List AVal → AHeap → Prop) (Y3 : List AVal → AHeap → Prop) (v0 v1 v7 v8 v9 : AVal) : List AVal → AHeap → (List AVal → AHeap → Prop) → Prop
 | [v10], h, Y4 => law08_SwapRows.k5 C N Q Y2 Y3 Y4 v0 v1 v7 v8 v9 v10 h
 | _, _, _ => False
@[simp] def law08_SwapRows.k7 (C : CSem) (N : Nat → Nat) (Q : AVal → AHeap → Prop) (Y2 : List AVal → AHeap → Prop) (Y3 : List AVal → AHeap → Prop) (v0 v1 v7 v8 v9 : AVal) (h : AHeap) : Prop :=
 B.pv (V.idxS 1 v8 v9) fun v94 =>
  B.ld h v94 fun v95 =>
  B.call C (N 355) [v0, v95] h fun v96 h =>
  B.pv (V.lenSl v96) fun v97 =>
  B.pv (V.bin .eql v97 (.int .i64 0)) fun v98 =>
  B.cond v98
  (Q (.bool false) h)
  (LoopR (law08_SwapRows.l6 C N Q Y2 Y3 v0 v1 v7 v8 v9) [(.int .i64 0)] h)
@[simp] def law08_SwapRows.k8 (C : CSem) (N : Nat → Nat) (Q : AVal → AHeap → Prop) (Y2 : List AVal → AHeap → Prop) (Y3 : List AVal → AHeap → Prop) (v0 v1 v7 v8 v9 : AVal) (h : AHeap) : Prop :=
 B.pv (V.lenSl v8) fun v87 =>
  B.pv (V.bin .lss v9 v87) fun v88 =>
  B.cond v88
  (law08_SwapRows.k7 C N Q Y2 Y3 v0 v1 v7 v8 v9 h)
  (B.pv (V.bin .add v7 (.int .i64 1)) fun v51 =>
  Y2 [v51] h)
@[simp] def law08_SwapRows.l9 (C : CSem) (N : Nat → Nat) (Q : AVal → AHeap → Prop) (Y2 : List AVal → AHeap → Prop) (v0 v1 v7 v8 : AVal) : List AVal → AHeap → (List AVal → AHeap → Prop) → Prop
 | [v9], h, Y3 => law08_SwapRows.k8 C N Q Y2 Y3 v0 v1 v7 v8 v9 h
 | _, _, _ => False
@[simp] def law08_SwapRows.k10 (C : CSem) (N : Nat → Nat) (Q : AVal → AHeap → Prop) (Y2 : List AVal → AHeap → Prop) (v0 v1 v7 v8 : AVal) (h : AHeap) : Prop :=
 B.pv (V.lenSl v8) fun v60 =>
  B.pv (V.idxS 4 v0 v7) fun v63 =>
  B.pv (V.fieldAddr 3 v63) fun v64 =>
  B.ld h v64 fun v65 =>
  B.pv (V.lenSl v65) fun v66 =>
  B.pv (V.bin .add (.int .i64 1) v66) fun v67 =>
  B.pv (V.bin .neq v60 v67) fun v68 =>
  B.gd h v68 false (fun K => K v8 h) fun v70 h =>
  B.gd h v68 false (fun K => B.pv (V.lenSl v70) fun v => K v h) fun v71 h =>
  B.gd h v68 false (fun K => B.pv (V.bin .gtr v71 (.int .i64 5)) fun v => K v h) fun v72 h =>
  B.pick v68 (.bool true) v72 fun v73 =>
  B.gd h v73 false (fun K => K v8 h) fun v75 h =>
  B.gd h v73 false (fun K => B.pv (V.idxS 1 v75 (.int .i64 0)) fun v => K v h) fun v76 h =>
  B.gd h v73 false (fun K => B.ld h v76 fun v => K v h) fun v77 h =>
  B.gd h v73 false (fun K => K v0 h) fun v78 h =>
  B.gd h v73 false (fun K => K v7 h) fun v79 h =>
  B.gd h v73 false (fun K => B.pv (V.idxS 4 v78 v79) fun v => K v h) fun v80 h =>
  B.gd h v73 false (fun K => B.pv (V.fieldAddr 0 v80) fun v => K v h) fun v81 h =>
  B.gd h v73 false (fun K => B.ld h v81 fun v => K v h) fun v82 h =>
  B.gd h v73 false (fun K => B.pv (V.bin .neq v77 v82) fun v => K v h) fun v83 h =>
  B.pick v73 (.bool true) v83 fun v84 =>
  B.cond v84
  (Q (.bool false) h)
  (LoopR (law08_SwapRows.l9 C N Q Y2 v0 v1 v7 v8) [(.int .i64 0)] h)
@[simp] def law08_SwapRows.k11 (C : CSem) (N : Nat → Nat) (Q : AVal → AHeap → Prop) (Y2 : List AVal → AHeap → Prop) (v0 v1 v7 : AVal) (h : AHeap) : Prop :=
 B.pv (V.idxS 4 v0 v7) fun v55 =>
  B.pv (V.fieldAddr 0 v55) fun v56 =>
  B.ld h v56 fun v57 =>
  B.call C (N 355) [v0, v57] h fun v58 h =>
  law08_SwapRows.k10 C N Q Y2 v0 v1 v7 v58 h
@[simp] def law08_SwapRows.k12 (C : CSem) (N : Nat → Nat) (Q : AVal → AHeap → Prop) (Y2 : List AVal → AHeap → Prop) (v0 v1 v7 : AVal) (h : AHeap) : Prop :=
 B.pv (V.lenSl v0) fun v48 =>
  B.pv (V.bin .lss v7 v48) fun v49 =>
  B.cond v49
  (law08_SwapRows.k11 C N Q Y2 v0 v1 v7 h)
  (B.pv (V.lenSl v0) fun v114 =>
  B.pv (V.bin .eql v114 (.int .i64 0)) fun v115 =>
  B.cond v115
  (Q (.bool true) h)
  (law08_SwapRows.k4 C N Q v0 v1 h))
@[simp] def law08_SwapRows.l13 (C : CSem) (N : Nat → Nat) (Q : AVal → AHeap → Prop) (v0 v1 : AVal) : List AVal → AHeap → (List AVal → AHeap → Prop) → Prop
 | [v7], h, Y2 => law08_SwapRows.k12 C N Q Y2 v0 v1 v7 h
 | _, _, _ => False
@[simp] def law08_SwapRows.k14 (C : CSem) (N : Nat → Nat) (Q : AVal → AHeap → Prop) (v0 v1 : AVal) (h : AHeap) : Prop :=
 B.call C (N 353) [v0] h fun v44 h =>
  B.pv (V.bin .neq v44 (.int .i64 0)) fun v45 =>
  B.cond v45
  (Q (.bool true) h)
  (LoopR (law08_SwapRows.l13 C N Q v0 v1) [(.int .i64 0)] h)
@[simp] def law08_SwapRows.k15 (C : CSem) (N : Nat → Nat) (Q : AVal → AHeap → Prop) (v0 v1 v5 : AVal) (h : AHeap) : Prop :=
 B.call C (N 356) [v5] h fun v32 h =>
  B.call C (N 356) [v0] h fun v34 h =>
  B.pv (V.bin .neq v32 v34) fun v35 =>
  B.gd h v35 false (fun K => K v5 h) fun v37 h =>
  B.gd h v35 false (fun K => B.call C (N 353) [v37] h K) fun v38 h =>
  B.gd h v35 false (fun K => K v0 h) fun v39 h =>
  B.gd h v35 false (fun K => B.call C (N 356) [v39] h K) fun v40 h =>
  B.gd h v35 false (fun K => B.pv (V.bin .neq v38 v40) fun v => K v h) fun v41 h =>
  B.pick v35 (.bool true) v41 fun v42 =>
  B.cond v42
  (Q (.bool false) h)
  (law08_SwapRows.k14 C N Q v0 v1 h)
@[simp] def law08_SwapRows.k16 (C : CSem) (N : Nat → Nat) (Q : AVal → AHeap → Prop) (Y5 : List AVal → AHeap → Prop) (v0 v1 v5 v6 : AVal) (h : AHeap) : Prop :=
 B.pv (V.lenSl v5) fun v23 =>
  B.pv (V.bin .lss v6 v23) fun v24 =>
  B.cond v24
  (B.pv (V.idxS 4 v5 v6) fun v29 =>
  B.pv (V.fieldAddr 3 v29) fun v30 =>
  B.st h v30 .nils fun h =>
  B.pv (V.bin .add v6 (.int .i64 1)) fun v26 =>
  Y5 [v26] h)
  (law08_SwapRows.k15 C N Q v0 v1 v5 h)
@[simp] def law08_SwapRows.l17 (C : CSem) (N : Nat → Nat) (Q : AVal → AHeap → Prop) (v0 v1 v5 : AVal) : List AVal → AHeap → (List AVal → AHeap → Prop) → Prop
 | [v6], h, Y5 => law08_SwapRows.k16 C N Q Y5 v0 v1 v5 v6 h
 | _, _, _ => False
@[simp] def law08_SwapRows.k18 (C : CSem) (N : Nat → Nat) (Q : AVal → AHeap → Prop) (v0 v1 : AVal) (h : AHeap) : Prop :=
 B.call C (N 357) [v0] h fun v18 h =>
  B.cond v18
  (Q (.bool true) h)
  (B.call C (N 354) [v0] h fun v20 h =>
  LoopR (law08_SwapRows.l17 C N Q v0 v1 v20) [(.int .i64 0)] h)
@[simp] def law08_SwapRows.cps (C : CSem) (N : Nat → Nat) (v0 v1 : AVal) (h : AHeap) (Q : AVal → AHeap → Prop) : Prop :=
 B.call C (N 358) [] h fun v15 h =>
  B.pv (V.un .not v15) fun v16 =>
  B.cond v16
  (Q (.bool false) h)
  (law08_SwapRows.k18 C N Q v0 v1 h)
def law08_SwapRows.Imp (C : CSem) (N : Nat → Nat) : Prop := ∀ (v0 v1 : AVal) (h : AHeap) (Q : AVal → AHeap → Prop), law08_SwapRows.cps C N v0 v1 h (dn Q) → C (N 359) [v0, v1] h Q
@[simp] def law08_three.k1 (C : CSem) (N : Nat → Nat) (Q : AVal → AHeap → Prop) (v0 : AVal) (h : AHeap) : Prop :=
 B.pv (A.bld [(0, none, (.str [65])), (1, none, (.int .i64 1)), (3, none, v0)] [.str [], .int .i64 0, .nils, .nils]) fun v4 =>
  B.pv (A.bld [(0, none, (.str [66])), (1, none, (.int .i64 1))] [.str [], .int .i64 0, .nils, .nils]) fun v5 =>
  B.pv (A.bld [(0, none, (.str [67])), (1, none, (.int .i64 1))] [.str [], .int .i64 0, .nils, .nils]) fun v6 =>
  B.newO h (fillL [(0, some 4, v4), (4, some 4, v5), (8, some 4, v6)] (repL 3 [.str [], .int .i64 0, .nils, .nils])) fun i7 h =>
  Q (.sl i7 0 0 3 4 3) h
@[simp] def law08_three.cps (C : CSem) (N : Nat → Nat) (v0 : AVal) (h : AHeap) (Q : AVal → AHeap → Prop) : Prop :=
 law08_three.k1 C N Q v0 h
def law08_three.Imp (C : CSem) (N : Nat → Nat) : Prop := ∀ (v0 : AVal) (h : AHeap) (Q : AVal → AHeap → Prop), law08_three.cps C N v0 h (dn Q) → C (N 360) [v0] h Q
end Go.Ab
namespace Go.Ab
@[simp] def math_bits_Len.k1 (C : CSem) (N : Nat → Nat) (Q : AVal → AHeap → Prop) (v0 : AVal) (h : AHeap) : Prop :=
 B.cond (.bool false)
  (B.pv (V.toInt .u32 v0) fun v4 =>
  B.call C (N 304) [v4] h fun v5 h =>
  Q v5 h)
  (B.call C (N 305) [v0] h fun v7 h =>
  Q v7 h)
@[simp] def math_bits_Len.cps (C : CSem) (N : Nat → Nat) (v0 : AVal) (h : AHeap) (Q : AVal → AHeap → Prop) : Prop :=
 math_bits_Len.k1 C N Q v0 h
def math_bits_Len.Imp (C : CSem) (N : Nat → Nat) : Prop := ∀ (v0 : AVal) (h : AHeap) (Q : AVal → AHeap → Prop), math_bits_Len.cps C N v0 h (dn Q) → C (N 287) [v0] h Q
@[simp] def math_bits_Len64.k1 (C : CSem) (N : Nat → Nat) (Q : AVal → AHeap → Prop) (v0 v2 : AVal) (h : AHeap) : Prop :=
 B.pv (V.toInt .u8 v0) fun v21 =>
  B.pv (V.idxStr (.str [0, 1, 2, 2, 3, 3, 3, 3, 4, 4, 4, 4, 4, 4, 4, 4, 5, 5, 5, 5, 5, 5, 5, 5, 5, 5, 5, 5, 5, 5, 5, 5, 6, 6, 6, 6, 6, 6, 6, 6, 6, 6, 6, 6, 6, 6, 6, 6, 6, 6, 6, 6, 6, 6, 6, 6, 6, 6, 6, 6, 6, 6, 6, 6, 7, 7, 7, 7, 7, 7, 7, 7, 7, 7, 7, 7, 7, 7, 7, 7, 7, 7, 7, 7, 7, 7, 7, 7, 7, 7, 7, 7, 7, 7, 7, 7, 7, 7, 7, 7, 7, 7, 7, 7, 7, 7, 7, 7, 7, 7, 7, 7, 7, 7, 7, 7, 7, 7, 7, 7, 7, 7, 7, 7, 7, 7, 7, 7, 8, 8, 8, 8, 8, 8, 8, 8, 8, 8, 8, 8, 8, 8, 8, 8, 8, 8, 8, 8, 8, 8, 8, 8, 8, 8, 8, 8, 8, 8, 8, 8, 8, 8, 8, 8, 8, 8, 8, 8, 8, 8, 8, 8, 8, 8, 8, 8, 8, 8, 8, 8, 8, 8, 8, 8, 8, 8, 8, 8, 8, 8, 8, 8, 8, 8, 8, 8, 8, 8, 8, 8, 8, 8, 8, 8, 8, 8, 8, 8, 8, 8, 8, 8, 8, 8, 8, 8, 8, 8, 8, 8, 8, 8, 8, 8, 8, 8, 8, 8, 8, 8, 8, 8, 8, 8, 8, 8, 8, 8, 8, 8, 8, 8, 8, 8, 8, 8, 8, 8, 8, 8, 8, 8, 8, 8, 8, 8]) v21) fun v22 =>
  B.pv (V.toInt .i64 v22) fun v23 =>
  B.pv (V.bin .add v2 v23) fun v24 =>
  Q v24 h
@[simp] def math_bits_Len64.k2 (C : CSem) (N : Nat → Nat) (Q : AVal → AHeap → Prop) (v0 v2 : AVal) (h : AHeap) : Prop :=
 B.pv (V.bin .geq v0 (.int .u64 256)) fun v14 =>
  B.cond v14
  (B.pv (V.bin .shr v0 (.int .u64 8)) fun v16 =>
  B.pv (V.bin .add v2 (.int .i64 8)) fun v18 =>
  math_bits_Len64.k1 C N Q v16 v18 h)
  (math_bits_Len64.k1 C N Q v0 v2 h)
@[simp] def math_bits_Len64.k3 (C : CSem) (N : Nat → Nat) (Q : AVal → AHeap → Prop) (v0 v2 : AVal) (h : AHeap) : Prop :=
 B.pv (V.bin .geq v0 (.int .u64 65536)) fun v8 =>
  B.cond v8
  (B.pv (V.bin .shr v0 (.int .u64 16)) fun v10 =>
  B.pv (V.bin .add v2 (.int .i64 16)) fun v12 =>
  math_bits_Len64.k2 C N Q v10 v12 h)
  (math_bits_Len64.k2 C N Q v0 v2 h)
@[simp] def math_bits_Len64.k4 (C : CSem) (N : Nat → Nat) (Q : AVal → AHeap → Prop) (v0 v2 : AVal) (h : AHeap) : Prop :=
 B.pv (V.bin .geq v0 (.int .u64 4294967296)) fun v4 =>
  B.cond v4
  (B.pv (V.bin .shr v0 (.int .u64 32)) fun v6 =>
  math_bits_Len64.k3 C N Q v6 (.int .i64 32) h)
  (math_bits_Len64.k3 C N Q v0 v2 h)
@[simp] def math_bits_Len64.cps (C : CSem) (N : Nat → Nat) (v0 : AVal) (h : AHeap) (Q : AVal → AHeap → Prop) : Prop :=
 math_bits_Len64.k4 C N Q v0 (.int .i64 0) h
def math_bits_Len64.Imp (C : CSem) (N : Nat → Nat) : Prop := ∀ (v0 : AVal) (h : AHeap) (Q : AVal → AHeap → Prop), math_bits_Len64.cps C N v0 h (dn Q) → C (N 305) [v0] h Q
end Go.Ab
namespace Go.Ab
@[simp] def slices_stableCmpFuncG.k1 (C : CSem) (E : ElOps) (f1 f2 : Nat) (Q : AVal → AHeap → Prop) (Y1 : List AVal → AHeap → Prop) (v0 v1 v2 v6 v7 : AVal) (h : AHeap) : Prop :=
 B.pv (V.bin .add v7 v6) fun v51 =>
  B.pv (V.bin .lss v51 v1) fun v54 =>
  B.cond v54
  (B.call C f1 [v0, v7, v51, v1, v2] h fun v60 h =>
  B.pv (V.bin .mul v6 (.int .i64 2)) fun v62 =>
  Y1 [v62] h)
  (B.pv (V.bin .mul v6 (.int .i64 2)) fun v62 =>
  Y1 [v62] h)
@[simp] def slices_stableCmpFuncG.k2 (C : CSem) (E : ElOps) (f1 f2 : Nat) (Q : AVal → AHeap → Prop) (Y1 : List AVal → AHeap → Prop) (Y2 : List AVal → AHeap → Prop) (v0 v1 v2 v6 v7 v8 : AVal) (h : AHeap) : Prop :=
 B.pv (V.bin .leq v8 v1) fun v35 =>
  B.cond v35
  (B.pv (V.bin .add v7 v6) fun v40 =>
  B.call C f1 [v0, v7, v40, v8, v2] h fun v43 h =>
  B.pv (V.bin .mul (.int .i64 2) v6) fun v47 =>
  B.pv (V.bin .add v8 v47) fun v48 =>
  Y2 [v8, v48] h)
  (slices_stableCmpFuncG.k1 C E f1 f2 Q Y1 v0 v1 v2 v6 v7 h)
@[simp] def slices_stableCmpFuncG.l3 (C : CSem) (E : ElOps) (f1 f2 : Nat) (Q : AVal → AHeap → Prop) (Y1 : List AVal → AHeap → Prop) (v0 v1 v2 v6 : AVal) : List AVal → AHeap → (List AVal → AHeap → Prop) → Prop
 | [v7, v8], h, Y2 => slices_stableCmpFuncG.k2 C E f1 f2 Q Y1 Y2 v0 v1 v2 v6 v7 v8 h
 | _, _, _ => False
@[simp] def slices_stableCmpFuncG.k4 (C : CSem) (E : ElOps) (f1 f2 : Nat) (Q : AVal → AHeap → Prop) (Y1 : List AVal → AHeap → Prop) (v0 v1 v2 v6 : AVal) (h : AHeap) : Prop :=
 B.pv (V.bin .lss v6 v1) fun v30 =>
  B.cond v30
  (B.pv (V.bin .mul (.int .i64 2) v6) fun v32 =>
  LoopR (slices_stableCmpFuncG.l3 C E f1 f2 Q Y1 v0 v1 v2 v6) [(.int .i64 0), v32] h)
  (Q (.tup []) h)
@[simp] def slices_stableCmpFuncG.l5 (C : CSem) (E : ElOps) (f1 f2 : Nat) (Q : AVal → AHeap → Prop) (v0 v1 v2 : AVal) : List AVal → AHeap → (List AVal → AHeap → Prop) → Prop
 | [v6], h, Y1 => slices_stableCmpFuncG.k4 C E f1 f2 Q Y1 v0 v1 v2 v6 h
 | _, _, _ => False
@[simp] def slices_IndexFuncG.k1 (C : CSem) (E : ElOps) (Q : AVal → AHeap → Prop) (Y1 : List AVal → AHeap → Prop) (v0 v1 v7 v8 : AVal) (h : AHeap) : Prop :=
 B.pv (V.bin .lss v8 v7) fun v9 =>
  B.cond v9
  (B.pv (V.idxS E.es v0 v8) fun v14 =>
  E.ld h v14 fun v15 =>
  B.callv h C v1 [v15] fun v16 h =>
  B.cond v16
  (Q v8 h)
  (B.pv (V.bin .add v8 (.int .i64 1)) fun v18 =>
  Y1 [v18] h))
  (Q (.int .i64 (-1)) h)
@[simp] def slices_IndexFuncG.l2 (C : CSem) (E : ElOps) (Q : AVal → AHeap → Prop) (v0 v1 v7 : AVal) : List AVal → AHeap → (List AVal → AHeap → Prop) → Prop
 | [v8], h, Y1 => slices_IndexFuncG.k1 C E Q Y1 v0 v1 v7 v8 h
 | _, _, _ => False
@[simp] def slices_IndexFuncG.cps (C : CSem) (E : ElOps) (v0 v1 : AVal) (h : AHeap) (Q : AVal → AHeap → Prop) : Prop :=
 B.pv (V.lenSl v0) fun v7 =>
  LoopR (slices_IndexFuncG.l2 C E Q v0 v1 v7) [(.int .i64 0)] h
@[simp] def slices_pdqsortCmpFuncG.k1 (C : CSem) (E : ElOps) (f1 f2 f3 f4 f5 f6 f7 f8 f9 : Nat) (Q : AVal → AHeap → Prop) (Y1 : List AVal → AHeap → Prop) (v0 v1 v2 v3 v4 v10 v11 v12 v13 : AVal) (h : AHeap) : Prop :=
 B.pv (V.bin .gtr v1 (.int .i64 0)) fun v82 =>
  B.gd h v82 true (fun K => K v4 h) fun v84 h =>
  B.gd h v82 true (fun K => K v0 h) fun v85 h =>
  B.gd h v82 true (fun K => K v1 h) fun v86 h =>
  B.gd h v82 true (fun K => B.pv (V.bin .sub v86 (.int .i64 1)) fun v => K v h) fun v87 h =>
  B.gd h v82 true (fun K => B.pv (V.idxS E.es v85 v87) fun v => K v h) fun v88 h =>
  B.gd h v82 true (fun K => E.ld h v88 fun v => K v h) fun v89 h =>
  B.gd h v82 true (fun K => K v0 h) fun v90 h =>
  B.gd h v82 true (fun K => K v13 h) fun v91 h =>
  B.gd h v82 true (fun K => B.pv (V.idxS E.es v90 v91) fun v => K v h) fun v92 h =>
  B.gd h v82 true (fun K => E.ld h v92 fun v => K v h) fun v93 h =>
  B.gd h v82 true (fun K => B.callv h C v84 [v89, v93] K) fun v94 h =>
  B.gd h v82 true (fun K => B.pv (V.bin .lss v94 (.int .i64 0)) fun v => K v h) fun v95 h =>
  B.gd h v82 true (fun K => B.pv (V.un .not v95) fun v => K v h) fun v96 h =>
  B.pick v82 v96 (.bool false) fun v97 =>
  B.cond v97
  (B.call C f1 [v0, v1, v2, v13, v4] h fun v103 h =>
  Y1 [v103, v2, v3, v10, v11] h)
  (B.call C f2 [v0, v1, v2, v13, v4] h fun v111 h =>
  B.pv (V.ext 0 v111) fun v112 =>
  B.pv (V.ext 1 v111) fun v113 =>
  B.pv (V.bin .sub v112 v1) fun v117 =>
  B.pv (V.bin .sub v2 v112) fun v120 =>
  B.pv (V.bin .quo v12 (.int .i64 8)) fun v122 =>
  B.pv (V.bin .lss v117 v120) fun v125 =>
  B.cond v125
  (B.pv (V.bin .geq v117 v122) fun v128 =>
  B.call C f3 [v0, v1, v112, v3, v4] h fun v134 h =>
  B.pv (V.bin .add v112 (.int .i64 1)) fun v136 =>
  Y1 [v136, v2, v3, v128, v113] h)
  (B.pv (V.bin .geq v120 v122) fun v139 =>
  B.pv (V.bin .add v112 (.int .i64 1)) fun v142 =>
  B.call C f3 [v0, v142, v2, v3, v4] h fun v146 h =>
  Y1 [v1, v112, v3, v139, v113] h))
@[simp] def slices_pdqsortCmpFuncG.k2 (C : CSem) (E : ElOps) (f1 f2 f3 f4 f5 f6 f7 f8 f9 : Nat) (Q : AVal → AHeap → Prop) (Y1 : List AVal → AHeap → Prop) (v0 v1 v2 v3 v4 v10 v11 v12 v13 v14 : AVal) (h : AHeap) : Prop :=
 B.gd h v10 true (fun K => K v11 h) fun v70 h =>
  B.pick v10 v70 (.bool false) fun v71 =>
  B.gd h v71 true (fun K => K v14 h) fun v73 h =>
  B.gd h v71 true (fun K => B.pv (V.bin .eql v73 (.int .i64 1)) fun v => K v h) fun v74 h =>
  B.pick v71 v74 (.bool false) fun v75 =>
  B.cond v75
  (B.call C f4 [v0, v1, v2, v4] h fun v80 h =>
  B.cond v80
  (Q (.tup []) h)
  (slices_pdqsortCmpFuncG.k1 C E f1 f2 f3 f4 f5 f6 f7 f8 f9 Q Y1 v0 v1 v2 v3 v4 v10 v11 v12 v13 h))
  (slices_pdqsortCmpFuncG.k1 C E f1 f2 f3 f4 f5 f6 f7 f8 f9 Q Y1 v0 v1 v2 v3 v4 v10 v11 v12 v13 h)
@[simp] def slices_pdqsortCmpFuncG.k3 (C : CSem) (E : ElOps) (f1 f2 f3 f4 f5 f6 f7 f8 f9 : Nat) (Q : AVal → AHeap → Prop) (Y1 : List AVal → AHeap → Prop) (v0 v1 v2 v3 v4 v10 v11 v12 v13 v14 : AVal) (h : AHeap) : Prop :=
 B.pv (V.bin .eql v14 (.int .i64 2)) fun v56 =>
  B.cond v56
  (B.call C f5 [v0, v1, v2, v4] h fun v61 h =>
  B.pv (V.bin .sub v2 (.int .i64 1)) fun v63 =>
  B.pv (V.bin .sub v13 v1) fun v66 =>
  B.pv (V.bin .sub v63 v66) fun v67 =>
  slices_pdqsortCmpFuncG.k2 C E f1 f2 f3 f4 f5 f6 f7 f8 f9 Q Y1 v0 v1 v2 v3 v4 v10 v11 v12 v67 (.int .i64 1) h)
  (slices_pdqsortCmpFuncG.k2 C E f1 f2 f3 f4 f5 f6 f7 f8 f9 Q Y1 v0 v1 v2 v3 v4 v10 v11 v12 v13 v14 h)
@[simp] def slices_pdqsortCmpFuncG.k4 (C : CSem) (E : ElOps) (f1 f2 f3 f4 f5 f6 f7 f8 f9 : Nat) (Q : AVal → AHeap → Prop) (Y1 : List AVal → AHeap → Prop) (v0 v1 v2 v3 v4 v10 v11 v12 : AVal) (h : AHeap) : Prop :=
 B.call C f6 [v0, v1, v2, v4] h fun v52 h =>
  B.pv (V.ext 0 v52) fun v53 =>
  B.pv (V.ext 1 v52) fun v54 =>
  slices_pdqsortCmpFuncG.k3 C E f1 f2 f3 f4 f5 f6 f7 f8 f9 Q Y1 v0 v1 v2 v3 v4 v10 v11 v12 v53 v54 h
@[simp] def slices_pdqsortCmpFuncG.k5 (C : CSem) (E : ElOps) (f1 f2 f3 f4 f5 f6 f7 f8 f9 : Nat) (Q : AVal → AHeap → Prop) (Y1 : List AVal → AHeap → Prop) (v0 v1 v2 v3 v4 v10 v11 v12 : AVal) (h : AHeap) : Prop :=
 B.pv (V.un .not v10) fun v39 =>
  B.cond v39
  (B.call C f7 [v0, v1, v2, v4] h fun v44 h =>
  B.pv (V.bin .sub v3 (.int .i64 1)) fun v46 =>
  slices_pdqsortCmpFuncG.k4 C E f1 f2 f3 f4 f5 f6 f7 f8 f9 Q Y1 v0 v1 v2 v46 v4 v10 v11 v12 h)
  (slices_pdqsortCmpFuncG.k4 C E f1 f2 f3 f4 f5 f6 f7 f8 f9 Q Y1 v0 v1 v2 v3 v4 v10 v11 v12 h)
@[simp] def slices_pdqsortCmpFuncG.k6 (C : CSem) (E : ElOps) (f1 f2 f3 f4 f5 f6 f7 f8 f9 : Nat) (Q : AVal → AHeap → Prop) (Y1 : List AVal → AHeap → Prop) (v0 v1 v2 v3 v4 v10 v11 v12 : AVal) (h : AHeap) : Prop :=
 B.pv (V.bin .eql v3 (.int .i64 0)) fun v32 =>
  B.cond v32
  (B.call C f8 [v0, v1, v2, v4] h fun v37 h =>
  Q (.tup []) h)
  (slices_pdqsortCmpFuncG.k5 C E f1 f2 f3 f4 f5 f6 f7 f8 f9 Q Y1 v0 v1 v2 v3 v4 v10 v11 v12 h)
@[simp] def slices_pdqsortCmpFuncG.k7 (C : CSem) (E : ElOps) (f1 f2 f3 f4 f5 f6 f7 f8 f9 : Nat) (Q : AVal → AHeap → Prop) (Y1 : List AVal → AHeap → Prop) (v0 v1 v2 v3 v4 v10 v11 v12 : AVal) (h : AHeap) : Prop :=
 B.pv (V.bin .leq v12 (.int .i64 12)) fun v25 =>
  B.cond v25
  (B.call C f9 [v0, v1, v2, v4] h fun v30 h =>
  Q (.tup []) h)
  (slices_pdqsortCmpFuncG.k6 C E f1 f2 f3 f4 f5 f6 f7 f8 f9 Q Y1 v0 v1 v2 v3 v4 v10 v11 v12 h)
@[simp] def slices_pdqsortCmpFuncG.l8 (C : CSem) (E : ElOps) (f1 f2 f3 f4 f5 f6 f7 f8 f9 : Nat) (Q : AVal → AHeap → Prop) (v0 v4 : AVal) : List AVal → AHeap → (List AVal → AHeap → Prop) → Prop
 | [v1, v2, v3, v10, v11], h, Y1 => B.pv (V.bin .sub v2 v1) fun v23 =>
  slices_pdqsortCmpFuncG.k7 C E f1 f2 f3 f4 f5 f6 f7 f8 f9 Q Y1 v0 v1 v2 v3 v4 v10 v11 v23 h
 | _, _, _ => False
@[simp] def slices_SortG.k1 (C : CSem) (E : ElOps) (f1 f2 : Nat) (Q : AVal → AHeap → Prop) (v0 : AVal) (h : AHeap) : Prop :=
 B.pv (V.lenSl v0) fun v4 =>
  B.pv (V.toInt .u64 v4) fun v8 =>
  B.call C f1 [v8] h fun v9 h =>
  B.call C f2 [v0, (.int .i64 0), v4, v9] h fun v10 h =>
  Q (.tup []) h
@[simp] def slices_SortG.cps (C : CSem) (E : ElOps) (f1 f2 : Nat) (v0 : AVal) (h : AHeap) (Q : AVal → AHeap → Prop) : Prop :=
 slices_SortG.k1 C E f1 f2 Q v0 h
@[simp] def slices_CompactG.k1 (C : CSem) (E : ElOps) (Q : AVal → AHeap → Prop) (Y1 : List AVal → AHeap → Prop) (Y2 : List AVal → AHeap → Prop) (v0 v3 v4 v5 : AVal) (h : AHeap) : Prop :=
 B.pv (V.lenSl v4) fun v31 =>
  B.pv (V.bin .lss v5 v31) fun v32 =>
  B.cond v32
  (B.pv (V.idxS E.es v4 v5) fun v37 =>
  E.ld h v37 fun v38 =>
  B.pv (V.bin .sub v5 (.int .i64 1)) fun v41 =>
  B.pv (V.idxS E.es v4 v41) fun v42 =>
  E.ld h v42 fun v43 =>
  B.pv (V.bin .neq v38 v43) fun v44 =>
  B.cond v44
  (B.pv (V.idxS E.es v4 v5) fun v49 =>
  E.ld h v49 fun v50 =>
  B.pv (V.idxS E.es v0 v3) fun v51 =>
  E.st h v51 v50 fun h =>
  B.pv (V.bin .add v3 (.int .i64 1)) fun v53 =>
  B.pv (V.bin .add v5 (.int .i64 1)) fun v34 =>
  Y2 [v53, v34] h)
  (B.pv (V.bin .add v5 (.int .i64 1)) fun v34 =>
  Y2 [v3, v34] h))
  (B.pv (V.cutSl E.es v0 (some v3) none) fun v56 =>
  B.clr h E.z v56 fun _ h =>
  B.pv (V.cutSl E.es v0 none (some v3)) fun v59 =>
  Q v59 h)
@[simp] def slices_CompactG.l2 (C : CSem) (E : ElOps) (Q : AVal → AHeap → Prop) (Y1 : List AVal → AHeap → Prop) (v0 v4 : AVal) : List AVal → AHeap → (List AVal → AHeap → Prop) → Prop
 | [v3, v5], h, Y2 => slices_CompactG.k1 C E Q Y1 Y2 v0 v3 v4 v5 h
 | _, _, _ => False
@[simp] def slices_CompactG.k3 (C : CSem) (E : ElOps) (Q : AVal → AHeap → Prop) (Y1 : List AVal → AHeap → Prop) (v0 v3 : AVal) (h : AHeap) : Prop :=
 B.pv (V.idxS E.es v0 v3) fun v18 =>
  E.ld h v18 fun v19 =>
  B.pv (V.bin .sub v3 (.int .i64 1)) fun v22 =>
  B.pv (V.idxS E.es v0 v22) fun v23 =>
  E.ld h v23 fun v24 =>
  B.pv (V.bin .eql v19 v24) fun v25 =>
  B.cond v25 (B.pv (V.cutSl E.es v0 (some v3) none) fun v28 =>
  LoopR (slices_CompactG.l2 C E Q Y1 v0 v28) [v3, (.int .i64 1)] h) (B.pv (V.bin .add v3 (.int .i64 1)) fun v15 =>
  Y1 [v15] h)
@[simp] def slices_CompactG.l4 (C : CSem) (E : ElOps) (Q : AVal → AHeap → Prop) (v0 : AVal) : List AVal → AHeap → (List AVal → AHeap → Prop) → Prop
 | [v3], h, Y1 => B.pv (V.lenSl v0) fun v12 =>
  B.pv (V.bin .lss v3 v12) fun v13 =>
  B.cond v13
  (slices_CompactG.k3 C E Q Y1 v0 v3 h)
  (Q v0 h)
 | _, _, _ => False
@[simp] def slices_CompactG.k5 (C : CSem) (E : ElOps) (Q : AVal → AHeap → Prop) (v0 : AVal) (h : AHeap) : Prop :=
 B.pv (V.lenSl v0) fun v7 =>
  B.pv (V.bin .lss v7 (.int .i64 2)) fun v8 =>
  B.cond v8
  (Q v0 h)
  (LoopR (slices_CompactG.l4 C E Q v0) [(.int .i64 1)] h)
@[simp] def slices_CompactG.cps (C : CSem) (E : ElOps) (v0 : AVal) (h : AHeap) (Q : AVal → AHeap → Prop) : Prop :=
 slices_CompactG.k5 C E Q v0 h
@[simp] def slices_pdqsortOrderedG.k1 (C : CSem) (E : ElOps) (f1 f2 f3 f4 f5 f6 f7 f8 f9 f10 : Nat) (Q : AVal → AHeap → Prop) (Y1 : List AVal → AHeap → Prop) (v0 v1 v2 v3 v8 v9 v10 v11 : AVal) (h : AHeap) : Prop :=
 B.pv (V.bin .gtr v1 (.int .i64 0)) fun v74 =>
  B.gd h v74 true (fun K => K v0 h) fun v76 h =>
  B.gd h v74 true (fun K => K v1 h) fun v77 h =>
  B.gd h v74 true (fun K => B.pv (V.bin .sub v77 (.int .i64 1)) fun v => K v h) fun v78 h =>
  B.gd h v74 true (fun K => B.pv (V.idxS E.es v76 v78) fun v => K v h) fun v79 h =>
  B.gd h v74 true (fun K => E.ld h v79 fun v => K v h) fun v80 h =>
  B.gd h v74 true (fun K => K v0 h) fun v81 h =>
  B.gd h v74 true (fun K => K v11 h) fun v82 h =>
  B.gd h v74 true (fun K => B.pv (V.idxS E.es v81 v82) fun v => K v h) fun v83 h =>
  B.gd h v74 true (fun K => E.ld h v83 fun v => K v h) fun v84 h =>
  B.gd h v74 true (fun K => B.call C f1 [v80, v84] h K) fun v85 h =>
  B.gd h v74 true (fun K => B.pv (V.un .not v85) fun v => K v h) fun v86 h =>
  B.pick v74 v86 (.bool false) fun v87 =>
  B.cond v87
  (B.call C f2 [v0, v1, v2, v11] h fun v92 h =>
  Y1 [v92, v2, v3, v8, v9] h)
  (B.call C f3 [v0, v1, v2, v11] h fun v99 h =>
  B.pv (V.ext 0 v99) fun v100 =>
  B.pv (V.ext 1 v99) fun v101 =>
  B.pv (V.bin .sub v100 v1) fun v105 =>
  B.pv (V.bin .sub v2 v100) fun v108 =>
  B.pv (V.bin .quo v10 (.int .i64 8)) fun v110 =>
  B.pv (V.bin .lss v105 v108) fun v113 =>
  B.cond v113
  (B.pv (V.bin .geq v105 v110) fun v116 =>
  B.call C f4 [v0, v1, v100, v3] h fun v121 h =>
  B.pv (V.bin .add v100 (.int .i64 1)) fun v123 =>
  Y1 [v123, v2, v3, v116, v101] h)
  (B.pv (V.bin .geq v108 v110) fun v126 =>
  B.pv (V.bin .add v100 (.int .i64 1)) fun v129 =>
  B.call C f4 [v0, v129, v2, v3] h fun v132 h =>
  Y1 [v1, v100, v3, v126, v101] h))
@[simp] def slices_pdqsortOrderedG.k2 (C : CSem) (E : ElOps) (f1 f2 f3 f4 f5 f6 f7 f8 f9 f10 : Nat) (Q : AVal → AHeap → Prop) (Y1 : List AVal → AHeap → Prop) (v0 v1 v2 v3 v8 v9 v10 v11 v12 : AVal) (h : AHeap) : Prop :=
 B.gd h v8 true (fun K => K v9 h) fun v63 h =>
  B.pick v8 v63 (.bool false) fun v64 =>
  B.gd h v64 true (fun K => K v12 h) fun v66 h =>
  B.gd h v64 true (fun K => B.pv (V.bin .eql v66 (.int .i64 1)) fun v => K v h) fun v67 h =>
  B.pick v64 v67 (.bool false) fun v68 =>
  B.cond v68
  (B.call C f5 [v0, v1, v2] h fun v72 h =>
  B.cond v72
  (Q (.tup []) h)
  (slices_pdqsortOrderedG.k1 C E f1 f2 f3 f4 f5 f6 f7 f8 f9 f10 Q Y1 v0 v1 v2 v3 v8 v9 v10 v11 h))
  (slices_pdqsortOrderedG.k1 C E f1 f2 f3 f4 f5 f6 f7 f8 f9 f10 Q Y1 v0 v1 v2 v3 v8 v9 v10 v11 h)
@[simp] def slices_pdqsortOrderedG.k3 (C : CSem) (E : ElOps) (f1 f2 f3 f4 f5 f6 f7 f8 f9 f10 : Nat) (Q : AVal → AHeap → Prop) (Y1 : List AVal → AHeap → Prop) (v0 v1 v2 v3 v8 v9 v10 v11 v12 : AVal) (h : AHeap) : Prop :=
 B.pv (V.bin .eql v12 (.int .i64 2)) fun v50 =>
  B.cond v50
  (B.call C f6 [v0, v1, v2] h fun v54 h =>
  B.pv (V.bin .sub v2 (.int .i64 1)) fun v56 =>
  B.pv (V.bin .sub v11 v1) fun v59 =>
  B.pv (V.bin .sub v56 v59) fun v60 =>
  slices_pdqsortOrderedG.k2 C E f1 f2 f3 f4 f5 f6 f7 f8 f9 f10 Q Y1 v0 v1 v2 v3 v8 v9 v10 v60 (.int .i64 1) h)
  (slices_pdqsortOrderedG.k2 C E f1 f2 f3 f4 f5 f6 f7 f8 f9 f10 Q Y1 v0 v1 v2 v3 v8 v9 v10 v11 v12 h)
@[simp] def slices_pdqsortOrderedG.k4 (C : CSem) (E : ElOps) (f1 f2 f3 f4 f5 f6 f7 f8 f9 f10 : Nat) (Q : AVal → AHeap → Prop) (Y1 : List AVal → AHeap → Prop) (v0 v1 v2 v3 v8 v9 v10 : AVal) (h : AHeap) : Prop :=
 B.call C f7 [v0, v1, v2] h fun v46 h =>
  B.pv (V.ext 0 v46) fun v47 =>
  B.pv (V.ext 1 v46) fun v48 =>
  slices_pdqsortOrderedG.k3 C E f1 f2 f3 f4 f5 f6 f7 f8 f9 f10 Q Y1 v0 v1 v2 v3 v8 v9 v10 v47 v48 h
@[simp] def slices_pdqsortOrderedG.k5 (C : CSem) (E : ElOps) (f1 f2 f3 f4 f5 f6 f7 f8 f9 f10 : Nat) (Q : AVal → AHeap → Prop) (Y1 : List AVal → AHeap → Prop) (v0 v1 v2 v3 v8 v9 v10 : AVal) (h : AHeap) : Prop :=
 B.pv (V.un .not v8) fun v35 =>
  B.cond v35
  (B.call C f8 [v0, v1, v2] h fun v39 h =>
  B.pv (V.bin .sub v3 (.int .i64 1)) fun v41 =>
  slices_pdqsortOrderedG.k4 C E f1 f2 f3 f4 f5 f6 f7 f8 f9 f10 Q Y1 v0 v1 v2 v41 v8 v9 v10 h)
  (slices_pdqsortOrderedG.k4 C E f1 f2 f3 f4 f5 f6 f7 f8 f9 f10 Q Y1 v0 v1 v2 v3 v8 v9 v10 h)
@[simp] def slices_pdqsortOrderedG.k6 (C : CSem) (E : ElOps) (f1 f2 f3 f4 f5 f6 f7 f8 f9 f10 : Nat) (Q : AVal → AHeap → Prop) (Y1 : List AVal → AHeap → Prop) (v0 v1 v2 v3 v8 v9 v10 : AVal) (h : AHeap) : Prop :=
 B.pv (V.bin .eql v3 (.int .i64 0)) fun v29 =>
  B.cond v29
  (B.call C f9 [v0, v1, v2] h fun v33 h =>
  Q (.tup []) h)
  (slices_pdqsortOrderedG.k5 C E f1 f2 f3 f4 f5 f6 f7 f8 f9 f10 Q Y1 v0 v1 v2 v3 v8 v9 v10 h)
@[simp] def slices_pdqsortOrderedG.k7 (C : CSem) (E : ElOps) (f1 f2 f3 f4 f5 f6 f7 f8 f9 f10 : Nat) (Q : AVal → AHeap → Prop) (Y1 : List AVal → AHeap → Prop) (v0 v1 v2 v3 v8 v9 v10 : AVal) (h : AHeap) : Prop :=
 B.pv (V.bin .leq v10 (.int .i64 12)) fun v23 =>
  B.cond v23
  (B.call C f10 [v0, v1, v2] h fun v27 h =>
  Q (.tup []) h)
  (slices_pdqsortOrderedG.k6 C E f1 f2 f3 f4 f5 f6 f7 f8 f9 f10 Q Y1 v0 v1 v2 v3 v8 v9 v10 h)
@[simp] def slices_pdqsortOrderedG.l8 (C : CSem) (E : ElOps) (f1 f2 f3 f4 f5 f6 f7 f8 f9 f10 : Nat) (Q : AVal → AHeap → Prop) (v0 : AVal) : List AVal → AHeap → (List AVal → AHeap → Prop) → Prop
 | [v1, v2, v3, v8, v9], h, Y1 => B.pv (V.bin .sub v2 v1) fun v21 =>
  slices_pdqsortOrderedG.k7 C E f1 f2 f3 f4 f5 f6 f7 f8 f9 f10 Q Y1 v0 v1 v2 v3 v8 v9 v21 h
 | _, _, _ => False
@[simp] def slices_pdqsortOrderedG.cps (C : CSem) (E : ElOps) (f1 f2 f3 f4 f5 f6 f7 f8 f9 f10 : Nat) (v0 v1 v2 v3 : AVal) (h : AHeap) (Q : AVal → AHeap → Prop) : Prop :=
 LoopR (slices_pdqsortOrderedG.l8 C E f1 f2 f3 f4 f5 f6 f7 f8 f9 f10 Q v0) [v1, v2, v3, (.bool true), (.bool true)] h
@[simp] def slices_insertionSortOrderedG.k1 (C : CSem) (E : ElOps) (f1 : Nat) (Q : AVal → AHeap → Prop) (Y1 : List AVal → AHeap → Prop) (Y2 : List AVal → AHeap → Prop) (v0 v1 v2 v6 v7 : AVal) (h : AHeap) : Prop :=
 B.pv (V.bin .gtr v7 v1) fun v18 =>
  B.gd h v18 true (fun K => K v0 h) fun v20 h =>
  B.gd h v18 true (fun K => K v7 h) fun v21 h =>
  B.gd h v18 true (fun K => B.pv (V.idxS E.es v20 v21) fun v => K v h) fun v22 h =>
  B.gd h v18 true (fun K => E.ld h v22 fun v => K v h) fun v23 h =>
  B.gd h v18 true (fun K => K v0 h) fun v24 h =>
  B.gd h v18 true (fun K => K v7 h) fun v25 h =>
  B.gd h v18 true (fun K => B.pv (V.bin .sub v25 (.int .i64 1)) fun v => K v h) fun v26 h =>
  B.gd h v18 true (fun K => B.pv (V.idxS E.es v24 v26) fun v => K v h) fun v27 h =>
  B.gd h v18 true (fun K => E.ld h v27 fun v => K v h) fun v28 h =>
  B.gd h v18 true (fun K => B.call C f1 [v23, v28] h K) fun v29 h =>
  B.pick v18 v29 (.bool false) fun v30 =>
  B.cond v30
  (B.pv (V.bin .sub v7 (.int .i64 1)) fun v37 =>
  B.pv (V.bin .sub v7 (.int .i64 1)) fun v40 =>
  B.pv (V.idxS E.es v0 v40) fun v41 =>
  E.ld h v41 fun v42 =>
  B.pv (V.idxS E.es v0 v7) fun v45 =>
  E.ld h v45 fun v46 =>
  B.pv (V.idxS E.es v0 v7) fun v47 =>
  E.st h v47 v42 fun h =>
  B.pv (V.idxS E.es v0 v37) fun v48 =>
  E.st h v48 v46 fun h =>
  B.pv (V.bin .sub v7 (.int .i64 1)) fun v32 =>
  Y2 [v32] h)
  (B.pv (V.bin .add v6 (.int .i64 1)) fun v14 =>
  Y1 [v14] h)
@[simp] def slices_insertionSortOrderedG.l2 (C : CSem) (E : ElOps) (f1 : Nat) (Q : AVal → AHeap → Prop) (Y1 : List AVal → AHeap → Prop) (v0 v1 v2 v6 : AVal) : List AVal → AHeap → (List AVal → AHeap → Prop) → Prop
 | [v7], h, Y2 => slices_insertionSortOrderedG.k1 C E f1 Q Y1 Y2 v0 v1 v2 v6 v7 h
 | _, _, _ => False
@[simp] def slices_insertionSortOrderedG.l3 (C : CSem) (E : ElOps) (f1 : Nat) (Q : AVal → AHeap → Prop) (v0 v1 v2 : AVal) : List AVal → AHeap → (List AVal → AHeap → Prop) → Prop
 | [v6], h, Y1 => B.pv (V.bin .lss v6 v2) fun v12 =>
  B.cond v12
  (LoopR (slices_insertionSortOrderedG.l2 C E f1 Q Y1 v0 v1 v2 v6) [v6] h)
  (Q (.tup []) h)
 | _, _, _ => False
@[simp] def slices_insertionSortOrderedG.cps (C : CSem) (E : ElOps) (f1 : Nat) (v0 v1 v2 : AVal) (h : AHeap) (Q : AVal → AHeap → Prop) : Prop :=
 B.pv (V.bin .add v1 (.int .i64 1)) fun v9 =>
  LoopR (slices_insertionSortOrderedG.l3 C E f1 Q v0 v1 v2) [v9] h
@[simp] def slices_heapSortOrderedG.k1 (C : CSem) (E : ElOps) (f1 : Nat) (Q : AVal → AHeap → Prop) (Y1 : List AVal → AHeap → Prop) (v0 v6 v7 v10 : AVal) (h : AHeap) : Prop :=
 B.pv (V.bin .geq v10 (.int .i64 0)) fun v30 =>
  B.cond v30
  (B.pv (V.bin .add v6 v10) fun v38 =>
  B.pv (V.bin .add v6 v10) fun v42 =>
  B.pv (V.idxS E.es v0 v42) fun v43 =>
  E.ld h v43 fun v44 =>
  B.pv (V.idxS E.es v0 v6) fun v47 =>
  E.ld h v47 fun v48 =>
  B.pv (V.idxS E.es v0 v6) fun v49 =>
  E.st h v49 v44 fun h =>
  B.pv (V.idxS E.es v0 v38) fun v50 =>
  E.st h v50 v48 fun h =>
  B.call C f1 [v0, v7, v10, v6] h fun v55 h =>
  B.pv (V.bin .sub v10 (.int .i64 1)) fun v32 =>
  Y1 [v32] h)
  (Q (.tup []) h)
@[simp] def slices_heapSortOrderedG.l2 (C : CSem) (E : ElOps) (f1 : Nat) (Q : AVal → AHeap → Prop) (v0 v6 v7 : AVal) : List AVal → AHeap → (List AVal → AHeap → Prop) → Prop
 | [v10], h, Y1 => slices_heapSortOrderedG.k1 C E f1 Q Y1 v0 v6 v7 v10 h
 | _, _, _ => False
@[simp] def slices_heapSortOrderedG.k3 (C : CSem) (E : ElOps) (f1 : Nat) (Q : AVal → AHeap → Prop) (Y2 : List AVal → AHeap → Prop) (v0 v6 v7 v8 v9 : AVal) (h : AHeap) : Prop :=
 B.pv (V.bin .geq v9 (.int .i64 0)) fun v19 =>
  B.cond v19
  (B.call C f1 [v0, v9, v8, v6] h fun v26 h =>
  B.pv (V.bin .sub v9 (.int .i64 1)) fun v21 =>
  Y2 [v21] h)
  (B.pv (V.bin .sub v8 (.int .i64 1)) fun v28 =>
  LoopR (slices_heapSortOrderedG.l2 C E f1 Q v0 v6 v7) [v28] h)
@[simp] def slices_heapSortOrderedG.l4 (C : CSem) (E : ElOps) (f1 : Nat) (Q : AVal → AHeap → Prop) (v0 v6 v7 v8 : AVal) : List AVal → AHeap → (List AVal → AHeap → Prop) → Prop
 | [v9], h, Y2 => slices_heapSortOrderedG.k3 C E f1 Q Y2 v0 v6 v7 v8 v9 h
 | _, _, _ => False
@[simp] def slices_heapSortOrderedG.k5 (C : CSem) (E : ElOps) (f1 : Nat) (Q : AVal → AHeap → Prop) (v0 v6 v7 v8 : AVal) (h : AHeap) : Prop :=
 B.pv (V.bin .sub v8 (.int .i64 1)) fun v16 =>
  B.pv (V.bin .quo v16 (.int .i64 2)) fun v17 =>
  LoopR (slices_heapSortOrderedG.l4 C E f1 Q v0 v6 v7 v8) [v17] h
@[simp] def slices_heapSortOrderedG.cps (C : CSem) (E : ElOps) (f1 : Nat) (v0 v1 v2 : AVal) (h : AHeap) (Q : AVal → AHeap → Prop) : Prop :=
 B.pv (V.bin .sub v2 v1) fun v14 =>
  slices_heapSortOrderedG.k5 C E f1 Q v0 v1 (.int .i64 0) v14 h
@[simp] def slices_breakPatternsOrderedG.k1 (C : CSem) (E : ElOps) (f1 f2 : Nat) (Q : AVal → AHeap → Prop) (Y1 : List AVal → AHeap → Prop) (v0 v1 v6 v7 v8 v9 v10 : AVal) (h : AHeap) : Prop :=
 B.pv (V.bin .add v1 v10) fun v52 =>
  B.pv (V.bin .add v1 v10) fun v56 =>
  B.pv (V.idxS E.es v0 v56) fun v57 =>
  E.ld h v57 fun v58 =>
  B.pv (V.idxS E.es v0 v9) fun v61 =>
  E.ld h v61 fun v62 =>
  B.pv (V.idxS E.es v0 v9) fun v63 =>
  E.st h v63 v58 fun h =>
  B.pv (V.idxS E.es v0 v52) fun v64 =>
  E.st h v64 v62 fun h =>
  B.pv (V.bin .add v9 (.int .i64 1)) fun v35 =>
  Y1 [v35] h
@[simp] def slices_breakPatternsOrderedG.k2 (C : CSem) (E : ElOps) (f1 f2 : Nat) (Q : AVal → AHeap → Prop) (Y1 : List AVal → AHeap → Prop) (v0 v1 v6 v7 v8 v9 v10 : AVal) (h : AHeap) : Prop :=
 B.pv (V.bin .geq v10 v6) fun v43 =>
  B.cond v43
  (B.pv (V.bin .sub v10 v6) fun v46 =>
  slices_breakPatternsOrderedG.k1 C E f1 f2 Q Y1 v0 v1 v6 v7 v8 v9 v46 h)
  (slices_breakPatternsOrderedG.k1 C E f1 f2 Q Y1 v0 v1 v6 v7 v8 v9 v10 h)
@[simp] def slices_breakPatternsOrderedG.k3 (C : CSem) (E : ElOps) (f1 f2 : Nat) (Q : AVal → AHeap → Prop) (Y1 : List AVal → AHeap → Prop) (v0 v1 v6 v7 v8 v9 : AVal) (h : AHeap) : Prop :=
 B.call C f1 [v7] h fun v36 h =>
  B.pv (V.bin .sub v8 (.int .u64 1)) fun v38 =>
  B.pv (V.bin .and v36 v38) fun v39 =>
  B.pv (V.toInt .i64 v39) fun v40 =>
  slices_breakPatternsOrderedG.k2 C E f1 f2 Q Y1 v0 v1 v6 v7 v8 v9 v40 h
@[simp] def slices_breakPatternsOrderedG.k4 (C : CSem) (E : ElOps) (f1 f2 : Nat) (Q : AVal → AHeap → Prop) (Y1 : List AVal → AHeap → Prop) (v0 v1 v6 v7 v8 v9 : AVal) (h : AHeap) : Prop :=
 B.pv (V.bin .quo v6 (.int .i64 4)) fun v29 =>
  B.pv (V.bin .mul v29 (.int .i64 2)) fun v30 =>
  B.pv (V.bin .add v1 v30) fun v31 =>
  B.pv (V.bin .add v31 (.int .i64 1)) fun v32 =>
  B.pv (V.bin .leq v9 v32) fun v33 =>
  B.cond v33
  (slices_breakPatternsOrderedG.k3 C E f1 f2 Q Y1 v0 v1 v6 v7 v8 v9 h)
  (Q (.tup []) h)
@[simp] def slices_breakPatternsOrderedG.l5 (C : CSem) (E : ElOps) (f1 f2 : Nat) (Q : AVal → AHeap → Prop) (v0 v1 v6 v7 v8 : AVal) : List AVal → AHeap → (List AVal → AHeap → Prop) → Prop
 | [v9], h, Y1 => slices_breakPatternsOrderedG.k4 C E f1 f2 Q Y1 v0 v1 v6 v7 v8 v9 h
 | _, _, _ => False
@[simp] def slices_breakPatternsOrderedG.k6 (C : CSem) (E : ElOps) (f1 f2 : Nat) (Q : AVal → AHeap → Prop) (v0 v1 v6 v7 v8 : AVal) (h : AHeap) : Prop :=
 B.pv (V.bin .quo v6 (.int .i64 4)) fun v22 =>
  B.pv (V.bin .mul v22 (.int .i64 2)) fun v23 =>
  B.pv (V.bin .add v1 v23) fun v24 =>
  B.pv (V.bin .sub v24 (.int .i64 1)) fun v25 =>
  LoopR (slices_breakPatternsOrderedG.l5 C E f1 f2 Q v0 v1 v6 v7 v8) [v25] h
@[simp] def slices_breakPatternsOrderedG.k7 (C : CSem) (E : ElOps) (f1 f2 : Nat) (Q : AVal → AHeap → Prop) (v0 v1 v6 : AVal) (h : AHeap) : Prop :=
 B.pv (V.toInt .u64 v6) fun v17 =>
  B.newO h (some [.int .u64 0]) fun i7 h =>
  B.st h (.ptr i7 0 0) v17 fun h =>
  B.call C f2 [v6] h fun v19 h =>
  slices_breakPatternsOrderedG.k6 C E f1 f2 Q v0 v1 v6 (.ptr i7 0 0) v19 h
@[simp] def slices_breakPatternsOrderedG.k8 (C : CSem) (E : ElOps) (f1 f2 : Nat) (Q : AVal → AHeap → Prop) (v0 v1 v2 : AVal) (h : AHeap) : Prop :=
 B.pv (V.bin .sub v2 v1) fun v13 =>
  B.pv (V.bin .geq v13 (.int .i64 8)) fun v15 =>
  B.cond v15 (slices_breakPatternsOrderedG.k7 C E f1 f2 Q v0 v1 v13 h) (Q (.tup []) h)
@[simp] def slices_breakPatternsOrderedG.cps (C : CSem) (E : ElOps) (f1 f2 : Nat) (v0 v1 v2 : AVal) (h : AHeap) (Q : AVal → AHeap → Prop) : Prop :=
 slices_breakPatternsOrderedG.k8 C E f1 f2 Q v0 v1 v2 h
@[simp] def slices_choosePivotOrderedG.k1 (C : CSem) (E : ElOps) (f1 f2 : Nat) (Q : AVal → AHeap → Prop) (v9 v11 : AVal) (h : AHeap) : Prop :=
 B.ld h v9 fun v49 =>
  B.pv (V.bin .eql v49 (.int .i64 0)) fun v52 =>
  B.cond v52
  (Q (.tup [v11, (.int .i64 1)]) h)
  (B.pv (V.bin .eql v49 (.int .i64 12)) fun v55 =>
  B.cond v55
  (Q (.tup [v11, (.int .i64 2)]) h)
  (Q (.tup [v11, (.int .i64 0)]) h))
@[simp] def slices_choosePivotOrderedG.k2 (C : CSem) (E : ElOps) (f1 f2 : Nat) (Q : AVal → AHeap → Prop) (v0 v8 v9 v10 v11 v12 : AVal) (h : AHeap) : Prop :=
 B.pv (V.bin .geq v8 (.int .i64 8)) fun v32 =>
  B.cond v32
  (B.pv (V.bin .geq v8 (.int .i64 50)) fun v34 =>
  B.cond v34
  (B.call C f1 [v0, v10, v9] h fun v37 h =>
  B.call C f1 [v0, v11, v9] h fun v40 h =>
  B.call C f1 [v0, v12, v9] h fun v43 h =>
  B.call C f2 [v0, v37, v40, v43, v9] h fun v48 h =>
  slices_choosePivotOrderedG.k1 C E f1 f2 Q v9 v48 h)
  (B.call C f2 [v0, v10, v11, v12, v9] h fun v48 h =>
  slices_choosePivotOrderedG.k1 C E f1 f2 Q v9 v48 h))
  (slices_choosePivotOrderedG.k1 C E f1 f2 Q v9 v11 h)
@[simp] def slices_choosePivotOrderedG.k3 (C : CSem) (E : ElOps) (f1 f2 : Nat) (Q : AVal → AHeap → Prop) (v0 v1 v8 v9 v10 v11 : AVal) (h : AHeap) : Prop :=
 B.pv (V.bin .quo v8 (.int .i64 4)) fun v28 =>
  B.pv (V.bin .mul v28 (.int .i64 3)) fun v29 =>
  B.pv (V.bin .add v1 v29) fun v30 =>
  slices_choosePivotOrderedG.k2 C E f1 f2 Q v0 v8 v9 v10 v11 v30 h
@[simp] def slices_choosePivotOrderedG.k4 (C : CSem) (E : ElOps) (f1 f2 : Nat) (Q : AVal → AHeap → Prop) (v0 v1 v8 v9 v10 : AVal) (h : AHeap) : Prop :=
 B.pv (V.bin .quo v8 (.int .i64 4)) fun v23 =>
  B.pv (V.bin .mul v23 (.int .i64 2)) fun v24 =>
  B.pv (V.bin .add v1 v24) fun v25 =>
  slices_choosePivotOrderedG.k3 C E f1 f2 Q v0 v1 v8 v9 v10 v25 h
@[simp] def slices_choosePivotOrderedG.k5 (C : CSem) (E : ElOps) (f1 f2 : Nat) (Q : AVal → AHeap → Prop) (v0 v1 v8 v9 : AVal) (h : AHeap) : Prop :=
 B.pv (V.bin .quo v8 (.int .i64 4)) fun v18 =>
  B.pv (V.bin .mul v18 (.int .i64 1)) fun v19 =>
  B.pv (V.bin .add v1 v19) fun v20 =>
  slices_choosePivotOrderedG.k4 C E f1 f2 Q v0 v1 v8 v9 v20 h
@[simp] def slices_choosePivotOrderedG.cps (C : CSem) (E : ElOps) (f1 f2 : Nat) (v0 v1 v2 : AVal) (h : AHeap) (Q : AVal → AHeap → Prop) : Prop :=
 B.pv (V.bin .sub v2 v1) fun v15 =>
  B.newO h (some [.int .i64 0]) fun i9 h =>
  slices_choosePivotOrderedG.k5 C E f1 f2 Q v0 v1 v15 (.ptr i9 0 0) h
@[simp] def slices_reverseRangeOrderedG.k1 (C : CSem) (E : ElOps) (Q : AVal → AHeap → Prop) (Y1 : List AVal → AHeap → Prop) (v0 v6 v7 : AVal) (h : AHeap) : Prop :=
 B.pv (V.bin .lss v6 v7) fun v13 =>
  B.cond v13
  (B.pv (V.idxS E.es v0 v7) fun v20 =>
  E.ld h v20 fun v21 =>
  B.pv (V.idxS E.es v0 v6) fun v24 =>
  E.ld h v24 fun v25 =>
  B.pv (V.idxS E.es v0 v6) fun v26 =>
  E.st h v26 v21 fun h =>
  B.pv (V.idxS E.es v0 v7) fun v27 =>
  E.st h v27 v25 fun h =>
  B.pv (V.bin .add v6 (.int .i64 1)) fun v29 =>
  B.pv (V.bin .sub v7 (.int .i64 1)) fun v31 =>
  Y1 [v29, v31] h)
  (Q (.tup []) h)
@[simp] def slices_reverseRangeOrderedG.l2 (C : CSem) (E : ElOps) (Q : AVal → AHeap → Prop) (v0 : AVal) : List AVal → AHeap → (List AVal → AHeap → Prop) → Prop
 | [v6, v7], h, Y1 => slices_reverseRangeOrderedG.k1 C E Q Y1 v0 v6 v7 h
 | _, _, _ => False
@[simp] def slices_reverseRangeOrderedG.cps (C : CSem) (E : ElOps) (v0 v1 v2 : AVal) (h : AHeap) (Q : AVal → AHeap → Prop) : Prop :=
 B.pv (V.bin .sub v2 (.int .i64 1)) fun v10 =>
  LoopR (slices_reverseRangeOrderedG.l2 C E Q v0) [v1, v10] h
@[simp] def slices_partialInsertionSortOrderedG.k1 (C : CSem) (E : ElOps) (f1 : Nat) (Q : AVal → AHeap → Prop) (Y1 : List AVal → AHeap → Prop) (Y2 : List AVal → AHeap → Prop) (v0 v1 v2 v7 v8 v10 : AVal) (h : AHeap) : Prop :=
 B.pv (V.bin .lss v10 v2) fun v103 =>
  B.cond v103
  (B.pv (V.idxS E.es v0 v10) fun v108 =>
  E.ld h v108 fun v109 =>
  B.pv (V.bin .sub v10 (.int .i64 1)) fun v112 =>
  B.pv (V.idxS E.es v0 v112) fun v113 =>
  E.ld h v113 fun v114 =>
  B.call C f1 [v109, v114] h fun v115 h =>
  B.pv (V.un .not v115) fun v116 =>
  B.cond v116
  (B.pv (V.bin .add v8 (.int .i64 1)) fun v16 =>
  Y1 [v7, v16] h)
  (B.pv (V.bin .sub v10 (.int .i64 1)) fun v121 =>
  B.pv (V.bin .sub v10 (.int .i64 1)) fun v124 =>
  B.pv (V.idxS E.es v0 v124) fun v125 =>
  E.ld h v125 fun v126 =>
  B.pv (V.idxS E.es v0 v10) fun v129 =>
  E.ld h v129 fun v130 =>
  B.pv (V.idxS E.es v0 v10) fun v131 =>
  E.st h v131 v126 fun h =>
  B.pv (V.idxS E.es v0 v121) fun v132 =>
  E.st h v132 v130 fun h =>
  B.pv (V.bin .add v10 (.int .i64 1)) fun v105 =>
  Y2 [v105] h))
  (B.pv (V.bin .add v8 (.int .i64 1)) fun v16 =>
  Y1 [v7, v16] h)
@[simp] def slices_partialInsertionSortOrderedG.l2 (C : CSem) (E : ElOps) (f1 : Nat) (Q : AVal → AHeap → Prop) (Y1 : List AVal → AHeap → Prop) (v0 v1 v2 v7 v8 : AVal) : List AVal → AHeap → (List AVal → AHeap → Prop) → Prop
 | [v10], h, Y2 => slices_partialInsertionSortOrderedG.k1 C E f1 Q Y1 Y2 v0 v1 v2 v7 v8 v10 h
 | _, _, _ => False
@[simp] def slices_partialInsertionSortOrderedG.k3 (C : CSem) (E : ElOps) (f1 : Nat) (Q : AVal → AHeap → Prop) (Y1 : List AVal → AHeap → Prop) (v0 v1 v2 v7 v8 : AVal) (h : AHeap) : Prop :=
 B.pv (V.bin .sub v2 v7) fun v97 =>
  B.pv (V.bin .geq v97 (.int .i64 2)) fun v98 =>
  B.cond v98 (B.pv (V.bin .add v7 (.int .i64 1)) fun v100 =>
  LoopR (slices_partialInsertionSortOrderedG.l2 C E f1 Q Y1 v0 v1 v2 v7 v8) [v100] h) (B.pv (V.bin .add v8 (.int .i64 1)) fun v16 =>
  Y1 [v7, v16] h)
@[simp] def slices_partialInsertionSortOrderedG.k4 (C : CSem) (E : ElOps) (f1 : Nat) (Q : AVal → AHeap → Prop) (Y1 : List AVal → AHeap → Prop) (Y3 : List AVal → AHeap → Prop) (v0 v1 v2 v7 v8 v9 : AVal) (h : AHeap) : Prop :=
 B.pv (V.bin .geq v9 (.int .i64 1)) fun v65 =>
  B.cond v65
  (B.pv (V.idxS E.es v0 v9) fun v70 =>
  E.ld h v70 fun v71 =>
  B.pv (V.bin .sub v9 (.int .i64 1)) fun v74 =>
  B.pv (V.idxS E.es v0 v74) fun v75 =>
  E.ld h v75 fun v76 =>
  B.call C f1 [v71, v76] h fun v77 h =>
  B.pv (V.un .not v77) fun v78 =>
  B.cond v78
  (slices_partialInsertionSortOrderedG.k3 C E f1 Q Y1 v0 v1 v2 v7 v8 h)
  (B.pv (V.bin .sub v9 (.int .i64 1)) fun v83 =>
  B.pv (V.bin .sub v9 (.int .i64 1)) fun v86 =>
  B.pv (V.idxS E.es v0 v86) fun v87 =>
  E.ld h v87 fun v88 =>
  B.pv (V.idxS E.es v0 v9) fun v91 =>
  E.ld h v91 fun v92 =>
  B.pv (V.idxS E.es v0 v9) fun v93 =>
  E.st h v93 v88 fun h =>
  B.pv (V.idxS E.es v0 v83) fun v94 =>
  E.st h v94 v92 fun h =>
  B.pv (V.bin .sub v9 (.int .i64 1)) fun v67 =>
  Y3 [v67] h))
  (slices_partialInsertionSortOrderedG.k3 C E f1 Q Y1 v0 v1 v2 v7 v8 h)
@[simp] def slices_partialInsertionSortOrderedG.l5 (C : CSem) (E : ElOps) (f1 : Nat) (Q : AVal → AHeap → Prop) (Y1 : List AVal → AHeap → Prop) (v0 v1 v2 v7 v8 : AVal) : List AVal → AHeap → (List AVal → AHeap → Prop) → Prop
 | [v9], h, Y3 => slices_partialInsertionSortOrderedG.k4 C E f1 Q Y1 Y3 v0 v1 v2 v7 v8 v9 h
 | _, _, _ => False
@[simp] def slices_partialInsertionSortOrderedG.k6 (C : CSem) (E : ElOps) (f1 : Nat) (Q : AVal → AHeap → Prop) (Y1 : List AVal → AHeap → Prop) (v0 v1 v2 v7 v8 : AVal) (h : AHeap) : Prop :=
 B.pv (V.bin .sub v7 v1) fun v60 =>
  B.pv (V.bin .geq v60 (.int .i64 2)) fun v61 =>
  B.cond v61 (B.pv (V.bin .sub v7 (.int .i64 1)) fun v63 =>
  LoopR (slices_partialInsertionSortOrderedG.l5 C E f1 Q Y1 v0 v1 v2 v7 v8) [v63] h) (slices_partialInsertionSortOrderedG.k3 C E f1 Q Y1 v0 v1 v2 v7 v8 h)
@[simp] def slices_partialInsertionSortOrderedG.k7 (C : CSem) (E : ElOps) (f1 : Nat) (Q : AVal → AHeap → Prop) (Y1 : List AVal → AHeap → Prop) (v0 v1 v2 v7 v8 : AVal) (h : AHeap) : Prop :=
 B.pv (V.bin .sub v7 (.int .i64 1)) fun v46 =>
  B.pv (V.bin .sub v7 (.int .i64 1)) fun v49 =>
  B.pv (V.idxS E.es v0 v49) fun v50 =>
  E.ld h v50 fun v51 =>
  B.pv (V.idxS E.es v0 v7) fun v54 =>
  E.ld h v54 fun v55 =>
  B.pv (V.idxS E.es v0 v7) fun v56 =>
  E.st h v56 v51 fun h =>
  B.pv (V.idxS E.es v0 v46) fun v57 =>
  E.st h v57 v55 fun h =>
  slices_partialInsertionSortOrderedG.k6 C E f1 Q Y1 v0 v1 v2 v7 v8 h
@[simp] def slices_partialInsertionSortOrderedG.k8 (C : CSem) (E : ElOps) (f1 : Nat) (Q : AVal → AHeap → Prop) (Y1 : List AVal → AHeap → Prop) (v0 v1 v2 v7 v8 : AVal) (h : AHeap) : Prop :=
 B.pv (V.bin .sub v2 v1) fun v40 =>
  B.pv (V.bin .lss v40 (.int .i64 50)) fun v41 =>
  B.cond v41
  (Q (.bool false) h)
  (slices_partialInsertionSortOrderedG.k7 C E f1 Q Y1 v0 v1 v2 v7 v8 h)
@[simp] def slices_partialInsertionSortOrderedG.k9 (C : CSem) (E : ElOps) (f1 : Nat) (Q : AVal → AHeap → Prop) (Y1 : List AVal → AHeap → Prop) (Y4 : List AVal → AHeap → Prop) (v0 v1 v2 v7 v8 : AVal) (h : AHeap) : Prop :=
 B.pv (V.bin .lss v7 v2) fun v19 =>
  B.gd h v19 true (fun K => K v0 h) fun v21 h =>
  B.gd h v19 true (fun K => K v7 h) fun v22 h =>
  B.gd h v19 true (fun K => B.pv (V.idxS E.es v21 v22) fun v => K v h) fun v23 h =>
  B.gd h v19 true (fun K => E.ld h v23 fun v => K v h) fun v24 h =>
  B.gd h v19 true (fun K => K v0 h) fun v25 h =>
  B.gd h v19 true (fun K => K v7 h) fun v26 h =>
  B.gd h v19 true (fun K => B.pv (V.bin .sub v26 (.int .i64 1)) fun v => K v h) fun v27 h =>
  B.gd h v19 true (fun K => B.pv (V.idxS E.es v25 v27) fun v => K v h) fun v28 h =>
  B.gd h v19 true (fun K => E.ld h v28 fun v => K v h) fun v29 h =>
  B.gd h v19 true (fun K => B.call C f1 [v24, v29] h K) fun v30 h =>
  B.gd h v19 true (fun K => B.pv (V.un .not v30) fun v => K v h) fun v31 h =>
  B.pick v19 v31 (.bool false) fun v32 =>
  B.cond v32
  (B.pv (V.bin .add v7 (.int .i64 1)) fun v34 =>
  Y4 [v34] h)
  (B.pv (V.bin .eql v7 v2) fun v37 =>
  B.cond v37
  (Q (.bool true) h)
  (slices_partialInsertionSortOrderedG.k8 C E f1 Q Y1 v0 v1 v2 v7 v8 h))
@[simp] def slices_partialInsertionSortOrderedG.l10 (C : CSem) (E : ElOps) (f1 : Nat) (Q : AVal → AHeap → Prop) (Y1 : List AVal → AHeap → Prop) (v0 v1 v2 v8 : AVal) : List AVal → AHeap → (List AVal → AHeap → Prop) → Prop
 | [v7], h, Y4 => slices_partialInsertionSortOrderedG.k9 C E f1 Q Y1 Y4 v0 v1 v2 v7 v8 h
 | _, _, _ => False
@[simp] def slices_partialInsertionSortOrderedG.k11 (C : CSem) (E : ElOps) (f1 : Nat) (Q : AVal → AHeap → Prop) (Y1 : List AVal → AHeap → Prop) (v0 v1 v2 v7 v8 : AVal) (h : AHeap) : Prop :=
 B.pv (V.bin .lss v8 (.int .i64 5)) fun v14 =>
  B.cond v14
  (LoopR (slices_partialInsertionSortOrderedG.l10 C E f1 Q Y1 v0 v1 v2 v8) [v7] h)
  (Q (.bool false) h)
@[simp] def slices_partialInsertionSortOrderedG.l12 (C : CSem) (E : ElOps) (f1 : Nat) (Q : AVal → AHeap → Prop) (v0 v1 v2 : AVal) : List AVal → AHeap → (List AVal → AHeap → Prop) → Prop
 | [v7, v8], h, Y1 => slices_partialInsertionSortOrderedG.k11 C E f1 Q Y1 v0 v1 v2 v7 v8 h
 | _, _, _ => False
@[simp] def slices_partialInsertionSortOrderedG.cps (C : CSem) (E : ElOps) (f1 : Nat) (v0 v1 v2 : AVal) (h : AHeap) (Q : AVal → AHeap → Prop) : Prop :=
 B.pv (V.bin .add v1 (.int .i64 1)) fun v12 =>
  LoopR (slices_partialInsertionSortOrderedG.l12 C E f1 Q v0 v1 v2) [v12, (.int .i64 0)] h
@[simp] def slices_partitionEqualOrderedG.k1 (C : CSem) (E : ElOps) (f1 : Nat) (Q : AVal → AHeap → Prop) (Y1 : List AVal → AHeap → Prop) (v0 v1 v9 v10 : AVal) (h : AHeap) : Prop :=
 B.pv (V.bin .gtr v9 v10) fun v64 =>
  B.cond v64
  (Q v9 h)
  (B.pv (V.idxS E.es v0 v10) fun v71 =>
  E.ld h v71 fun v72 =>
  B.pv (V.idxS E.es v0 v9) fun v75 =>
  E.ld h v75 fun v76 =>
  B.pv (V.idxS E.es v0 v9) fun v77 =>
  E.st h v77 v72 fun h =>
  B.pv (V.idxS E.es v0 v10) fun v78 =>
  E.st h v78 v76 fun h =>
  B.pv (V.bin .add v9 (.int .i64 1)) fun v80 =>
  B.pv (V.bin .sub v10 (.int .i64 1)) fun v82 =>
  Y1 [v80, v82] h)
@[simp] def slices_partitionEqualOrderedG.k2 (C : CSem) (E : ElOps) (f1 : Nat) (Q : AVal → AHeap → Prop) (Y1 : List AVal → AHeap → Prop) (Y2 : List AVal → AHeap → Prop) (v0 v1 v9 v10 : AVal) (h : AHeap) : Prop :=
 B.pv (V.bin .leq v9 v10) fun v48 =>
  B.gd h v48 true (fun K => K v0 h) fun v50 h =>
  B.gd h v48 true (fun K => K v1 h) fun v51 h =>
  B.gd h v48 true (fun K => B.pv (V.idxS E.es v50 v51) fun v => K v h) fun v52 h =>
  B.gd h v48 true (fun K => E.ld h v52 fun v => K v h) fun v53 h =>
  B.gd h v48 true (fun K => K v0 h) fun v54 h =>
  B.gd h v48 true (fun K => K v10 h) fun v55 h =>
  B.gd h v48 true (fun K => B.pv (V.idxS E.es v54 v55) fun v => K v h) fun v56 h =>
  B.gd h v48 true (fun K => E.ld h v56 fun v => K v h) fun v57 h =>
  B.gd h v48 true (fun K => B.call C f1 [v53, v57] h K) fun v58 h =>
  B.pick v48 v58 (.bool false) fun v59 =>
  B.cond v59
  (B.pv (V.bin .sub v10 (.int .i64 1)) fun v61 =>
  Y2 [v61] h)
  (slices_partitionEqualOrderedG.k1 C E f1 Q Y1 v0 v1 v9 v10 h)
@[simp] def slices_partitionEqualOrderedG.l3 (C : CSem) (E : ElOps) (f1 : Nat) (Q : AVal → AHeap → Prop) (Y1 : List AVal → AHeap → Prop) (v0 v1 v9 : AVal) : List AVal → AHeap → (List AVal → AHeap → Prop) → Prop
 | [v10], h, Y2 => slices_partitionEqualOrderedG.k2 C E f1 Q Y1 Y2 v0 v1 v9 v10 h
 | _, _, _ => False
@[simp] def slices_partitionEqualOrderedG.k4 (C : CSem) (E : ElOps) (f1 : Nat) (Q : AVal → AHeap → Prop) (Y1 : List AVal → AHeap → Prop) (Y3 : List AVal → AHeap → Prop) (v0 v1 v9 v10 : AVal) (h : AHeap) : Prop :=
 B.pv (V.bin .leq v9 v10) fun v31 =>
  B.gd h v31 true (fun K => K v0 h) fun v33 h =>
  B.gd h v31 true (fun K => K v1 h) fun v34 h =>
  B.gd h v31 true (fun K => B.pv (V.idxS E.es v33 v34) fun v => K v h) fun v35 h =>
  B.gd h v31 true (fun K => E.ld h v35 fun v => K v h) fun v36 h =>
  B.gd h v31 true (fun K => K v0 h) fun v37 h =>
  B.gd h v31 true (fun K => K v9 h) fun v38 h =>
  B.gd h v31 true (fun K => B.pv (V.idxS E.es v37 v38) fun v => K v h) fun v39 h =>
  B.gd h v31 true (fun K => E.ld h v39 fun v => K v h) fun v40 h =>
  B.gd h v31 true (fun K => B.call C f1 [v36, v40] h K) fun v41 h =>
  B.gd h v31 true (fun K => B.pv (V.un .not v41) fun v => K v h) fun v42 h =>
  B.pick v31 v42 (.bool false) fun v43 =>
  B.cond v43
  (B.pv (V.bin .add v9 (.int .i64 1)) fun v45 =>
  Y3 [v45] h)
  (LoopR (slices_partitionEqualOrderedG.l3 C E f1 Q Y1 v0 v1 v9) [v10] h)
@[simp] def slices_partitionEqualOrderedG.l5 (C : CSem) (E : ElOps) (f1 : Nat) (Q : AVal → AHeap → Prop) (Y1 : List AVal → AHeap → Prop) (v0 v1 v10 : AVal) : List AVal → AHeap → (List AVal → AHeap → Prop) → Prop
 | [v9], h, Y3 => slices_partitionEqualOrderedG.k4 C E f1 Q Y1 Y3 v0 v1 v9 v10 h
 | _, _, _ => False
@[simp] def slices_partitionEqualOrderedG.l6 (C : CSem) (E : ElOps) (f1 : Nat) (Q : AVal → AHeap → Prop) (v0 v1 : AVal) : List AVal → AHeap → (List AVal → AHeap → Prop) → Prop
 | [v9, v10], h, Y1 => LoopR (slices_partitionEqualOrderedG.l5 C E f1 Q Y1 v0 v1 v10) [v9] h
 | _, _, _ => False
@[simp] def slices_partitionEqualOrderedG.k7 (C : CSem) (E : ElOps) (f1 : Nat) (Q : AVal → AHeap → Prop) (v0 v1 v2 : AVal) (h : AHeap) : Prop :=
 B.pv (V.bin .add v1 (.int .i64 1)) fun v26 =>
  B.pv (V.bin .sub v2 (.int .i64 1)) fun v28 =>
  LoopR (slices_partitionEqualOrderedG.l6 C E f1 Q v0 v1) [v26, v28] h
@[simp] def slices_partitionEqualOrderedG.k8 (C : CSem) (E : ElOps) (f1 : Nat) (Q : AVal → AHeap → Prop) (v0 v1 v2 v3 : AVal) (h : AHeap) : Prop :=
 B.pv (V.idxS E.es v0 v3) fun v17 =>
  E.ld h v17 fun v18 =>
  B.pv (V.idxS E.es v0 v1) fun v21 =>
  E.ld h v21 fun v22 =>
  B.pv (V.idxS E.es v0 v1) fun v23 =>
  E.st h v23 v18 fun h =>
  B.pv (V.idxS E.es v0 v3) fun v24 =>
  E.st h v24 v22 fun h =>
  slices_partitionEqualOrderedG.k7 C E f1 Q v0 v1 v2 h
@[simp] def slices_partitionEqualOrderedG.cps (C : CSem) (E : ElOps) (f1 : Nat) (v0 v1 v2 v3 : AVal) (h : AHeap) (Q : AVal → AHeap → Prop) : Prop :=
 slices_partitionEqualOrderedG.k8 C E f1 Q v0 v1 v2 v3 h
@[simp] def slices_partitionOrderedG.k1 (C : CSem) (E : ElOps) (f1 : Nat) (Q : AVal → AHeap → Prop) (v0 v1 v11 : AVal) (h : AHeap) : Prop :=
 B.pv (V.idxS E.es v0 v1) fun v159 =>
  E.ld h v159 fun v160 =>
  B.pv (V.idxS E.es v0 v11) fun v163 =>
  E.ld h v163 fun v164 =>
  B.pv (V.idxS E.es v0 v11) fun v165 =>
  E.st h v165 v160 fun h =>
  B.pv (V.idxS E.es v0 v1) fun v166 =>
  E.st h v166 v164 fun h =>
  Q (.tup [v11, (.bool false)]) h
@[simp] def slices_partitionOrderedG.k2 (C : CSem) (E : ElOps) (f1 : Nat) (Q : AVal → AHeap → Prop) (Y1 : List AVal → AHeap → Prop) (v0 v1 v10 v11 : AVal) (h : AHeap) : Prop :=
 B.pv (V.bin .gtr v10 v11) fun v134 =>
  B.cond v134
  (slices_partitionOrderedG.k1 C E f1 Q v0 v1 v11 h)
  (B.pv (V.idxS E.es v0 v11) fun v141 =>
  E.ld h v141 fun v142 =>
  B.pv (V.idxS E.es v0 v10) fun v145 =>
  E.ld h v145 fun v146 =>
  B.pv (V.idxS E.es v0 v10) fun v147 =>
  E.st h v147 v142 fun h =>
  B.pv (V.idxS E.es v0 v11) fun v148 =>
  E.st h v148 v146 fun h =>
  B.pv (V.bin .add v10 (.int .i64 1)) fun v150 =>
  B.pv (V.bin .sub v11 (.int .i64 1)) fun v152 =>
  Y1 [v150, v152] h)
@[simp] def slices_partitionOrderedG.k3 (C : CSem) (E : ElOps) (f1 : Nat) (Q : AVal → AHeap → Prop) (Y1 : List AVal → AHeap → Prop) (Y2 : List AVal → AHeap → Prop) (v0 v1 v10 v11 : AVal) (h : AHeap) : Prop :=
 B.pv (V.bin .leq v10 v11) fun v117 =>
  B.gd h v117 true (fun K => K v0 h) fun v119 h =>
  B.gd h v117 true (fun K => K v11 h) fun v120 h =>
  B.gd h v117 true (fun K => B.pv (V.idxS E.es v119 v120) fun v => K v h) fun v121 h =>
  B.gd h v117 true (fun K => E.ld h v121 fun v => K v h) fun v122 h =>
  B.gd h v117 true (fun K => K v0 h) fun v123 h =>
  B.gd h v117 true (fun K => K v1 h) fun v124 h =>
  B.gd h v117 true (fun K => B.pv (V.idxS E.es v123 v124) fun v => K v h) fun v125 h =>
  B.gd h v117 true (fun K => E.ld h v125 fun v => K v h) fun v126 h =>
  B.gd h v117 true (fun K => B.call C f1 [v122, v126] h K) fun v127 h =>
  B.gd h v117 true (fun K => B.pv (V.un .not v127) fun v => K v h) fun v128 h =>
  B.pick v117 v128 (.bool false) fun v129 =>
  B.cond v129
  (B.pv (V.bin .sub v11 (.int .i64 1)) fun v131 =>
  Y2 [v131] h)
  (slices_partitionOrderedG.k2 C E f1 Q Y1 v0 v1 v10 v11 h)
@[simp] def slices_partitionOrderedG.l4 (C : CSem) (E : ElOps) (f1 : Nat) (Q : AVal → AHeap → Prop) (Y1 : List AVal → AHeap → Prop) (v0 v1 v10 : AVal) : List AVal → AHeap → (List AVal → AHeap → Prop) → Prop
 | [v11], h, Y2 => slices_partitionOrderedG.k3 C E f1 Q Y1 Y2 v0 v1 v10 v11 h
 | _, _, _ => False
@[simp] def slices_partitionOrderedG.k5 (C : CSem) (E : ElOps) (f1 : Nat) (Q : AVal → AHeap → Prop) (Y1 : List AVal → AHeap → Prop) (Y3 : List AVal → AHeap → Prop) (v0 v1 v10 v11 : AVal) (h : AHeap) : Prop :=
 B.pv (V.bin .leq v10 v11) fun v101 =>
  B.gd h v101 true (fun K => K v0 h) fun v103 h =>
  B.gd h v101 true (fun K => K v10 h) fun v104 h =>
  B.gd h v101 true (fun K => B.pv (V.idxS E.es v103 v104) fun v => K v h) fun v105 h =>
  B.gd h v101 true (fun K => E.ld h v105 fun v => K v h) fun v106 h =>
  B.gd h v101 true (fun K => K v0 h) fun v107 h =>
  B.gd h v101 true (fun K => K v1 h) fun v108 h =>
  B.gd h v101 true (fun K => B.pv (V.idxS E.es v107 v108) fun v => K v h) fun v109 h =>
  B.gd h v101 true (fun K => E.ld h v109 fun v => K v h) fun v110 h =>
  B.gd h v101 true (fun K => B.call C f1 [v106, v110] h K) fun v111 h =>
  B.pick v101 v111 (.bool false) fun v112 =>
  B.cond v112
  (B.pv (V.bin .add v10 (.int .i64 1)) fun v114 =>
  Y3 [v114] h)
  (LoopR (slices_partitionOrderedG.l4 C E f1 Q Y1 v0 v1 v10) [v11] h)
@[simp] def slices_partitionOrderedG.l6 (C : CSem) (E : ElOps) (f1 : Nat) (Q : AVal → AHeap → Prop) (Y1 : List AVal → AHeap → Prop) (v0 v1 v11 : AVal) : List AVal → AHeap → (List AVal → AHeap → Prop) → Prop
 | [v10], h, Y3 => slices_partitionOrderedG.k5 C E f1 Q Y1 Y3 v0 v1 v10 v11 h
 | _, _, _ => False
@[simp] def slices_partitionOrderedG.l7 (C : CSem) (E : ElOps) (f1 : Nat) (Q : AVal → AHeap → Prop) (v0 v1 : AVal) : List AVal → AHeap → (List AVal → AHeap → Prop) → Prop
 | [v10, v11], h, Y1 => LoopR (slices_partitionOrderedG.l6 C E f1 Q Y1 v0 v1 v11) [v10] h
 | _, _, _ => False
@[simp] def slices_partitionOrderedG.k8 (C : CSem) (E : ElOps) (f1 : Nat) (Q : AVal → AHeap → Prop) (v0 v1 v10 v11 : AVal) (h : AHeap) : Prop :=
 B.pv (V.bin .add v10 (.int .i64 1)) fun v96 =>
  B.pv (V.bin .sub v11 (.int .i64 1)) fun v98 =>
  LoopR (slices_partitionOrderedG.l7 C E f1 Q v0 v1) [v96, v98] h
@[simp] def slices_partitionOrderedG.k9 (C : CSem) (E : ElOps) (f1 : Nat) (Q : AVal → AHeap → Prop) (v0 v1 v10 v11 : AVal) (h : AHeap) : Prop :=
 B.pv (V.idxS E.es v0 v11) fun v87 =>
  E.ld h v87 fun v88 =>
  B.pv (V.idxS E.es v0 v10) fun v91 =>
  E.ld h v91 fun v92 =>
  B.pv (V.idxS E.es v0 v10) fun v93 =>
  E.st h v93 v88 fun h =>
  B.pv (V.idxS E.es v0 v11) fun v94 =>
  E.st h v94 v92 fun h =>
  slices_partitionOrderedG.k8 C E f1 Q v0 v1 v10 v11 h
@[simp] def slices_partitionOrderedG.k10 (C : CSem) (E : ElOps) (f1 : Nat) (Q : AVal → AHeap → Prop) (v0 v1 v10 v11 : AVal) (h : AHeap) : Prop :=
 B.pv (V.bin .gtr v10 v11) fun v65 =>
  B.cond v65
  (B.pv (V.idxS E.es v0 v1) fun v72 =>
  E.ld h v72 fun v73 =>
  B.pv (V.idxS E.es v0 v11) fun v76 =>
  E.ld h v76 fun v77 =>
  B.pv (V.idxS E.es v0 v11) fun v78 =>
  E.st h v78 v73 fun h =>
  B.pv (V.idxS E.es v0 v1) fun v79 =>
  E.st h v79 v77 fun h =>
  Q (.tup [v11, (.bool true)]) h)
  (slices_partitionOrderedG.k9 C E f1 Q v0 v1 v10 v11 h)
@[simp] def slices_partitionOrderedG.k11 (C : CSem) (E : ElOps) (f1 : Nat) (Q : AVal → AHeap → Prop) (Y4 : List AVal → AHeap → Prop) (v0 v1 v10 v11 : AVal) (h : AHeap) : Prop :=
 B.pv (V.bin .leq v10 v11) fun v48 =>
  B.gd h v48 true (fun K => K v0 h) fun v50 h =>
  B.gd h v48 true (fun K => K v11 h) fun v51 h =>
  B.gd h v48 true (fun K => B.pv (V.idxS E.es v50 v51) fun v => K v h) fun v52 h =>
  B.gd h v48 true (fun K => E.ld h v52 fun v => K v h) fun v53 h =>
  B.gd h v48 true (fun K => K v0 h) fun v54 h =>
  B.gd h v48 true (fun K => K v1 h) fun v55 h =>
  B.gd h v48 true (fun K => B.pv (V.idxS E.es v54 v55) fun v => K v h) fun v56 h =>
  B.gd h v48 true (fun K => E.ld h v56 fun v => K v h) fun v57 h =>
  B.gd h v48 true (fun K => B.call C f1 [v53, v57] h K) fun v58 h =>
  B.gd h v48 true (fun K => B.pv (V.un .not v58) fun v => K v h) fun v59 h =>
  B.pick v48 v59 (.bool false) fun v60 =>
  B.cond v60
  (B.pv (V.bin .sub v11 (.int .i64 1)) fun v62 =>
  Y4 [v62] h)
  (slices_partitionOrderedG.k10 C E f1 Q v0 v1 v10 v11 h)
@[simp] def slices_partitionOrderedG.l12 (C : CSem) (E : ElOps) (f1 : Nat) (Q : AVal → AHeap → Prop) (v0 v1 v10 : AVal) : List AVal → AHeap → (List AVal → AHeap → Prop) → Prop
 | [v11], h, Y4 => slices_partitionOrderedG.k11 C E f1 Q Y4 v0 v1 v10 v11 h
 | _, _, _ => False
@[simp] def slices_partitionOrderedG.k13 (C : CSem) (E : ElOps) (f1 : Nat) (Q : AVal → AHeap → Prop) (Y5 : List AVal → AHeap → Prop) (v0 v1 v10 v11 : AVal) (h : AHeap) : Prop :=
 B.pv (V.bin .leq v10 v11) fun v32 =>
  B.gd h v32 true (fun K => K v0 h) fun v34 h =>
  B.gd h v32 true (fun K => K v10 h) fun v35 h =>
  B.gd h v32 true (fun K => B.pv (V.idxS E.es v34 v35) fun v => K v h) fun v36 h =>
  B.gd h v32 true (fun K => E.ld h v36 fun v => K v h) fun v37 h =>
  B.gd h v32 true (fun K => K v0 h) fun v38 h =>
  B.gd h v32 true (fun K => K v1 h) fun v39 h =>
  B.gd h v32 true (fun K => B.pv (V.idxS E.es v38 v39) fun v => K v h) fun v40 h =>
  B.gd h v32 true (fun K => E.ld h v40 fun v => K v h) fun v41 h =>
  B.gd h v32 true (fun K => B.call C f1 [v37, v41] h K) fun v42 h =>
  B.pick v32 v42 (.bool false) fun v43 =>
  B.cond v43
  (B.pv (V.bin .add v10 (.int .i64 1)) fun v45 =>
  Y5 [v45] h)
  (LoopR (slices_partitionOrderedG.l12 C E f1 Q v0 v1 v10) [v11] h)
@[simp] def slices_partitionOrderedG.l14 (C : CSem) (E : ElOps) (f1 : Nat) (Q : AVal → AHeap → Prop) (v0 v1 v11 : AVal) : List AVal → AHeap → (List AVal → AHeap → Prop) → Prop
 | [v10], h, Y5 => slices_partitionOrderedG.k13 C E f1 Q Y5 v0 v1 v10 v11 h
 | _, _, _ => False
@[simp] def slices_partitionOrderedG.k15 (C : CSem) (E : ElOps) (f1 : Nat) (Q : AVal → AHeap → Prop) (v0 v1 v2 : AVal) (h : AHeap) : Prop :=
 B.pv (V.bin .add v1 (.int .i64 1)) fun v27 =>
  B.pv (V.bin .sub v2 (.int .i64 1)) fun v29 =>
  LoopR (slices_partitionOrderedG.l14 C E f1 Q v0 v1 v29) [v27] h
@[simp] def slices_partitionOrderedG.k16 (C : CSem) (E : ElOps) (f1 : Nat) (Q : AVal → AHeap → Prop) (v0 v1 v2 v3 : AVal) (h : AHeap) : Prop :=
 B.pv (V.idxS E.es v0 v3) fun v18 =>
  E.ld h v18 fun v19 =>
  B.pv (V.idxS E.es v0 v1) fun v22 =>
  E.ld h v22 fun v23 =>
  B.pv (V.idxS E.es v0 v1) fun v24 =>
  E.st h v24 v19 fun h =>
  B.pv (V.idxS E.es v0 v3) fun v25 =>
  E.st h v25 v23 fun h =>
  slices_partitionOrderedG.k15 C E f1 Q v0 v1 v2 h
@[simp] def slices_partitionOrderedG.cps (C : CSem) (E : ElOps) (f1 : Nat) (v0 v1 v2 v3 : AVal) (h : AHeap) (Q : AVal → AHeap → Prop) : Prop :=
 slices_partitionOrderedG.k16 C E f1 Q v0 v1 v2 v3 h
@[simp] def slices_siftDownOrderedG.k1 (C : CSem) (E : ElOps) (f1 : Nat) (Q : AVal → AHeap → Prop) (Y1 : List AVal → AHeap → Prop) (v0 v2 v3 v8 v9 : AVal) (h : AHeap) : Prop :=
 B.pv (V.bin .add v3 v8) fun v42 =>
  B.pv (V.idxS E.es v0 v42) fun v43 =>
  E.ld h v43 fun v44 =>
  B.pv (V.bin .add v3 v9) fun v48 =>
  B.pv (V.idxS E.es v0 v48) fun v49 =>
  E.ld h v49 fun v50 =>
  B.call C f1 [v44, v50] h fun v51 h =>
  B.pv (V.un .not v51) fun v52 =>
  B.cond v52
  (Q (.tup []) h)
  (B.pv (V.bin .add v3 v8) fun v56 =>
  B.pv (V.bin .add v3 v9) fun v60 =>
  B.pv (V.bin .add v3 v9) fun v64 =>
  B.pv (V.idxS E.es v0 v64) fun v65 =>
  E.ld h v65 fun v66 =>
  B.pv (V.bin .add v3 v8) fun v70 =>
  B.pv (V.idxS E.es v0 v70) fun v71 =>
  E.ld h v71 fun v72 =>
  B.pv (V.idxS E.es v0 v56) fun v73 =>
  E.st h v73 v66 fun h =>
  B.pv (V.idxS E.es v0 v60) fun v74 =>
  E.st h v74 v72 fun h =>
  Y1 [v9] h)
@[simp] def slices_siftDownOrderedG.k2 (C : CSem) (E : ElOps) (f1 : Nat) (Q : AVal → AHeap → Prop) (Y1 : List AVal → AHeap → Prop) (v0 v2 v3 v8 v9 : AVal) (h : AHeap) : Prop :=
 B.pv (V.bin .add v9 (.int .i64 1)) fun v18 =>
  B.pv (V.bin .lss v18 v2) fun v20 =>
  B.gd h v20 true (fun K => K v0 h) fun v22 h =>
  B.gd h v20 true (fun K => K v3 h) fun v23 h =>
  B.gd h v20 true (fun K => K v9 h) fun v24 h =>
  B.gd h v20 true (fun K => B.pv (V.bin .add v23 v24) fun v => K v h) fun v25 h =>
  B.gd h v20 true (fun K => B.pv (V.idxS E.es v22 v25) fun v => K v h) fun v26 h =>
  B.gd h v20 true (fun K => E.ld h v26 fun v => K v h) fun v27 h =>
  B.gd h v20 true (fun K => K v0 h) fun v28 h =>
  B.gd h v20 true (fun K => K v3 h) fun v29 h =>
  B.gd h v20 true (fun K => K v9 h) fun v30 h =>
  B.gd h v20 true (fun K => B.pv (V.bin .add v29 v30) fun v => K v h) fun v31 h =>
  B.gd h v20 true (fun K => B.pv (V.bin .add v31 (.int .i64 1)) fun v => K v h) fun v32 h =>
  B.gd h v20 true (fun K => B.pv (V.idxS E.es v28 v32) fun v => K v h) fun v33 h =>
  B.gd h v20 true (fun K => E.ld h v33 fun v => K v h) fun v34 h =>
  B.gd h v20 true (fun K => B.call C f1 [v27, v34] h K) fun v35 h =>
  B.pick v20 v35 (.bool false) fun v36 =>
  B.cond v36
  (B.pv (V.bin .add v9 (.int .i64 1)) fun v38 =>
  slices_siftDownOrderedG.k1 C E f1 Q Y1 v0 v2 v3 v8 v38 h)
  (slices_siftDownOrderedG.k1 C E f1 Q Y1 v0 v2 v3 v8 v9 h)
@[simp] def slices_siftDownOrderedG.k3 (C : CSem) (E : ElOps) (f1 : Nat) (Q : AVal → AHeap → Prop) (Y1 : List AVal → AHeap → Prop) (v0 v2 v3 v8 : AVal) (h : AHeap) : Prop :=
 B.pv (V.bin .mul (.int .i64 2) v8) fun v12 =>
  B.pv (V.bin .add v12 (.int .i64 1)) fun v13 =>
  B.pv (V.bin .geq v13 v2) fun v16 =>
  B.cond v16
  (Q (.tup []) h)
  (slices_siftDownOrderedG.k2 C E f1 Q Y1 v0 v2 v3 v8 v13 h)
@[simp] def slices_siftDownOrderedG.l4 (C : CSem) (E : ElOps) (f1 : Nat) (Q : AVal → AHeap → Prop) (v0 v2 v3 : AVal) : List AVal → AHeap → (List AVal → AHeap → Prop) → Prop
 | [v8], h, Y1 => slices_siftDownOrderedG.k3 C E f1 Q Y1 v0 v2 v3 v8 h
 | _, _, _ => False
@[simp] def slices_siftDownOrderedG.cps (C : CSem) (E : ElOps) (f1 : Nat) (v0 v1 v2 v3 : AVal) (h : AHeap) (Q : AVal → AHeap → Prop) : Prop :=
 LoopR (slices_siftDownOrderedG.l4 C E f1 Q v0 v2 v3) [v1] h
@[simp] def slices_medianAdjacentOrderedG.cps (C : CSem) (E : ElOps) (f1 : Nat) (v0 v1 v2 : AVal) (h : AHeap) (Q : AVal → AHeap → Prop) : Prop :=
 B.pv (V.bin .sub v1 (.int .i64 1)) fun v9 =>
  B.pv (V.bin .add v1 (.int .i64 1)) fun v12 =>
  B.call C f1 [v0, v9, v1, v12, v2] h fun v14 h =>
  Q v14 h
@[simp] def slices_medianOrderedG.k1 (C : CSem) (E : ElOps) (f1 : Nat) (Q : AVal → AHeap → Prop) (v0 v1 v2 v3 v4 : AVal) (h : AHeap) : Prop :=
 B.call C f1 [v0, v1, v2, v4] h fun v16 h =>
  B.pv (V.ext 0 v16) fun v17 =>
  B.pv (V.ext 1 v16) fun v18 =>
  B.call C f1 [v0, v18, v3, v4] h fun v24 h =>
  B.pv (V.ext 0 v24) fun v25 =>
  B.pv (V.ext 1 v24) fun v26 =>
  B.call C f1 [v0, v17, v25, v4] h fun v32 h =>
  B.pv (V.ext 0 v32) fun v33 =>
  B.pv (V.ext 1 v32) fun v34 =>
  Q v34 h
@[simp] def slices_medianOrderedG.cps (C : CSem) (E : ElOps) (f1 : Nat) (v0 v1 v2 v3 v4 : AVal) (h : AHeap) (Q : AVal → AHeap → Prop) : Prop :=
 slices_medianOrderedG.k1 C E f1 Q v0 v1 v2 v3 v4 h
@[simp] def slices_order2OrderedG.k1 (C : CSem) (E : ElOps) (f1 : Nat) (Q : AVal → AHeap → Prop) (v0 v1 v2 v3 : AVal) (h : AHeap) : Prop :=
 B.pv (V.idxS E.es v0 v2) fun v12 =>
  E.ld h v12 fun v13 =>
  B.pv (V.idxS E.es v0 v1) fun v16 =>
  E.ld h v16 fun v17 =>
  B.call C f1 [v13, v17] h fun v18 h =>
  B.cond v18
  (B.nilCheck v3 fun v20 =>
  B.ld h v20 fun v21 =>
  B.pv (V.bin .add v21 (.int .i64 1)) fun v22 =>
  B.nilCheck v3 fun v23 =>
  B.st h v23 v22 fun h =>
  Q (.tup [v2, v1]) h)
  (Q (.tup [v1, v2]) h)
@[simp] def slices_order2OrderedG.cps (C : CSem) (E : ElOps) (f1 : Nat) (v0 v1 v2 v3 : AVal) (h : AHeap) (Q : AVal → AHeap → Prop) : Prop :=
 slices_order2OrderedG.k1 C E f1 Q v0 v1 v2 v3 h
@[simp] def slices_ConcatG.k1 (C : CSem) (E : ElOps) (f1 : Nat) (Q : AVal → AHeap → Prop) (Y1 : List AVal → AHeap → Prop) (v6 v25 v26 v27 : AVal) (h : AHeap) : Prop :=
 B.pv (V.bin .lss v27 v26) fun v28 =>
  B.cond v28
  (B.pv (V.idxS E.es v25 v27) fun v29 =>
  E.ld h v29 fun v30 =>
  B.appW h 1 16 v6 v30 fun v33 h =>
  B.pv (V.bin .add v27 (.int .i64 1)) fun v34 =>
  Y1 [v33, v34] h)
  (Q v6 h)
@[simp] def slices_ConcatG.l2 (C : CSem) (E : ElOps) (f1 : Nat) (Q : AVal → AHeap → Prop) (v25 v26 : AVal) : List AVal → AHeap → (List AVal → AHeap → Prop) → Prop
 | [v6, v27], h, Y1 => slices_ConcatG.k1 C E f1 Q Y1 v6 v25 v26 v27 h
 | _, _, _ => False
@[simp] def slices_ConcatG.k3 (C : CSem) (E : ElOps) (f1 : Nat) (Q : AVal → AHeap → Prop) (Y2 : List AVal → AHeap → Prop) (v0 v3 v9 v10 v11 : AVal) (h : AHeap) : Prop :=
 B.pv (V.bin .lss v11 v10) fun v12 =>
  B.cond v12
  (B.pv (V.idxS E.es v9 v11) fun v13 =>
  E.ld h v13 fun v14 =>
  B.pv (V.lenSl v14) fun v17 =>
  B.pv (V.bin .add v3 v17) fun v18 =>
  B.pv (V.bin .lss v18 (.int .i64 0)) fun v20 =>
  B.cond v20
  (False)
  (B.pv (V.bin .add v11 (.int .i64 1)) fun v22 =>
  Y2 [v18, v22] h))
  (B.call C f1 [.nils, v3] h fun v24 h =>
  B.pv (V.lenSl v0) fun v26 =>
  LoopR (slices_ConcatG.l2 C E f1 Q v0 v26) [v24, (.int .i64 0)] h)
@[simp] def slices_ConcatG.l4 (C : CSem) (E : ElOps) (f1 : Nat) (Q : AVal → AHeap → Prop) (v0 v9 v10 : AVal) : List AVal → AHeap → (List AVal → AHeap → Prop) → Prop
 | [v3, v11], h, Y2 => slices_ConcatG.k3 C E f1 Q Y2 v0 v3 v9 v10 v11 h
 | _, _, _ => False
@[simp] def slices_ConcatG.cps (C : CSem) (E : ElOps) (f1 : Nat) (v0 : AVal) (h : AHeap) (Q : AVal → AHeap → Prop) : Prop :=
 B.pv (V.lenSl v0) fun v10 =>
  LoopR (slices_ConcatG.l4 C E f1 Q v0 v0 v10) [(.int .i64 0), (.int .i64 0)] h
@[simp] def slices_GrowG.k1 (C : CSem) (E : ElOps) (Q : AVal → AHeap → Prop) (v0 v1 : AVal) (h : AHeap) : Prop :=
 B.pv (V.capSl v0) fun v10 =>
  B.pv (V.lenSl v0) fun v12 =>
  B.pv (V.bin .sub v10 v12) fun v13 =>
  B.pv (V.bin .sub v1 v13) fun v14 =>
  B.pv (V.bin .gtr v14 (.int .i64 0)) fun v16 =>
  B.cond v16
  (B.pv (V.capSl v0) fun v19 =>
  B.pv (V.cutSl E.es v0 none (some v19)) fun v20 =>
  B.appZ h E.es E.bytes E.z v20 v14 fun v22 h =>
  B.pv (V.lenSl v0) fun v24 =>
  B.pv (V.cutSl E.es v22 none (some v24)) fun v25 =>
  Q v25 h)
  (Q v0 h)
@[simp] def slices_GrowG.cps (C : CSem) (E : ElOps) (v0 v1 : AVal) (h : AHeap) (Q : AVal → AHeap → Prop) : Prop :=
 B.pv (V.bin .lss v1 (.int .i64 0)) fun v6 =>
  B.cond v6
  (False)
  (slices_GrowG.k1 C E Q v0 v1 h)
end Go.Ab
namespace Go.Ab
@[simp] def slices_xorshift_Next.k1 (C : CSem) (N : Nat → Nat) (Q : AVal → AHeap → Prop) (v0 : AVal) (h : AHeap) : Prop :=
 B.nilCheck v0 fun v4 =>
  B.ld h v4 fun v5 =>
  B.nilCheck v0 fun v7 =>
  B.ld h v7 fun v8 =>
  B.pv (V.bin .shl v8 (.int .u64 13)) fun v9 =>
  B.pv (V.bin .xor v5 v9) fun v10 =>
  B.nilCheck v0 fun v11 =>
  B.st h v11 v10 fun h =>
  B.nilCheck v0 fun v13 =>
  B.ld h v13 fun v14 =>
  B.nilCheck v0 fun v16 =>
  B.ld h v16 fun v17 =>
  B.pv (V.bin .shr v17 (.int .u64 7)) fun v18 =>
  B.pv (V.bin .xor v14 v18) fun v19 =>
  B.nilCheck v0 fun v20 =>
  B.st h v20 v19 fun h =>
  B.nilCheck v0 fun v22 =>
  B.ld h v22 fun v23 =>
  B.nilCheck v0 fun v25 =>
  B.ld h v25 fun v26 =>
  B.pv (V.bin .shl v26 (.int .u64 17)) fun v27 =>
  B.pv (V.bin .xor v23 v27) fun v28 =>
  B.nilCheck v0 fun v29 =>
  B.st h v29 v28 fun h =>
  B.nilCheck v0 fun v31 =>
  B.ld h v31 fun v32 =>
  Q v32 h
@[simp] def slices_xorshift_Next.cps (C : CSem) (N : Nat → Nat) (v0 : AVal) (h : AHeap) (Q : AVal → AHeap → Prop) : Prop :=
 slices_xorshift_Next.k1 C N Q v0 h
def slices_xorshift_Next.Imp (C : CSem) (N : Nat → Nat) : Prop := ∀ (v0 : AVal) (h : AHeap) (Q : AVal → AHeap → Prop), slices_xorshift_Next.cps C N v0 h (dn Q) → C (N 298) [v0] h Q
@[simp] def slices_nextPowerOfTwo.cps (C : CSem) (N : Nat → Nat) (v0 : AVal) (h : AHeap) (Q : AVal → AHeap → Prop) : Prop :=
 B.pv (V.toInt .u64 v0) fun v4 =>
  B.call C (N 287) [v4] h fun v5 h =>
  B.pv (V.bin .shl (.int .u64 1) v5) fun v6 =>
  Q v6 h
def slices_nextPowerOfTwo.Imp (C : CSem) (N : Nat → Nat) : Prop := ∀ (v0 : AVal) (h : AHeap) (Q : AVal → AHeap → Prop), slices_nextPowerOfTwo.cps C N v0 h (dn Q) → C (N 299) [v0] h Q
def slices_Sort_string_string.cps (C : CSem) (N : Nat → Nat) (v0 : AVal) (h : AHeap) (Q : AVal → AHeap → Prop) : Prop :=
 slices_SortG.cps C (opsS 16 (.str []) 0) (N 287) (N 375) v0 h Q
def slices_Sort_string_string.Imp (C : CSem) (N : Nat → Nat) : Prop := ∀ (v0 : AVal) (h : AHeap) (Q : AVal → AHeap → Prop), slices_Sort_string_string.cps C N v0 h (dn Q) → C (N 364) [v0] h Q
def slices_Compact_string_string.cps (C : CSem) (N : Nat → Nat) (v0 : AVal) (h : AHeap) (Q : AVal → AHeap → Prop) : Prop :=
 slices_CompactG.cps C (opsS 16 (.str []) 0) v0 h Q
def slices_Compact_string_string.Imp (C : CSem) (N : Nat → Nat) : Prop := ∀ (v0 : AVal) (h : AHeap) (Q : AVal → AHeap → Prop), slices_Compact_string_string.cps C N v0 h (dn Q) → C (N 365) [v0] h Q
def slices_IndexFunc_api_Item_api_Item.cps (C : CSem) (N : Nat → Nat) (v0 v1 : AVal) (h : AHeap) (Q : AVal → AHeap → Prop) : Prop :=
 slices_IndexFuncG.cps C (opsF 4 72 [.str [], .int .i64 0, .nils, .nils] 0 []) v0 v1 h Q
def slices_IndexFunc_api_Item_api_Item.Imp (C : CSem) (N : Nat → Nat) : Prop := ∀ (v0 v1 : AVal) (h : AHeap) (Q : AVal → AHeap → Prop), slices_IndexFunc_api_Item_api_Item.cps C N v0 v1 h (dn Q) → C (N 367) [v0, v1] h Q
def slices_Concat_string_string.cps (C : CSem) (N : Nat → Nat) (v0 : AVal) (h : AHeap) (Q : AVal → AHeap → Prop) : Prop :=
 slices_ConcatG.cps C (opsS 24 (.nils) 0) (N 376) v0 h Q
def slices_Concat_string_string.Imp (C : CSem) (N : Nat → Nat) : Prop := ∀ (v0 : AVal) (h : AHeap) (Q : AVal → AHeap → Prop), slices_Concat_string_string.cps C N v0 h (dn Q) → C (N 373) [v0] h Q
def slices_pdqsortOrdered_string.cps (C : CSem) (N : Nat → Nat) (v0 v1 v2 v3 : AVal) (h : AHeap) (Q : AVal → AHeap → Prop) : Prop :=
 slices_pdqsortOrderedG.cps C (opsS 16 (.str []) 0) (N 377) (N 378) (N 379) (N 375) (N 380) (N 381) (N 382) (N 383) (N 384) (N 385) v0 v1 v2 v3 h Q
def slices_pdqsortOrdered_string.Imp (C : CSem) (N : Nat → Nat) : Prop := ∀ (v0 v1 v2 v3 : AVal) (h : AHeap) (Q : AVal → AHeap → Prop), slices_pdqsortOrdered_string.cps C N v0 v1 v2 v3 h (dn Q) → C (N 375) [v0, v1, v2, v3] h Q
def slices_Grow_string_string.cps (C : CSem) (N : Nat → Nat) (v0 v1 : AVal) (h : AHeap) (Q : AVal → AHeap → Prop) : Prop :=
 slices_GrowG.cps C (opsS 16 (.str []) 0) v0 v1 h Q
def slices_Grow_string_string.Imp (C : CSem) (N : Nat → Nat) : Prop := ∀ (v0 v1 : AVal) (h : AHeap) (Q : AVal → AHeap → Prop), slices_Grow_string_string.cps C N v0 v1 h (dn Q) → C (N 376) [v0, v1] h Q
def slices_partitionEqualOrdered_string.cps (C : CSem) (N : Nat → Nat) (v0 v1 v2 v3 : AVal) (h : AHeap) (Q : AVal → AHeap → Prop) : Prop :=
 slices_partitionEqualOrderedG.cps C (opsS 16 (.str []) 0) (N 377) v0 v1 v2 v3 h Q
def slices_partitionEqualOrdered_string.Imp (C : CSem) (N : Nat → Nat) : Prop := ∀ (v0 v1 v2 v3 : AVal) (h : AHeap) (Q : AVal → AHeap → Prop), slices_partitionEqualOrdered_string.cps C N v0 v1 v2 v3 h (dn Q) → C (N 378) [v0, v1, v2, v3] h Q
def slices_partitionOrdered_string.cps (C : CSem) (N : Nat → Nat) (v0 v1 v2 v3 : AVal) (h : AHeap) (Q : AVal → AHeap → Prop) : Prop :=
 slices_partitionOrderedG.cps C (opsS 16 (.str []) 0) (N 377) v0 v1 v2 v3 h Q
def slices_partitionOrdered_string.Imp (C : CSem) (N : Nat → Nat) : Prop := ∀ (v0 v1 v2 v3 : AVal) (h : AHeap) (Q : AVal → AHeap → Prop), slices_partitionOrdered_string.cps C N v0 v1 v2 v3 h (dn Q) → C (N 379) [v0, v1, v2, v3] h Q
def slices_partialInsertionSortOrdered_string.cps (C : CSem) (N : Nat → Nat) (v0 v1 v2 : AVal) (h : AHeap) (Q : AVal → AHeap → Prop) : Prop :=
 slices_partialInsertionSortOrderedG.cps C (opsS 16 (.str []) 0) (N 377) v0 v1 v2 h Q
def slices_partialInsertionSortOrdered_string.Imp (C : CSem) (N : Nat → Nat) : Prop := ∀ (v0 v1 v2 : AVal) (h : AHeap) (Q : AVal → AHeap → Prop), slices_partialInsertionSortOrdered_string.cps C N v0 v1 v2 h (dn Q) → C (N 380) [v0, v1, v2] h Q
def slices_reverseRangeOrdered_string.cps (C : CSem) (N : Nat → Nat) (v0 v1 v2 : AVal) (h : AHeap) (Q : AVal → AHeap → Prop) : Prop :=
 slices_reverseRangeOrderedG.cps C (opsS 16 (.str []) 0) v0 v1 v2 h Q
def slices_reverseRangeOrdered_string.Imp (C : CSem) (N : Nat → Nat) : Prop := ∀ (v0 v1 v2 : AVal) (h : AHeap) (Q : AVal → AHeap → Prop), slices_reverseRangeOrdered_string.cps C N v0 v1 v2 h (dn Q) → C (N 381) [v0, v1, v2] h Q
def slices_choosePivotOrdered_string.cps (C : CSem) (N : Nat → Nat) (v0 v1 v2 : AVal) (h : AHeap) (Q : AVal → AHeap → Prop) : Prop :=
 slices_choosePivotOrderedG.cps C (opsS 16 (.str []) 0) (N 387) (N 388) v0 v1 v2 h Q
def slices_choosePivotOrdered_string.Imp (C : CSem) (N : Nat → Nat) : Prop := ∀ (v0 v1 v2 : AVal) (h : AHeap) (Q : AVal → AHeap → Prop), slices_choosePivotOrdered_string.cps C N v0 v1 v2 h (dn Q) → C (N 382) [v0, v1, v2] h Q
def slices_breakPatternsOrdered_string.cps (C : CSem) (N : Nat → Nat) (v0 v1 v2 : AVal) (h : AHeap) (Q : AVal → AHeap → Prop) : Prop :=
 slices_breakPatternsOrderedG.cps C (opsS 16 (.str []) 0) (N 298) (N 299) v0 v1 v2 h Q
def slices_breakPatternsOrdered_string.Imp (C : CSem) (N : Nat → Nat) : Prop := ∀ (v0 v1 v2 : AVal) (h : AHeap) (Q : AVal → AHeap → Prop), slices_breakPatternsOrdered_string.cps C N v0 v1 v2 h (dn Q) → C (N 383) [v0, v1, v2] h Q
def slices_heapSortOrdered_string.cps (C : CSem) (N : Nat → Nat) (v0 v1 v2 : AVal) (h : AHeap) (Q : AVal → AHeap → Prop) : Prop :=
 slices_heapSortOrderedG.cps C (opsS 16 (.str []) 0) (N 386) v0 v1 v2 h Q
def slices_heapSortOrdered_string.Imp (C : CSem) (N : Nat → Nat) : Prop := ∀ (v0 v1 v2 : AVal) (h : AHeap) (Q : AVal → AHeap → Prop), slices_heapSortOrdered_string.cps C N v0 v1 v2 h (dn Q) → C (N 384) [v0, v1, v2] h Q
def slices_insertionSortOrdered_string.cps (C : CSem) (N : Nat → Nat) (v0 v1 v2 : AVal) (h : AHeap) (Q : AVal → AHeap → Prop) : Prop :=
 slices_insertionSortOrderedG.cps C (opsS 16 (.str []) 0) (N 377) v0 v1 v2 h Q
def slices_insertionSortOrdered_string.Imp (C : CSem) (N : Nat → Nat) : Prop := ∀ (v0 v1 v2 : AVal) (h : AHeap) (Q : AVal → AHeap → Prop), slices_insertionSortOrdered_string.cps C N v0 v1 v2 h (dn Q) → C (N 385) [v0, v1, v2] h Q
def slices_siftDownOrdered_string.cps (C : CSem) (N : Nat → Nat) (v0 v1 v2 v3 : AVal) (h : AHeap) (Q : AVal → AHeap → Prop) : Prop :=
 slices_siftDownOrderedG.cps C (opsS 16 (.str []) 0) (N 377) v0 v1 v2 v3 h Q
def slices_siftDownOrdered_string.Imp (C : CSem) (N : Nat → Nat) : Prop := ∀ (v0 v1 v2 v3 : AVal) (h : AHeap) (Q : AVal → AHeap → Prop), slices_siftDownOrdered_string.cps C N v0 v1 v2 v3 h (dn Q) → C (N 386) [v0, v1, v2, v3] h Q
def slices_medianAdjacentOrdered_string.cps (C : CSem) (N : Nat → Nat) (v0 v1 v2 : AVal) (h : AHeap) (Q : AVal → AHeap → Prop) : Prop :=
 slices_medianAdjacentOrderedG.cps C (opsS 16 (.str []) 0) (N 388) v0 v1 v2 h Q
def slices_medianAdjacentOrdered_string.Imp (C : CSem) (N : Nat → Nat) : Prop := ∀ (v0 v1 v2 : AVal) (h : AHeap) (Q : AVal → AHeap → Prop), slices_medianAdjacentOrdered_string.cps C N v0 v1 v2 h (dn Q) → C (N 387) [v0, v1, v2] h Q
def slices_medianOrdered_string.cps (C : CSem) (N : Nat → Nat) (v0 v1 v2 v3 v4 : AVal) (h : AHeap) (Q : AVal → AHeap → Prop) : Prop :=
 slices_medianOrderedG.cps C (opsS 16 (.str []) 0) (N 390) v0 v1 v2 v3 v4 h Q
def slices_medianOrdered_string.Imp (C : CSem) (N : Nat → Nat) : Prop := ∀ (v0 v1 v2 v3 v4 : AVal) (h : AHeap) (Q : AVal → AHeap → Prop), slices_medianOrdered_string.cps C N v0 v1 v2 v3 v4 h (dn Q) → C (N 388) [v0, v1, v2, v3, v4] h Q
def slices_order2Ordered_string.cps (C : CSem) (N : Nat → Nat) (v0 v1 v2 v3 : AVal) (h : AHeap) (Q : AVal → AHeap → Prop) : Prop :=
 slices_order2OrderedG.cps C (opsS 16 (.str []) 0) (N 377) v0 v1 v2 v3 h Q
def slices_order2Ordered_string.Imp (C : CSem) (N : Nat → Nat) : Prop := ∀ (v0 v1 v2 v3 : AVal) (h : AHeap) (Q : AVal → AHeap → Prop), slices_order2Ordered_string.cps C N v0 v1 v2 v3 h (dn Q) → C (N 390) [v0, v1, v2, v3] h Q
end Go.Ab
namespace Go.Ab
@[simp] def swap_Check.k1 (C : CSem) (N : Nat → Nat) (Q : AVal → AHeap → Prop) (Y1 : List AVal → AHeap → Prop) (Y2 : List AVal → AHeap → Prop) (v4 v50 v51 v52 v57 v58 v59 : AVal) (h : AHeap) : Prop :=
 B.pv (V.bin .lss v59 v58) fun v60 =>
  B.cond v60
  (B.pv (V.idxS 1 v57 v59) fun v61 =>
  B.ld h v61 fun v62 =>
  B.pv (A.lkp h (some .s) (some (.int .i64 0)) false v4 v62) fun v65 =>
  B.pv (V.bin .eql v65 (.int .i64 0)) fun v66 =>
  B.cond v66
  (Q (.int .i64 150) h)
  (B.pv (V.bin .add v59 (.int .i64 1)) fun v67 =>
  Y2 [v67] h))
  (B.pv (V.bin .add v52 (.int .i64 1)) fun v68 =>
  Y1 [v68] h)
@[simp] def swap_Check.l2 (C : CSem) (N : Nat → Nat) (Q : AVal → AHeap → Prop) (Y1 : List AVal → AHeap → Prop) (v4 v50 v51 v52 v57 v58 : AVal) : List AVal → AHeap → (List AVal → AHeap → Prop) → Prop
 | [v59], h, Y2 => swap_Check.k1 C N Q Y1 Y2 v4 v50 v51 v52 v57 v58 v59 h
 | _, _, _ => False
@[simp] def swap_Check.k3 (C : CSem) (N : Nat → Nat) (Q : AVal → AHeap → Prop) (Y1 : List AVal → AHeap → Prop) (v4 v50 v51 v52 : AVal) (h : AHeap) : Prop :=
 B.pv (V.idxS 4 v50 v52) fun v54 =>
  B.ldn h v54 4 fun v55 =>
  B.pv (V.setN 0 4 v55 (.agg [.str [], .int .i64 0, .nils, .nils])) fun c9 =>
  B.al c9 (B.pv (V.field1 3 c9) fun v57 =>
  B.pv (V.lenSl v57) fun v58 =>
  LoopR (swap_Check.l2 C N Q Y1 v4 v50 v51 v52 v57 v58) [(.int .i64 0)] h)
@[simp] def swap_Check.l4 (C : CSem) (N : Nat → Nat) (Q : AVal → AHeap → Prop) (v4 v50 v51 : AVal) : List AVal → AHeap → (List AVal → AHeap → Prop) → Prop
 | [v52], h, Y1 => B.pv (V.bin .lss v52 v51) fun v53 =>
  B.cond v53
  (swap_Check.k3 C N Q Y1 v4 v50 v51 v52 h)
  (Q (.int .i64 0) h)
 | _, _, _ => False
@[simp] def swap_Check.k5 (C : CSem) (N : Nat → Nat) (Q : AVal → AHeap → Prop) (Y3 : List AVal → AHeap → Prop) (v0 v4 v18 v19 v20 : AVal) (h : AHeap) : Prop :=
 B.pv (V.bin .lss v20 v19) fun v21 =>
  B.cond v21
  (B.pv (V.idxS 4 v18 v20) fun v22 =>
  B.ldn h v22 4 fun v23 =>
  B.pv (V.setN 0 4 v23 (.agg [.str [], .int .i64 0, .nils, .nils])) fun c6 =>
  B.al c6 (B.pv (V.field1 0 c6) fun v26 =>
  B.pv (A.lkp h (some .s) (some (.int .i64 0)) false v4 v26) fun v27 =>
  B.pv (V.bin .add v27 (.int .i64 1)) fun v28 =>
  B.mset h .s v4 v26 v28 fun h =>
  B.al c6 (B.pv (V.field1 0 c6) fun v30 =>
  B.al c6 (B.pv (V.field1 3 c6) fun v32 =>
  B.call C (N 363) [v30, v32] h fun v33 h =>
  B.call C (N 364) [v33] h fun v35 h =>
  B.pv (V.lenSl v33) fun v37 =>
  B.pv (V.bin .gtr v37 (.int .i64 5)) fun v38 =>
  B.gd h v38 false (fun K => K v33 h) fun v40 h =>
  B.al c6 (B.gd h v38 false (fun K => K .undef h) fun _ h =>
  B.gd h v38 false (fun K => B.pv (V.field1 3 c6) fun v => K v h) fun v44 h =>
  B.gd h v38 false (fun K => B.pv (V.lenSl v44) fun v => K v h) fun v45 h =>
  B.gd h v38 false (fun K => B.pv (V.bin .add (.int .i64 1) v45) fun v => K v h) fun v46 h =>
  B.gd h v38 false (fun K => B.call C (N 365) [v40] h K) fun v41 h =>
  B.gd h v38 false (fun K => B.pv (V.lenSl v41) fun v => K v h) fun v42 h =>
  B.gd h v38 false (fun K => B.pv (V.bin .neq v42 v46) fun v => K v h) fun v47 h =>
  B.pick v38 (.bool true) v47 fun v48 =>
  B.cond v48
  (Q (.int .i64 4) h)
  (B.pv (V.bin .add v20 (.int .i64 1)) fun v49 =>
  Y3 [v49] h))))))
  (B.pv (V.lenSl v0) fun v51 =>
  LoopR (swap_Check.l4 C N Q v4 v0 v51) [(.int .i64 0)] h)
@[simp] def swap_Check.l6 (C : CSem) (N : Nat → Nat) (Q : AVal → AHeap → Prop) (v0 v4 v18 v19 : AVal) : List AVal → AHeap → (List AVal → AHeap → Prop) → Prop
 | [v20], h, Y3 => swap_Check.k5 C N Q Y3 v0 v4 v18 v19 v20 h
 | _, _, _ => False
@[simp] def swap_Check.k7 (C : CSem) (N : Nat → Nat) (Q : AVal → AHeap → Prop) (v0 : AVal) (h : AHeap) : Prop :=
 B.call C (N 356) [v0] h fun v13 h =>
  B.pv (V.bin .neq v13 (.int .i64 0)) fun v15 =>
  B.cond v15
  (Q v13 h)
  (B.newMap h fun v17 h =>
  B.pv (V.lenSl v0) fun v19 =>
  LoopR (swap_Check.l6 C N Q v0 v17 v0 v19) [(.int .i64 0)] h)
@[simp] def swap_Check.cps (C : CSem) (N : Nat → Nat) (v0 : AVal) (h : AHeap) (Q : AVal → AHeap → Prop) : Prop :=
 swap_Check.k7 C N Q v0 h
def swap_Check.Imp (C : CSem) (N : Nat → Nat) : Prop := ∀ (v0 : AVal) (h : AHeap) (Q : AVal → AHeap → Prop), swap_Check.cps C N v0 h (dn Q) → C (N 353) [v0] h Q
@[simp] def swap_Row.k1 (C : CSem) (N : Nat → Nat) (Q : AVal → AHeap → Prop) (v0 v1 : AVal) (h : AHeap) : Prop :=
 B.newO h (A.cells1 v1) fun i3 h =>
  B.call C (N 367) [v0, (.fn (N 366) [] [(.ptr i3 0 0)])] h fun v8 h =>
  B.pv (V.bin .lss v8 (.int .i64 0)) fun v10 =>
  B.cond v10
  (Q .nils h)
  (B.ld h (.ptr i3 0 0) fun v11 =>
  B.pv (V.idxS 4 v0 v8) fun v14 =>
  B.pv (V.fieldAddr 3 v14) fun v15 =>
  B.ld h v15 fun v16 =>
  B.call C (N 363) [v11, v16] h fun v17 h =>
  Q v17 h)
@[simp] def swap_Row.cps (C : CSem) (N : Nat → Nat) (v0 v1 : AVal) (h : AHeap) (Q : AVal → AHeap → Prop) : Prop :=
 swap_Row.k1 C N Q v0 v1 h
def swap_Row.Imp (C : CSem) (N : Nat → Nat) : Prop := ∀ (v0 v1 : AVal) (h : AHeap) (Q : AVal → AHeap → Prop), swap_Row.cps C N v0 v1 h (dn Q) → C (N 355) [v0, v1] h Q
@[simp] def swap_row.k1 (C : CSem) (N : Nat → Nat) (Q : AVal → AHeap → Prop) (v0 v1 : AVal) (h : AHeap) : Prop :=
 B.newO h (fillL [(0, none, v0)] (repL 1 [.str []])) fun i6 h =>
  B.newO h (fillL [(0, none, (.sl i6 0 0 1 1 1)), (1, none, v1)] (repL 2 [.nils])) fun i8 h =>
  B.call C (N 373) [(.sl i8 0 0 2 1 2)] h fun v9 h =>
  Q v9 h
@[simp] def swap_row.cps (C : CSem) (N : Nat → Nat) (v0 v1 : AVal) (h : AHeap) (Q : AVal → AHeap → Prop) : Prop :=
 swap_row.k1 C N Q v0 v1 h
def swap_row.Imp (C : CSem) (N : Nat → Nat) : Prop := ∀ (v0 v1 : AVal) (h : AHeap) (Q : AVal → AHeap → Prop), swap_row.cps C N v0 v1 h (dn Q) → C (N 363) [v0, v1] h Q
@[simp] def swap_Row_1.cps (C : CSem) (N : Nat → Nat) (v0 v1 : AVal) (h : AHeap) (Q : AVal → AHeap → Prop) : Prop :=
 B.pv (A.boxN 4 v0) fun c2 =>
  B.al c2 (B.pv (V.field1 0 c2) fun v5 =>
  B.ld h v1 fun v6 =>
  B.pv (V.bin .eql v5 v6) fun v7 =>
  Q v7 h)
def swap_Row_1.Imp (C : CSem) (N : Nat → Nat) : Prop := ∀ (v0 v1 : AVal) (h : AHeap) (Q : AVal → AHeap → Prop), swap_Row_1.cps C N v0 v1 h (dn Q) → C (N 366) [v0, v1] h Q
end Go.Ab
set_option maxRecDepth 100000
namespace Go.Ab.S08
open Go.Ab Go.Proofs
noncomputable abbrev P : Program := Try.prog
def N (k : Nat) : Nat := [0, 0, 0, 0, 0, 0, 0, 0, 0, 0, 0, 0, 0, 0, 0, 0, 0, 0, 0, 0, 0, 0, 0, 0, 0, 0, 0, 0, 0, 0, 0, 0, 0, 0, 0, 0, 0, 0, 0, 0, 0, 0, 0, 0, 0, 0, 0, 0, 0, 0, 0, 0, 0, 22, 0, 0, 0, 0, 0, 0, 0, 0, 0, 0, 0, 0, 0, 0, 0, 0, 0, 0, 0, 0, 0, 0, 0, 0, 0, 0, 0, 0, 0, 0, 0, 0, 0, 0, 0, 0, 0, 0, 0, 0, 0, 0, 0, 0, 0, 0, 0, 0, 0, 0, 0, 0, 0, 0, 0, 0, 0, 0, 0, 0, 0, 0, 0, 0, 0, 0, 0, 0, 0, 0, 0, 0, 0, 0, 0, 0, 0, 0, 0, 11, 0, 0, 0, 0, 0, 0, 0, 0, 0, 0, 0, 0, 0, 0, 0, 0, 0, 0, 0, 0, 0, 10, 0, 0, 0, 0, 0, 0, 0, 0, 0, 0, 0, 0, 0, 0, 0, 0, 0, 0, 0, 0, 0, 0, 0, 0, 0, 0, 0, 0, 0, 0, 0, 0, 0, 0, 0, 0, 0, 0, 0, 0, 0, 0, 0, 0, 0, 0, 0, 0, 0, 0, 0, 0, 0, 0, 0, 0, 0, 0, 0, 0, 0, 0, 0, 0, 0, 0, 0, 0, 0, 0, 0, 0, 0, 0, 0, 0, 0, 0, 0, 0, 0, 0, 0, 0, 0, 0, 0, 0, 0, 0, 0, 0, 0, 0, 0, 0, 0, 0, 0, 0, 0, 0, 0, 0, 0, 0, 0, 0, 0, 0, 0, 0, 0, 0, 0, 0, 0, 0, 0, 0, 0, 0, 0, 0, 0, 0, 0, 0, 0, 0, 0, 28, 0, 0, 0, 0, 0, 0, 0, 0, 0, 0, 44, 43, 0, 0, 0, 0, 40, 41, 0, 0, 0, 0, 0, 0, 0, 0, 0, 0, 0, 0, 0, 0, 0, 0, 0, 0, 0, 0, 0, 0, 0, 0, 0, 0, 0, 0, 0, 0, 0, 0, 0, 0, 0, 0, 0, 0, 0, 0, 0, 0, 0, 0, 0, 0, 0, 8, 6, 9, 7, 5, 4, 3, 12, 13, 14, 15, 16, 17, 19, 18, 20, 21, 25, 24, 23, 26, 29, 27, 30, 37, 38, 39, 36, 35, 34, 33, 32, 31, 42, 45, 46, 47, 48].getD k 0
theorem mixed : P.follows .mixedOrders = true := by kernel_rfl
def law08_SwapRows.I : Bx := ⟨[], [], 166, [(18, [(0, []), (1, []), (2, []), (3, []), (4, []), (5, []), (6, []), (7, []), (8, []), (9, []), (10, []), (11, []), (12, []), (13, []), (14, []), (15, []), (16, []), (17, []), (18, []), (19, []), (20, []), (21, []), (22, []), (23, []), (24, []), (25, [])]), (28, [(0, []), (1, []), (2, []), (3, []), (4, []), (5, []), (6, []), (7, []), (8, [])]), (34, [(0, []), (1, []), (2, []), (3, []), (4, []), (5, []), (6, []), (7, [])]), (37, [(0, []), (1, []), (2, []), (3, []), (4, []), (5, []), (6, []), (7, []), (8, []), (9, []), (10, []), (11, []), (12, []), (13, []), (14, []), (15, []), (16, []), (17, []), (18, []), (19, []), (20, []), (21, []), (22, []), (23, []), (24, []), (25, []), (26, []), (27, [])])]⟩
theorem law08_SwapRows.L {C : CSem} (hC : CMono C) (Q : AVal → AHeap → Prop) (s : Slots) (h : AHeap) (hR : law08_SwapRows.cps C N (s 0) (s 1) h Q) : bwp P C law08_SwapRows.I (Try.f3.body.getD .skip) (retB P law08_SwapRows.I Try.f3.results.toList Q) s h :=
 eS hC (fun s h => B.call C (N 358) [] h fun v15 h =>
  B.pv (V.un .not v15) fun v16 =>
  B.cond v16
  (Q (.bool false) h)
  (law08_SwapRows.k18 C N Q (s 0) (s 1) h)) (e1 hR) (fun s h hR => eS hC (fun s h => law08_SwapRows.k18 C N Q (s 0) (s 1) h) (e1 hR) (fun s h hR => eS hC (fun s h => B.call C (N 354) [(s 0)] h fun v20 h =>
  LoopR (law08_SwapRows.l17 C N Q (s 0) (s 1) v20) [(.int .i64 0)] h) (e1 hR) (fun s h hR => eS hC (fun s h => LoopR (law08_SwapRows.l17 C N Q (s 0) (s 1) (s 5)) [(.int .i64 0)] h) (e1 hR) (fun s h hR => eS hC (fun s h => law08_SwapRows.k15 C N Q (s 0) (s 1) (s 5) h) (eS hC (fun s h => LoopR (law08_SwapRows.l17 C N Q (s 0) (s 1) (s 5)) [(s 6)] h) (e1 hR) (fun s h hR => eK (eL hC [0, 1, 5] [6] (fun kv lv h Y5 => match kv with | [v0, v1, v5] => law08_SwapRows.l17 C N Q v0 v1 v5 lv h Y5 | _ => False) hR (fun Y5 s h hR => e1 hR)))) (fun s h hR => eS hC (fun s h => law08_SwapRows.k14 C N Q (s 0) (s 1) h) (e1 hR) (fun s h hR => eS hC (fun s h => LoopR (law08_SwapRows.l13 C N Q (s 0) (s 1)) [(.int .i64 0)] h) (e1 hR) (fun s h hR => eS hC (fun s h => B.pv (V.lenSl (s 0)) fun v114 =>
  B.pv (V.bin .eql v114 (.int .i64 0)) fun v115 =>
  B.cond v115
  (Q (.bool true) h)
  (law08_SwapRows.k4 C N Q (s 0) (s 1) h)) (eS hC (fun s h => LoopR (law08_SwapRows.l13 C N Q (s 0) (s 1)) [(s 7)] h) (e1 hR) (fun s h hR => eK (eL hC [0, 1] [7] (fun kv lv h Y2 => match kv with | [v0, v1] => law08_SwapRows.l13 C N Q v0 v1 lv h Y2 | _ => False) hR (fun Y2 s h hR => eS hC (fun s h => law08_SwapRows.k11 C N Q Y2 (s 0) (s 1) (s 7) h) (e1 hR) (fun s h hR => eS hC (fun s h => B.pv (V.bin .add (s 7) (.int .i64 1)) fun v51 =>
  Y2 [v51] h) (eK (eS hC (fun s h => law08_SwapRows.k10 C N Q Y2 (s 0) (s 1) (s 7) (s 8) h) (e1 hR) (fun s h hR => eS hC (fun s h => LoopR (law08_SwapRows.l9 C N Q Y2 (s 0) (s 1) (s 7) (s 8)) [(.int .i64 0)] h) (e1 hR) (fun s h hR => eS hC (fun s h => LoopR (law08_SwapRows.l9 C N Q Y2 (s 0) (s 1) (s 7) (s 8)) [(s 9)] h) (e1 hR) (fun s h hR => eK (eL hC [0, 1, 7, 8] [9] (fun kv lv h Y3 => match kv with | [v0, v1, v7, v8] => law08_SwapRows.l9 C N Q Y2 v0 v1 v7 v8 lv h Y3 | _ => False) hR (fun Y3 s h hR => eS hC (fun s h => law08_SwapRows.k7 C N Q Y2 Y3 (s 0) (s 1) (s 7) (s 8) (s 9) h) (e1 hR) (fun s h hR => eS hC (fun s h => B.pv (V.bin .add (s 9) (.int .i64 1)) fun v90 =>
  Y3 [v90] h) (eK (eS hC (fun s h => LoopR (law08_SwapRows.l6 C N Q Y2 Y3 (s 0) (s 1) (s 7) (s 8) (s 9)) [(.int .i64 0)] h) (e1 hR) (fun s h hR => eS hC (fun s h => LoopR (law08_SwapRows.l6 C N Q Y2 Y3 (s 0) (s 1) (s 7) (s 8) (s 9)) [(s 10)] h) (e1 hR) (fun s h hR => eK (eL hC [0, 1, 7, 8, 9] [10] (fun kv lv h Y4 => match kv with | [v0, v1, v7, v8, v9] => law08_SwapRows.l6 C N Q Y2 Y3 v0 v1 v7 v8 v9 lv h Y4 | _ => False) hR (fun Y4 s h hR => e1 hR)))))) (fun s h hR => e1 hR))))))))) (fun s h hR => e1 hR)))))) (fun s h hR => eS hC (fun s h => law08_SwapRows.k4 C N Q (s 0) (s 1) h) (e1 hR) (fun s h hR => eS hC (fun s h => B.pv (V.lenSl (s 0)) fun v121 =>
  B.call C (N 155) [(s 1), v121] h fun v122 h =>
  B.pv (V.idxS 4 (s 11) v122) fun v123 =>
  law08_SwapRows.k3 C N Q (s 11) v123 h) (e1 hR) (fun s h hR => eS hC (fun s h => law08_SwapRows.k3 C N Q (s 11) (s 12) h) (e1 hR) (fun s h hR => eS hC (fun s h => B.call C (N 353) [(s 11)] h fun v164 h =>
  B.pv (V.bin .eql v164 (.int .i64 0)) fun v165 =>
  Q v165 h) (eS hC (fun s h => LoopR (law08_SwapRows.l2 C N Q (s 11) (s 12)) [(s 13), (s 14)] h) (e1 hR) (fun s h hR => eK (eL hC [11, 12] [13, 14] (fun kv lv h Y1 => match kv with | [v11, v12] => law08_SwapRows.l2 C N Q v11 v12 lv h Y1 | _ => False) hR (fun Y1 s h hR => e1 hR)))) (fun s h hR => e1 hR))))))))))))
theorem law08_SwapRows.imp : law08_SwapRows.Imp (AC P) N := fun v0 v1 h Q hR => eF mixed (fn := Try.f3) (fun hC => law08_SwapRows.L hC (dn Q) (startS [v0, v1]) h hR)
def law08_awake.I : Bx := ⟨[], [], 30, []⟩
theorem law08_awake.L {C : CSem} (hC : CMono C) (Q : AVal → AHeap → Prop) (s : Slots) (h : AHeap) (hR : law08_awake.cps C N h Q) : bwp P C law08_awake.I (Try.f4.body.getD .skip) (retB P law08_awake.I Try.f4.results.toList Q) s h :=
 e1 hR
theorem law08_awake.imp : law08_awake.Imp (AC P) N := fun h Q hR => eF mixed (fn := Try.f4) (fun hC => law08_awake.L hC (dn Q) (startS []) h hR)
def law08_great.I : Bx := ⟨[], [], 101, [(5, [(0, []), (1, []), (2, []), (3, []), (4, []), (5, []), (6, []), (7, []), (8, []), (9, []), (10, []), (11, []), (12, []), (13, []), (14, []), (15, []), (16, []), (17, []), (18, []), (19, []), (20, []), (21, []), (22, []), (23, []), (24, [])])]⟩
theorem law08_great.L {C : CSem} (hC : CMono C) (Q : AVal → AHeap → Prop) (s : Slots) (h : AHeap) (hR : law08_great.cps C N (s 0) h Q) : bwp P C law08_great.I (Try.f5.body.getD .skip) (retB P law08_great.I Try.f5.results.toList Q) s h :=
 eS hC (fun s h => LoopR (law08_great.l8 C N Q (s 0)) [(.int .i64 0), (.int .i64 0)] h) (e1 hR) (fun s h hR => eS hC (fun s h => LoopR (law08_great.l8 C N Q (s 0)) [(s 3), (.int .i64 0)] h) (e1 hR) (fun s h hR => eS hC (fun s h => law08_great.k1 C N Q (s 0) (s 3) h) (eS hC (fun s h => LoopR (law08_great.l8 C N Q (s 0)) [(s 3), (s 4)] h) (e1 hR) (fun s h hR => eK (eL hC [0] [3, 4] (fun kv lv h Y1 => match kv with | [v0] => law08_great.l8 C N Q v0 lv h Y1 | _ => False) hR (fun Y1 s h hR => eS hC (fun s h => law08_great.k6 C N Q Y1 (s 0) (s 3) (s 4) h) (e1 hR) (fun s h hR => eS hC (fun s h => B.pv (V.bin .add (s 4) (.int .i64 1)) fun v16 =>
  Y1 [(s 3), v16] h) (eK (eS hC (fun s h => LoopR (law08_great.l5 C N Q Y1 (s 0) (s 4)) [(s 3), (.int .i64 0)] h) (e1 hR) (fun s h hR => eS hC (fun s h => LoopR (law08_great.l3 C N Q Y1 (s 0) (s 4)) [(s 3), (.int .i64 0)] h) (eS hC (fun s h => LoopR (law08_great.l5 C N Q Y1 (s 0) (s 4)) [(s 3), (s 5)] h) (e1 hR) (fun s h hR => eK (eL hC [0, 4] [3, 5] (fun kv lv h Y3 => match kv with | [v0, v4] => law08_great.l5 C N Q Y1 v0 v4 lv h Y3 | _ => False) hR (fun Y3 s h hR => e1 hR)))) (fun s h hR => eS hC (fun s h => LoopR (law08_great.l3 C N Q Y1 (s 0) (s 4)) [(s 3), (s 6)] h) (e1 hR) (fun s h hR => eK (eL hC [0, 4] [3, 6] (fun kv lv h Y2 => match kv with | [v0, v4] => law08_great.l3 C N Q Y1 v0 v4 lv h Y2 | _ => False) hR (fun Y2 s h hR => e1 hR))))))) (fun s h hR => e1 hR)))))) (fun s h hR => e1 hR)))
theorem law08_great.imp : law08_great.Imp (AC P) N := fun v0 h Q hR => eF mixed (fn := Try.f5) (fun hC => law08_great.L hC (dn Q) (startS [v0]) h hR)
def kit_CopyItems.I : Bx := ⟨[5], [], 22, []⟩
theorem kit_CopyItems.L {C : CSem} (hC : CMono C) (Q : AVal → AHeap → Prop) (s : Slots) (h : AHeap) (hR : kit_CopyItems.cps C N (s 0) h Q) : bwp P C kit_CopyItems.I (Try.f6.body.getD .skip) (retB P kit_CopyItems.I Try.f6.results.toList Q) s h :=
 eS hC (fun s h => LoopR (kit_CopyItems.l2 C N Q (s 0)) [.nils, (.int .i64 0)] h) (e1 hR) (fun s h hR => eS hC (fun s h => LoopR (kit_CopyItems.l2 C N Q (s 0)) [(s 3), (.int .i64 0)] h) (e1 hR) (fun s h hR => eS hC (fun s h => Q (s 3) h) (eS hC (fun s h => LoopR (kit_CopyItems.l2 C N Q (s 0)) [(s 3), (s 4)] h) (e1 hR) (fun s h hR => eK (eL hC [0] [3, 4] (fun kv lv h Y1 => match kv with | [v0] => kit_CopyItems.l2 C N Q v0 lv h Y1 | _ => False) hR (fun Y1 s h hR => e1 hR)))) (fun s h hR => e1 hR)))
theorem kit_CopyItems.imp : kit_CopyItems.Imp (AC P) N := fun v0 h Q hR => eF mixed (fn := Try.f6) (fun hC => kit_CopyItems.L hC (dn Q) (startS [v0]) h hR)
def kit_Check.I : Bx := ⟨[], [], 13, []⟩
theorem kit_Check.L {C : CSem} (hC : CMono C) (Q : AVal → AHeap → Prop) (s : Slots) (h : AHeap) (hR : kit_Check.cps C N (s 0) h Q) : bwp P C kit_Check.I (Try.f7.body.getD .skip) (retB P kit_Check.I Try.f7.results.toList Q) s h :=
 e1 hR
theorem kit_Check.imp : kit_Check.Imp (AC P) N := fun v0 h Q hR => eF mixed (fn := Try.f7) (fun hC => kit_Check.L hC (dn Q) (startS [v0]) h hR)
def swap_Check.I : Bx := ⟨[6, 9], [25, 29, 31, 43, 56], 69, [(11, [(0, []), (1, []), (2, []), (3, []), (4, []), (7, []), (8, []), (9, []), (10, []), (5, [8]), (6, []), (11, []), (12, [])])]⟩
theorem swap_Check.L {C : CSem} (hC : CMono C) (Q : AVal → AHeap → Prop) (s : Slots) (h : AHeap) (hR : swap_Check.cps C N (s 0) h Q) : bwp P C swap_Check.I (Try.f8.body.getD .skip) (retB P swap_Check.I Try.f8.results.toList Q) s h :=
 eS hC (fun s h => swap_Check.k7 C N Q (s 0) h) (e1 hR) (fun s h hR => eS hC (fun s h => B.newMap h fun v17 h =>
  B.pv (V.lenSl (s 0)) fun v19 =>
  LoopR (swap_Check.l6 C N Q (s 0) v17 (s 0) v19) [(.int .i64 0)] h) (e1 hR) (fun s h hR => eS hC (fun s h => B.pv (V.lenSl (s 0)) fun v19 =>
  LoopR (swap_Check.l6 C N Q (s 0) (s 4) (s 0) v19) [(.int .i64 0)] h) (e1 hR) (fun s h hR => eS hC (fun s h => B.pv (V.lenSl (s 0)) fun v51 =>
  LoopR (swap_Check.l4 C N Q (s 4) (s 0) v51) [(.int .i64 0)] h) (eS hC (fun s h => LoopR (swap_Check.l6 C N Q (s 0) (s 4) (s 18) (s 19)) [(s 20)] h) (e1 hR) (fun s h hR => eK (eL hC [0, 4, 18, 19] [20] (fun kv lv h Y3 => match kv with | [v0, v4, v18, v19] => swap_Check.l6 C N Q v0 v4 v18 v19 lv h Y3 | _ => False) hR (fun Y3 s h hR => e1 hR)))) (fun s h hR => eS hC (fun s h => Q (.int .i64 0) h) (eS hC (fun s h => LoopR (swap_Check.l4 C N Q (s 4) (s 50) (s 51)) [(s 52)] h) (e1 hR) (fun s h hR => eK (eL hC [4, 50, 51] [52] (fun kv lv h Y1 => match kv with | [v4, v50, v51] => swap_Check.l4 C N Q v4 v50 v51 lv h Y1 | _ => False) hR (fun Y1 s h hR => eS hC (fun s h => B.cond (s 53)
  (swap_Check.k3 C N Q Y1 (s 4) (s 50) (s 51) (s 52) h)
  (Q (.int .i64 0) h)) (e1 hR) (fun s h hR => eS hC (fun s h => swap_Check.k3 C N Q Y1 (s 4) (s 50) (s 51) (s 52) h) (e1 hR) (fun s h hR => eS hC (fun s h => B.pv (V.bin .add (s 52) (.int .i64 1)) fun v68 =>
  Y1 [v68] h) (eK (eS hC (fun s h => B.al (s 78) (B.pv (V.field1 3 (s 78)) fun v57 =>
  B.pv (V.lenSl v57) fun v58 =>
  LoopR (swap_Check.l2 C N Q Y1 (s 4) (s 50) (s 51) (s 52) v57 v58) [(.int .i64 0)] h)) (e1 hR) (fun s h hR => eS hC (fun s h => LoopR (swap_Check.l2 C N Q Y1 (s 4) (s 50) (s 51) (s 52) (s 57) (s 58)) [(s 59)] h) (e1 hR) (fun s h hR => eK (eL hC [4, 50, 51, 52, 57, 58] [59] (fun kv lv h Y2 => match kv with | [v4, v50, v51, v52, v57, v58] => swap_Check.l2 C N Q Y1 v4 v50 v51 v52 v57 v58 lv h Y2 | _ => False) hR (fun Y2 s h hR => e1 hR)))))) (fun s h hR => e1 hR))))))) (fun s h hR => e1 hR)))))
theorem swap_Check.imp : swap_Check.Imp (AC P) N := fun v0 h Q hR => eF mixed (fn := Try.f8) (fun hC => swap_Check.L hC (dn Q) (startS [v0]) h hR)
def swap_Row.I : Bx := ⟨[], [], 18, [(4, [(0, []), (1, []), (2, []), (3, []), (4, []), (5, []), (6, []), (7, [])])]⟩
theorem swap_Row.L {C : CSem} (hC : CMono C) (Q : AVal → AHeap → Prop) (s : Slots) (h : AHeap) (hR : swap_Row.cps C N (s 0) (s 1) h Q) : bwp P C swap_Row.I (Try.f9.body.getD .skip) (retB P swap_Row.I Try.f9.results.toList Q) s h :=
 e1 hR
theorem swap_Row.imp : swap_Row.Imp (AC P) N := fun v0 v1 h Q hR => eF mixed (fn := Try.f9) (fun hC => swap_Row.L hC (dn Q) (startS [v0, v1]) h hR)
def kit_Pick.I : Bx := ⟨[], [], 16, []⟩
theorem kit_Pick.L {C : CSem} (hC : CMono C) (Q : AVal → AHeap → Prop) (s : Slots) (h : AHeap) (hR : kit_Pick.cps C N (s 0) (s 1) h Q) : bwp P C kit_Pick.I (Try.f10.body.getD .skip) (retB P kit_Pick.I Try.f10.results.toList Q) s h :=
 e1 hR
theorem kit_Pick.imp : kit_Pick.Imp (AC P) N := fun v0 v1 h Q hR => eF mixed (fn := Try.f10) (fun hC => kit_Pick.L hC (dn Q) (startS [v0, v1]) h hR)
def kit_SameTexts.I : Bx := ⟨[], [], 26, [(6, [(0, []), (1, []), (2, []), (3, []), (4, []), (5, []), (6, []), (7, []), (8, [])])]⟩
theorem kit_SameTexts.L {C : CSem} (hC : CMono C) (Q : AVal → AHeap → Prop) (s : Slots) (h : AHeap) (hR : kit_SameTexts.cps C N (s 0) (s 1) h Q) : bwp P C kit_SameTexts.I (Try.f11.body.getD .skip) (retB P kit_SameTexts.I Try.f11.results.toList Q) s h :=
 eS hC (fun s h => kit_SameTexts.k3 C N Q (s 0) (s 1) h) (e1 hR) (fun s h hR => eS hC (fun s h => LoopR (sameS.l4  Q (s 0) (s 1)) [(.int .i64 0)] h) (e1 hR) (fun s h hR => eS hC (fun s h => Q (.bool true) h) (eS hC (fun s h => LoopR (sameS.l4  Q (s 0) (s 1)) [(s 5)] h) (e1 hR) (fun s h hR => eK (eL hC [0, 1] [5] (fun kv lv h Y1 => match kv with | [v0, v1] => sameS.l4  Q v0 v1 lv h Y1 | _ => False) hR (fun Y1 s h hR => e1 hR)))) (fun s h hR => e1 hR)))
theorem kit_SameTexts.imp : kit_SameTexts.Imp (AC P) N := fun v0 v1 h Q hR => eF mixed (fn := Try.f11) (fun hC => kit_SameTexts.L hC (dn Q) (startS [v0, v1]) h hR)
def law08_three.I : Bx := ⟨[], [], 8, []⟩
theorem law08_three.L {C : CSem} (hC : CMono C) (Q : AVal → AHeap → Prop) (s : Slots) (h : AHeap) (hR : law08_three.cps C N (s 0) h Q) : bwp P C law08_three.I (Try.f12.body.getD .skip) (retB P law08_three.I Try.f12.results.toList Q) s h :=
 e1 hR
theorem law08_three.imp : law08_three.Imp (AC P) N := fun v0 h Q hR => eF mixed (fn := Try.f12) (fun hC => law08_three.L hC (dn Q) (startS [v0]) h hR)
def kit_CopyItem.I : Bx := ⟨[1, 2], [3, 6, 7, 10], 12, []⟩
theorem kit_CopyItem.L {C : CSem} (hC : CMono C) (Q : AVal → AHeap → Prop) (s : Slots) (h : AHeap) (hR : kit_CopyItem.cps C N (s 0) h Q) : bwp P C kit_CopyItem.I (Try.f13.body.getD .skip) (retB P kit_CopyItem.I Try.f13.results.toList Q) s h :=
 e1 hR
theorem kit_CopyItem.imp : kit_CopyItem.Imp (AC P) N := fun v0 h Q hR => eF mixed (fn := Try.f13) (fun hC => kit_CopyItem.L hC (dn Q) (startS [v0]) h hR)
def kit_check.I : Bx := ⟨[6, 9, 11], [26, 40, 59, 67], 91, [(6, [(0, []), (1, []), (2, []), (3, []), (4, []), (5, []), (6, []), (7, []), (8, []), (9, []), (10, []), (11, []), (12, []), (13, []), (14, []), (15, []), (16, []), (17, []), (18, []), (19, []), (20, []), (21, []), (22, []), (23, [])])]⟩
theorem kit_check.L {C : CSem} (hC : CMono C) (Q : AVal → AHeap → Prop) (s : Slots) (h : AHeap) (hR : kit_check.cps C N (s 0) h Q) : bwp P C kit_check.I (Try.f14.body.getD .skip) (retB P kit_check.I Try.f14.results.toList Q) s h :=
 eS hC (fun s h => kit_check.k11 C N Q (s 0) h) (e1 hR) (fun s h hR => eS hC (fun s h => B.pv (V.lenSl (s 0)) fun v20 =>
  LoopR (kit_check.l10 C N Q (s 0) (s 0) v20) [(.int .i64 0)] h) (e1 hR) (fun s h hR => eS hC (fun s h => B.call C (N 371) [(s 0)] h fun v52 h =>
  B.pv (V.lenSl (s 0)) fun v54 =>
  LoopR (kit_check.l8 C N Q v52 (s 0) v54) [(.int .i64 0)] h) (eS hC (fun s h => LoopR (kit_check.l10 C N Q (s 0) (s 19) (s 20)) [(s 21)] h) (e1 hR) (fun s h hR => eK (eL hC [0, 19, 20] [21] (fun kv lv h Y4 => match kv with | [v0, v19, v20] => kit_check.l10 C N Q v0 v19 v20 lv h Y4 | _ => False) hR (fun Y4 s h hR => e1 hR)))) (fun s h hR => eS hC (fun s h => B.pv (V.lenSl (s 0)) fun v54 =>
  LoopR (kit_check.l8 C N Q (s 7) (s 0) v54) [(.int .i64 0)] h) (e1 hR) (fun s h hR => eS hC (fun s h => B.call C (N 370) [(s 7)] h fun v76 h =>
  B.pv (V.ext 0 v76) fun v77 =>
  B.pv (V.ext 1 v76) fun v78 =>
  kit_check.k3 C N Q (s 7) v77 v78 h) (eS hC (fun s h => LoopR (kit_check.l8 C N Q (s 7) (s 53) (s 54)) [(s 55)] h) (e1 hR) (fun s h hR => eK (eL hC [7, 53, 54] [55] (fun kv lv h Y2 => match kv with | [v7, v53, v54] => kit_check.l8 C N Q v7 v53 v54 lv h Y2 | _ => False) hR (fun Y2 s h hR => eS hC (fun s h => kit_check.k7 C N Q Y2 (s 7) (s 53) (s 54) (s 55) (s 56) h) (e1 hR) (fun s h hR => eS hC (fun s h => kit_check.k6 C N Q Y2 (s 7) (s 53) (s 54) (s 55) h) (e1 hR) (fun s h hR => eS hC (fun s h => B.pv (V.bin .add (s 55) (.int .i64 1)) fun v73 =>
  Y2 [v73] h) (eK (eS hC (fun s h => B.al (s 100) (B.pv (V.field1 2 (s 100)) fun v60 =>
  B.pv (V.lenSl v60) fun v61 =>
  LoopR (kit_check.l5 C N Q Y2 (s 7) (s 53) (s 54) (s 55) v60 v61) [(.int .i64 0)] h)) (e1 hR) (fun s h hR => eS hC (fun s h => LoopR (kit_check.l5 C N Q Y2 (s 7) (s 53) (s 54) (s 55) (s 60) (s 61)) [(s 62)] h) (e1 hR) (fun s h hR => eK (eL hC [7, 53, 54, 55, 60, 61] [62] (fun kv lv h Y3 => match kv with | [v7, v53, v54, v55, v60, v61] => kit_check.l5 C N Q Y2 v7 v53 v54 v55 v60 v61 lv h Y3 | _ => False) hR (fun Y3 s h hR => e1 hR)))))) (fun s h hR => e1 hR))))))) (fun s h hR => eS hC (fun s h => kit_check.k3 C N Q (s 7) (s 12) (s 13) h) (e1 hR) (fun s h hR => eS hC (fun s h => B.rangeMap h (s 12) fun v82 h =>
  LoopR (kit_check.l2 C N Q (s 7) (s 12) v82) [] h) (e1 hR) (fun s h hR => eS hC (fun s h => Q (.tup [(s 7), (s 12), (.int .i64 0)]) h) (eS hC (fun s h => LoopR (kit_check.l2 C N Q (s 7) (s 12) (s 82)) [] h) (e1 hR) (fun s h hR => eK (eL hC [7, 12, 82] [] (fun kv lv h Y1 => match kv with | [v7, v12, v82] => kit_check.l2 C N Q v7 v12 v82 lv h Y1 | _ => False) hR (fun Y1 s h hR => e1 hR)))) (fun s h hR => e1 hR))))))))
theorem kit_check.imp : kit_check.Imp (AC P) N := fun v0 h Q hR => eF mixed (fn := Try.f14) (fun hC => kit_check.L hC (dn Q) (startS [v0]) h hR)
def swap_row.I : Bx := ⟨[], [], 10, []⟩
theorem swap_row.L {C : CSem} (hC : CMono C) (Q : AVal → AHeap → Prop) (s : Slots) (h : AHeap) (hR : swap_row.cps C N (s 0) (s 1) h Q) : bwp P C swap_row.I (Try.f15.body.getD .skip) (retB P swap_row.I Try.f15.results.toList Q) s h :=
 e1 hR
theorem swap_row.imp : swap_row.Imp (AC P) N := fun v0 v1 h Q hR => eF mixed (fn := Try.f15) (fun hC => swap_row.L hC (dn Q) (startS [v0, v1]) h hR)
def slices_Sort_string_string.I : Bx := ⟨[], [], 11, []⟩
theorem slices_Sort_string_string.L {C : CSem} (hC : CMono C) (Q : AVal → AHeap → Prop) (s : Slots) (h : AHeap) (hR : slices_Sort_string_string.cps C N (s 0) h Q) : bwp P C slices_Sort_string_string.I (Try.f16.body.getD .skip) (retB P slices_Sort_string_string.I Try.f16.results.toList Q) s h :=
 e1 hR
theorem slices_Sort_string_string.imp : slices_Sort_string_string.Imp (AC P) N := fun v0 h Q hR => eF mixed (fn := Try.f16) (fun hC => slices_Sort_string_string.L hC (dn Q) (startS [v0]) h hR)
def slices_Compact_string_string.I : Bx := ⟨[], [], 61, [(6, [(0, []), (1, []), (2, []), (3, []), (4, []), (5, []), (6, []), (7, []), (8, []), (9, [])]), (11, [(0, []), (1, []), (2, []), (3, []), (4, []), (5, []), (6, []), (7, []), (8, []), (9, [])])]⟩
theorem slices_Compact_string_string.L {C : CSem} (hC : CMono C) (Q : AVal → AHeap → Prop) (s : Slots) (h : AHeap) (hR : slices_Compact_string_string.cps C N (s 0) h Q) : bwp P C slices_Compact_string_string.I (Try.f17.body.getD .skip) (retB P slices_Compact_string_string.I Try.f17.results.toList Q) s h :=
 eS hC (fun s h => slices_CompactG.k5 C (opsS 16 (.str []) 0) Q (s 0) h) (e1 hR) (fun s h hR => eS hC (fun s h => LoopR (slices_CompactG.l4 C (opsS 16 (.str []) 0) Q (s 0)) [(.int .i64 1)] h) (e1 hR) (fun s h hR => eS hC (fun s h => Q (s 0) h) (eS hC (fun s h => LoopR (slices_CompactG.l4 C (opsS 16 (.str []) 0) Q (s 0)) [(s 3)] h) (e1 hR) (fun s h hR => eK (eL hC [0] [3] (fun kv lv h Y1 => match kv with | [v0] => slices_CompactG.l4 C (opsS 16 (.str []) 0) Q v0 lv h Y1 | _ => False) hR (fun Y1 s h hR => eS hC (fun s h => slices_CompactG.k3 C (opsS 16 (.str []) 0) Q Y1 (s 0) (s 3) h) (e1 hR) (fun s h hR => eS hC (fun s h => B.pv (V.bin .add (s 3) (.int .i64 1)) fun v15 =>
  Y1 [v15] h) (eK (eS hC (fun s h => B.cond (s 25) (B.pv (V.cutSl (opsS 16 (.str []) 0).es (s 0) (some (s 3)) none) fun v28 =>
  LoopR (slices_CompactG.l2 C (opsS 16 (.str []) 0) Q Y1 (s 0) v28) [(s 3), (.int .i64 1)] h) (B.pv (V.bin .add (s 3) (.int .i64 1)) fun v15 =>
  Y1 [v15] h)) (e1 hR) (fun s h hR => eC 25 hR (fun hR => eS hC (fun s h => LoopR (slices_CompactG.l2 C (opsS 16 (.str []) 0) Q Y1 (s 0) (s 4)) [(s 3), (.int .i64 1)] h) (e1 hR) (fun s h hR => eS hC (fun s h => B.pv (V.cutSl (opsS 16 (.str []) 0).es (s 0) (some (s 3)) none) fun v56 =>
  B.clr h (opsS 16 (.str []) 0).z v56 fun _ h =>
  B.pv (V.cutSl (opsS 16 (.str []) 0).es (s 0) none (some (s 3))) fun v59 =>
  Q v59 h) (eS hC (fun s h => LoopR (slices_CompactG.l2 C (opsS 16 (.str []) 0) Q Y1 (s 0) (s 4)) [(s 3), (s 5)] h) (e1 hR) (fun s h hR => eK (eL hC [0, 4] [3, 5] (fun kv lv h Y2 => match kv with | [v0, v4] => slices_CompactG.l2 C (opsS 16 (.str []) 0) Q Y1 v0 v4 lv h Y2 | _ => False) hR (fun Y2 s h hR => e1 hR)))) (fun s h hR => e1 hR))) (fun hR => e1 hR)))) (fun s h hR => e1 hR)))))) (fun s h hR => e1 hR)))
theorem slices_Compact_string_string.imp : slices_Compact_string_string.Imp (AC P) N := fun v0 h Q hR => eF mixed (fn := Try.f17) (fun hC => slices_Compact_string_string.L hC (dn Q) (startS [v0]) h hR)
def slices_IndexFunc_api_Item_api_Item.I : Bx := ⟨[], [], 19, []⟩
theorem slices_IndexFunc_api_Item_api_Item.L {C : CSem} (hC : CMono C) (Q : AVal → AHeap → Prop) (s : Slots) (h : AHeap) (hR : slices_IndexFunc_api_Item_api_Item.cps C N (s 0) (s 1) h Q) : bwp P C slices_IndexFunc_api_Item_api_Item.I (Try.f18.body.getD .skip) (retB P slices_IndexFunc_api_Item_api_Item.I Try.f18.results.toList Q) s h :=
 eS hC (fun s h => B.pv (V.lenSl (s 0)) fun v7 =>
  LoopR (slices_IndexFuncG.l2 C (opsF 4 72 [.str [], .int .i64 0, .nils, .nils] 0 []) Q (s 0) (s 1) v7) [(.int .i64 0)] h) (e1 hR) (fun s h hR => eS hC (fun s h => Q (.int .i64 (-1)) h) (eS hC (fun s h => LoopR (slices_IndexFuncG.l2 C (opsF 4 72 [.str [], .int .i64 0, .nils, .nils] 0 []) Q (s 0) (s 1) (s 7)) [(s 8)] h) (e1 hR) (fun s h hR => eK (eL hC [0, 1, 7] [8] (fun kv lv h Y1 => match kv with | [v0, v1, v7] => slices_IndexFuncG.l2 C (opsF 4 72 [.str [], .int .i64 0, .nils, .nils] 0 []) Q v0 v1 v7 lv h Y1 | _ => False) hR (fun Y1 s h hR => e1 hR)))) (fun s h hR => e1 hR))
theorem slices_IndexFunc_api_Item_api_Item.imp : slices_IndexFunc_api_Item_api_Item.Imp (AC P) N := fun v0 v1 h Q hR => eF mixed (fn := Try.f18) (fun hC => slices_IndexFunc_api_Item_api_Item.L hC (dn Q) (startS [v0, v1]) h hR)
def swap_Row_1.I : Bx := ⟨[2], [4], 8, []⟩
theorem swap_Row_1.L {C : CSem} (hC : CMono C) (Q : AVal → AHeap → Prop) (s : Slots) (h : AHeap) (hR : swap_Row_1.cps C N (s 0) (s 1) h Q) : bwp P C swap_Row_1.I (Try.f19.body.getD .skip) (retB P swap_Row_1.I Try.f19.results.toList Q) s h :=
 e1 hR
theorem swap_Row_1.imp : swap_Row_1.Imp (AC P) N := fun v0 v1 h Q hR => eF mixed (fn := Try.f19) (fun hC => swap_Row_1.L hC (dn Q) (startS [v0, v1]) h hR)
def kit_CopyParts.I : Bx := ⟨[], [], 7, []⟩
theorem kit_CopyParts.L {C : CSem} (hC : CMono C) (Q : AVal → AHeap → Prop) (s : Slots) (h : AHeap) (hR : kit_CopyParts.cps C N (s 0) h Q) : bwp P C kit_CopyParts.I (Try.f20.body.getD .skip) (retB P kit_CopyParts.I Try.f20.results.toList Q) s h :=
 e1 hR
theorem kit_CopyParts.imp : kit_CopyParts.Imp (AC P) N := fun v0 h Q hR => eF mixed (fn := Try.f20) (fun hC => kit_CopyParts.L hC (dn Q) (startS [v0]) h hR)
def kit_CopyTexts.I : Bx := ⟨[], [], 7, []⟩
theorem kit_CopyTexts.L {C : CSem} (hC : CMono C) (Q : AVal → AHeap → Prop) (s : Slots) (h : AHeap) (hR : kit_CopyTexts.cps C N (s 0) h Q) : bwp P C kit_CopyTexts.I (Try.f21.body.getD .skip) (retB P kit_CopyTexts.I Try.f21.results.toList Q) s h :=
 e1 hR
theorem kit_CopyTexts.imp : kit_CopyTexts.Imp (AC P) N := fun v0 h Q hR => eF mixed (fn := Try.f21) (fun hC => kit_CopyTexts.L hC (dn Q) (startS [v0]) h hR)
def code_Right.I : Bx := ⟨[], [], 40, []⟩
theorem code_Right.L {C : CSem} (hC : CMono C) (Q : AVal → AHeap → Prop) (s : Slots) (h : AHeap) (hR : code_Right.cps C N (s 0) h Q) : bwp P C code_Right.I (Try.f22.body.getD .skip) (retB P code_Right.I Try.f22.results.toList Q) s h :=
 eS hC (fun s h => B.rangeStr h (s 0) fun v6 h =>
  LoopR (code_Right.l3 C N Q (s 0) v6) [] h) (e1 hR) (fun s h hR => eS hC (fun s h => code_Right.k1 C N Q (s 0) h) (eS hC (fun s h => LoopR (code_Right.l3 C N Q (s 0) (s 6)) [] h) (e1 hR) (fun s h hR => eK (eL hC [0, 6] [] (fun kv lv h Y1 => match kv with | [v0, v6] => code_Right.l3 C N Q v0 v6 lv h Y1 | _ => False) hR (fun Y1 s h hR => e1 hR)))) (fun s h hR => e1 hR))
theorem code_Right.imp : code_Right.Imp (AC P) N := fun v0 h Q hR => eF mixed (fn := Try.f22) (fun hC => code_Right.L hC (dn Q) (startS [v0]) h hR)
def kit_right.I : Bx := ⟨[1, 5], [6, 10, 14, 19, 27, 31, 35, 41, 47, 51], 56, []⟩
theorem kit_right.L {C : CSem} (hC : CMono C) (Q : AVal → AHeap → Prop) (s : Slots) (h : AHeap) (hR : kit_right.cps C N (s 0) h Q) : bwp P C kit_right.I (Try.f23.body.getD .skip) (retB P kit_right.I Try.f23.results.toList Q) s h :=
 eS hC (fun s h => kit_right.k5 C N Q (s 57) h) (e1 hR) (fun s h hR => eS hC (fun s h => kit_right.k4 C N Q (s 57) h) (e1 hR) (fun s h hR => eS hC (fun s h => B.al (s 57) (B.pv (V.field1 2 (s 57)) fun v20 =>
  B.pv (V.lenSl v20) fun v21 =>
  LoopR (kit_right.l3 C N Q (s 3) v20 v21 (s 57)) [(.int .i64 0)] h)) (e1 hR) (fun s h hR => eS hC (fun s h => kit_right.k1 C N Q (s 57) h) (eS hC (fun s h => LoopR (kit_right.l3 C N Q (s 3) (s 20) (s 21) (s 57)) [(s 22)] h) (e1 hR) (fun s h hR => eK (eL hC [3, 20, 21, 57] [22] (fun kv lv h Y1 => match kv with | [v3, v20, v21, c1] => kit_right.l3 C N Q v3 v20 v21 c1 lv h Y1 | _ => False) hR (fun Y1 s h hR => e1 hR)))) (fun s h hR => e1 hR))))
theorem kit_right.imp : kit_right.Imp (AC P) N := fun v0 h Q hR => eF mixed (fn := Try.f23) (fun hC => kit_right.L hC (dn Q) (startS [v0]) h hR)
def kit_book.I : Bx := ⟨[5], [14], 19, []⟩
theorem kit_book.L {C : CSem} (hC : CMono C) (Q : AVal → AHeap → Prop) (s : Slots) (h : AHeap) (hR : kit_book.cps C N (s 0) h Q) : bwp P C kit_book.I (Try.f24.body.getD .skip) (retB P kit_book.I Try.f24.results.toList Q) s h :=
 eS hC (fun s h => B.newMap h fun v6 h =>
  B.pv (V.lenSl (s 0)) fun v8 =>
  LoopR (kit_book.l2 C N Q v6 (s 0) v8) [(.int .i64 0)] h) (e1 hR) (fun s h hR => eS hC (fun s h => B.pv (V.lenSl (s 0)) fun v8 =>
  LoopR (kit_book.l2 C N Q (s 3) (s 0) v8) [(.int .i64 0)] h) (e1 hR) (fun s h hR => eS hC (fun s h => Q (s 3) h) (eS hC (fun s h => LoopR (kit_book.l2 C N Q (s 3) (s 7) (s 8)) [(s 9)] h) (e1 hR) (fun s h hR => eK (eL hC [3, 7, 8] [9] (fun kv lv h Y1 => match kv with | [v3, v7, v8] => kit_book.l2 C N Q v3 v7 v8 lv h Y1 | _ => False) hR (fun Y1 s h hR => e1 hR)))) (fun s h hR => e1 hR)))
theorem kit_book.imp : kit_book.Imp (AC P) N := fun v0 h Q hR => eF mixed (fn := Try.f24) (fun hC => kit_book.L hC (dn Q) (startS [v0]) h hR)
def kit_depths.I : Bx := ⟨[], [], 20, []⟩
theorem kit_depths.L {C : CSem} (hC : CMono C) (Q : AVal → AHeap → Prop) (s : Slots) (h : AHeap) (hR : kit_depths.cps C N (s 0) h Q) : bwp P C kit_depths.I (Try.f25.body.getD .skip) (retB P kit_depths.I Try.f25.results.toList Q) s h :=
 eS hC (fun s h => B.newMap h fun v7 h =>
  B.newO h (some [.nilm]) fun i4 h =>
  B.st h (.ptr i4 0 0) v7 fun h =>
  kit_depths.k3 C N Q (s 1) (.ptr i4 0 0) h) (e1 hR) (fun s h hR => eS hC (fun s h => kit_depths.k3 C N Q (s 1) (s 4) h) (e1 hR) (fun s h hR => eS hC (fun s h => B.st h (s 5) (.fn (N 374) [] [(s 4), (s 1), (s 5)]) fun h =>
  B.ld h (s 1) fun v9 =>
  B.rangeMap h v9 fun v10 h =>
  LoopR (kit_depths.l2 C N Q (s 4) (s 5) v10) [] h) (e1 hR) (fun s h hR => eS hC (fun s h => B.ld h (s 1) fun v9 =>
  B.rangeMap h v9 fun v10 h =>
  LoopR (kit_depths.l2 C N Q (s 4) (s 5) v10) [] h) (e1 hR) (fun s h hR => eS hC (fun s h => B.ld h (s 4) fun v19 =>
  Q (.tup [v19, (.bool true)]) h) (eS hC (fun s h => LoopR (kit_depths.l2 C N Q (s 4) (s 5) (s 10)) [] h) (e1 hR) (fun s h hR => eK (eL hC [4, 5, 10] [] (fun kv lv h Y1 => match kv with | [v4, v5, v10] => kit_depths.l2 C N Q v4 v5 v10 lv h Y1 | _ => False) hR (fun Y1 s h hR => e1 hR)))) (fun s h hR => e1 hR)))))
theorem kit_depths.imp : kit_depths.Imp (AC P) N := fun v0 h Q hR => eF mixed (fn := Try.f25) (fun hC => kit_depths.L hC (dn Q) (startS [v0]) h hR)
def slices_Concat_string_string.I : Bx := ⟨[], [], 36, []⟩
theorem slices_Concat_string_string.L {C : CSem} (hC : CMono C) (Q : AVal → AHeap → Prop) (s : Slots) (h : AHeap) (hR : slices_Concat_string_string.cps C N (s 0) h Q) : bwp P C slices_Concat_string_string.I (Try.f26.body.getD .skip) (retB P slices_Concat_string_string.I Try.f26.results.toList Q) s h :=
 eS hC (fun s h => B.pv (V.lenSl (s 0)) fun v10 =>
  LoopR (slices_ConcatG.l4 C (opsS 24 (.nils) 0) (N 376) Q (s 0) (s 0) v10) [(.int .i64 0), (.int .i64 0)] h) (e1 hR) (fun s h hR => eS hC (fun s h => B.pv (V.lenSl (s 0)) fun v10 =>
  LoopR (slices_ConcatG.l4 C (opsS 24 (.nils) 0) (N 376) Q (s 0) (s 0) v10) [(s 3), (.int .i64 0)] h) (e1 hR) (fun s h hR => eS hC (fun s h => B.call C (N 376) [.nils, (s 3)] h fun v24 h =>
  B.pv (V.lenSl (s 0)) fun v26 =>
  LoopR (slices_ConcatG.l2 C (opsS 24 (.nils) 0) (N 376) Q (s 0) v26) [v24, (.int .i64 0)] h) (eS hC (fun s h => LoopR (slices_ConcatG.l4 C (opsS 24 (.nils) 0) (N 376) Q (s 0) (s 9) (s 10)) [(s 3), (s 11)] h) (e1 hR) (fun s h hR => eK (eL hC [0, 9, 10] [3, 11] (fun kv lv h Y2 => match kv with | [v0, v9, v10] => slices_ConcatG.l4 C (opsS 24 (.nils) 0) (N 376) Q v0 v9 v10 lv h Y2 | _ => False) hR (fun Y2 s h hR => e1 hR)))) (fun s h hR => eS hC (fun s h => B.pv (V.lenSl (s 0)) fun v26 =>
  LoopR (slices_ConcatG.l2 C (opsS 24 (.nils) 0) (N 376) Q (s 0) v26) [(s 6), (.int .i64 0)] h) (e1 hR) (fun s h hR => eS hC (fun s h => Q (s 6) h) (eS hC (fun s h => LoopR (slices_ConcatG.l2 C (opsS 24 (.nils) 0) (N 376) Q (s 25) (s 26)) [(s 6), (s 27)] h) (e1 hR) (fun s h hR => eK (eL hC [25, 26] [6, 27] (fun kv lv h Y1 => match kv with | [v25, v26] => slices_ConcatG.l2 C (opsS 24 (.nils) 0) (N 376) Q v25 v26 lv h Y1 | _ => False) hR (fun Y1 s h hR => e1 hR)))) (fun s h hR => e1 hR)))))
theorem slices_Concat_string_string.imp : slices_Concat_string_string.Imp (AC P) N := fun v0 h Q hR => eF mixed (fn := Try.f26) (fun hC => slices_Concat_string_string.L hC (dn Q) (startS [v0]) h hR)
def slices_pdqsortOrdered_string.I : Bx := ⟨[], [], 134, [(17, [(0, []), (1, []), (2, []), (3, []), (4, []), (5, []), (6, []), (7, []), (8, []), (9, []), (10, []), (11, []), (12, []), (13, []), (14, [])])]⟩
theorem slices_pdqsortOrdered_string.L {C : CSem} (hC : CMono C) (Q : AVal → AHeap → Prop) (s : Slots) (h : AHeap) (hR : slices_pdqsortOrdered_string.cps C N (s 0) (s 1) (s 2) (s 3) h Q) : bwp P C slices_pdqsortOrdered_string.I (Try.f27.body.getD .skip) (retB P slices_pdqsortOrdered_string.I Try.f27.results.toList Q) s h :=
 eS hC (fun s h => LoopR (slices_pdqsortOrderedG.l8 C (opsS 16 (.str []) 0) (N 377) (N 378) (N 379) (N 375) (N 380) (N 381) (N 382) (N 383) (N 384) (N 385) Q (s 0)) [(s 1), (s 2), (s 3), (s 8), (.bool true)] h) (e1 hR) (fun s h hR => eS hC (fun s h => LoopR (slices_pdqsortOrderedG.l8 C (opsS 16 (.str []) 0) (N 377) (N 378) (N 379) (N 375) (N 380) (N 381) (N 382) (N 383) (N 384) (N 385) Q (s 0)) [(s 1), (s 2), (s 3), (s 8), (s 9)] h) (e1 hR) (fun s h hR => eK (eL hC [0] [1, 2, 3, 8, 9] (fun kv lv h Y1 => match kv with | [v0] => slices_pdqsortOrderedG.l8 C (opsS 16 (.str []) 0) (N 377) (N 378) (N 379) (N 375) (N 380) (N 381) (N 382) (N 383) (N 384) (N 385) Q v0 lv h Y1 | _ => False) hR (fun Y1 s h hR => eK (eS hC (fun s h => slices_pdqsortOrderedG.k7 C (opsS 16 (.str []) 0) (N 377) (N 378) (N 379) (N 375) (N 380) (N 381) (N 382) (N 383) (N 384) (N 385) Q Y1 (s 0) (s 1) (s 2) (s 3) (s 8) (s 9) (s 10) h) (e1 hR) (fun s h hR => eS hC (fun s h => slices_pdqsortOrderedG.k6 C (opsS 16 (.str []) 0) (N 377) (N 378) (N 379) (N 375) (N 380) (N 381) (N 382) (N 383) (N 384) (N 385) Q Y1 (s 0) (s 1) (s 2) (s 3) (s 8) (s 9) (s 10) h) (e1 hR) (fun s h hR => eS hC (fun s h => slices_pdqsortOrderedG.k5 C (opsS 16 (.str []) 0) (N 377) (N 378) (N 379) (N 375) (N 380) (N 381) (N 382) (N 383) (N 384) (N 385) Q Y1 (s 0) (s 1) (s 2) (s 3) (s 8) (s 9) (s 10) h) (e1 hR) (fun s h hR => eS hC (fun s h => slices_pdqsortOrderedG.k4 C (opsS 16 (.str []) 0) (N 377) (N 378) (N 379) (N 375) (N 380) (N 381) (N 382) (N 383) (N 384) (N 385) Q Y1 (s 0) (s 1) (s 2) (s 3) (s 8) (s 9) (s 10) h) (e1 hR) (fun s h hR => eS hC (fun s h => slices_pdqsortOrderedG.k3 C (opsS 16 (.str []) 0) (N 377) (N 378) (N 379) (N 375) (N 380) (N 381) (N 382) (N 383) (N 384) (N 385) Q Y1 (s 0) (s 1) (s 2) (s 3) (s 8) (s 9) (s 10) (s 11) (s 12) h) (e1 hR) (fun s h hR => eS hC (fun s h => slices_pdqsortOrderedG.k2 C (opsS 16 (.str []) 0) (N 377) (N 378) (N 379) (N 375) (N 380) (N 381) (N 382) (N 383) (N 384) (N 385) Q Y1 (s 0) (s 1) (s 2) (s 3) (s 8) (s 9) (s 10) (s 11) (s 12) h) (e1 hR) (fun s h hR => eS hC (fun s h => slices_pdqsortOrderedG.k1 C (opsS 16 (.str []) 0) (N 377) (N 378) (N 379) (N 375) (N 380) (N 381) (N 382) (N 383) (N 384) (N 385) Q Y1 (s 0) (s 1) (s 2) (s 3) (s 8) (s 9) (s 10) (s 11) h) (e1 hR) (fun s h hR => e1 hR))))))))))))
theorem slices_pdqsortOrdered_string.imp : slices_pdqsortOrdered_string.Imp (AC P) N := fun v0 v1 v2 v3 h Q hR => eF mixed (fn := Try.f27) (fun hC => slices_pdqsortOrdered_string.L hC (dn Q) (startS [v0, v1, v2, v3]) h hR)
def math_bits_Len.I : Bx := ⟨[], [], 8, []⟩
theorem math_bits_Len.L {C : CSem} (hC : CMono C) (Q : AVal → AHeap → Prop) (s : Slots) (h : AHeap) (hR : math_bits_Len.cps C N (s 0) h Q) : bwp P C math_bits_Len.I (Try.f28.body.getD .skip) (retB P math_bits_Len.I Try.f28.results.toList Q) s h :=
 e1 hR
theorem math_bits_Len.imp : math_bits_Len.Imp (AC P) N := fun v0 h Q hR => eF mixed (fn := Try.f28) (fun hC => math_bits_Len.L hC (dn Q) (startS [v0]) h hR)
def kit_depths_1.I : Bx := ⟨[9], [29, 35], 44, []⟩
theorem kit_depths_1.L {C : CSem} (hC : CMono C) (Q : AVal → AHeap → Prop) (s : Slots) (h : AHeap) (hR : kit_depths_1.cps C N (s 0) (s 1) (s 2) (s 3) h Q) : bwp P C kit_depths_1.I (Try.f29.body.getD .skip) (retB P kit_depths_1.I Try.f29.results.toList Q) s h :=
 eS hC (fun s h => kit_depths_1.k4 C N Q (s 0) (s 1) (s 2) (s 3) h) (e1 hR) (fun s h hR => eS hC (fun s h => B.ld h (s 1) fun v17 =>
  B.mset h .s v17 (s 0) (.int .i64 (-1)) fun h =>
  kit_depths_1.k3 C N Q (s 0) (s 1) (s 2) (s 3) (.int .i64 1) h) (e1 hR) (fun s h hR => eS hC (fun s h => kit_depths_1.k3 C N Q (s 0) (s 1) (s 2) (s 3) (.int .i64 1) h) (e1 hR) (fun s h hR => eS hC (fun s h => kit_depths_1.k3 C N Q (s 0) (s 1) (s 2) (s 3) (s 7) h) (e1 hR) (fun s h hR => eS hC (fun s h => B.ld h (s 1) fun v41 =>
  B.mset h .s v41 (s 0) (s 7) fun h =>
  Q (.bool true) h) (eS hC (fun s h => LoopR (kit_depths_1.l2 C N Q (s 0) (s 1) (s 3) (s 22) (s 23)) [(s 7), (s 24)] h) (e1 hR) (fun s h hR => eK (eL hC [0, 1, 3, 22, 23] [7, 24] (fun kv lv h Y1 => match kv with | [v0, v1, v3, v22, v23] => kit_depths_1.l2 C N Q v0 v1 v3 v22 v23 lv h Y1 | _ => False) hR (fun Y1 s h hR => e1 hR)))) (fun s h hR => e1 hR)))))
theorem kit_depths_1.imp : kit_depths_1.Imp (AC P) N := fun v0 v1 v2 v3 h Q hR => eF mixed (fn := Try.f29) (fun hC => kit_depths_1.L hC (dn Q) (startS [v0, v1, v2, v3]) h hR)
def slices_Grow_string_string.I : Bx := ⟨[], [], 27, []⟩
theorem slices_Grow_string_string.L {C : CSem} (hC : CMono C) (Q : AVal → AHeap → Prop) (s : Slots) (h : AHeap) (hR : slices_Grow_string_string.cps C N (s 0) (s 1) h Q) : bwp P C slices_Grow_string_string.I (Try.f30.body.getD .skip) (retB P slices_Grow_string_string.I Try.f30.results.toList Q) s h :=
 eS hC (fun s h => B.pv (V.bin .lss (s 1) (.int .i64 0)) fun v6 =>
  B.cond v6
  (False)
  (slices_GrowG.k1 C (opsS 16 (.str []) 0) Q (s 0) (s 1) h)) (e1 hR) (fun s h hR => eS hC (fun s h => slices_GrowG.k1 C (opsS 16 (.str []) 0) Q (s 0) (s 1) h) (e1 hR) (fun s h hR => e1 hR))
theorem slices_Grow_string_string.imp : slices_Grow_string_string.Imp (AC P) N := fun v0 v1 h Q hR => eF mixed (fn := Try.f30) (fun hC => slices_Grow_string_string.L hC (dn Q) (startS [v0, v1]) h hR)
def slices_insertionSortOrdered_string.I : Bx := ⟨[], [], 49, [(4, [(0, []), (1, []), (2, []), (3, []), (4, []), (5, []), (6, []), (7, []), (8, []), (9, []), (10, []), (11, []), (12, []), (13, []), (14, [])]), (6, [(0, []), (1, []), (2, []), (3, []), (4, []), (5, []), (6, []), (7, []), (8, []), (9, []), (10, []), (11, []), (12, []), (13, []), (14, []), (15, []), (16, []), (17, [])])]⟩
theorem slices_insertionSortOrdered_string.L {C : CSem} (hC : CMono C) (Q : AVal → AHeap → Prop) (s : Slots) (h : AHeap) (hR : slices_insertionSortOrdered_string.cps C N (s 0) (s 1) (s 2) h Q) : bwp P C slices_insertionSortOrdered_string.I (Try.f31.body.getD .skip) (retB P slices_insertionSortOrdered_string.I Try.f31.results.toList Q) s h :=
 eS hC (fun s h => LoopR (slices_insertionSortOrderedG.l3 C (opsS 16 (.str []) 0) (N 377) Q (s 0) (s 1) (s 2)) [(s 6)] h) (e1 hR) (fun s h hR => eK (eL hC [0, 1, 2] [6] (fun kv lv h Y1 => match kv with | [v0, v1, v2] => slices_insertionSortOrderedG.l3 C (opsS 16 (.str []) 0) (N 377) Q v0 v1 v2 lv h Y1 | _ => False) hR (fun Y1 s h hR => eS hC (fun s h => LoopR (slices_insertionSortOrderedG.l2 C (opsS 16 (.str []) 0) (N 377) Q Y1 (s 0) (s 1) (s 2) (s 6)) [(s 6)] h) (e1 hR) (fun s h hR => eS hC (fun s h => B.pv (V.bin .add (s 6) (.int .i64 1)) fun v14 =>
  Y1 [v14] h) (eK (eS hC (fun s h => LoopR (slices_insertionSortOrderedG.l2 C (opsS 16 (.str []) 0) (N 377) Q Y1 (s 0) (s 1) (s 2) (s 6)) [(s 7)] h) (e1 hR) (fun s h hR => eK (eL hC [0, 1, 2, 6] [7] (fun kv lv h Y2 => match kv with | [v0, v1, v2, v6] => slices_insertionSortOrderedG.l2 C (opsS 16 (.str []) 0) (N 377) Q Y1 v0 v1 v2 v6 lv h Y2 | _ => False) hR (fun Y2 s h hR => e1 hR))))) (fun s h hR => e1 hR)))))
theorem slices_insertionSortOrdered_string.imp : slices_insertionSortOrdered_string.Imp (AC P) N := fun v0 v1 v2 h Q hR => eF mixed (fn := Try.f31) (fun hC => slices_insertionSortOrdered_string.L hC (dn Q) (startS [v0, v1, v2]) h hR)
def slices_heapSortOrdered_string.I : Bx := ⟨[], [], 56, [(10, [(0, []), (1, []), (2, []), (3, []), (4, []), (5, []), (6, []), (7, []), (8, []), (9, []), (10, []), (11, []), (12, []), (13, []), (14, []), (15, []), (16, []), (17, []), (18, []), (19, [])])]⟩
theorem slices_heapSortOrdered_string.L {C : CSem} (hC : CMono C) (Q : AVal → AHeap → Prop) (s : Slots) (h : AHeap) (hR : slices_heapSortOrdered_string.cps C N (s 0) (s 1) (s 2) h Q) : bwp P C slices_heapSortOrdered_string.I (Try.f32.body.getD .skip) (retB P slices_heapSortOrdered_string.I Try.f32.results.toList Q) s h :=
 eS hC (fun s h => B.pv (V.bin .sub (s 2) (s 1)) fun v14 =>
  slices_heapSortOrderedG.k5 C (opsS 16 (.str []) 0) (N 386) Q (s 0) (s 6) (.int .i64 0) v14 h) (e1 hR) (fun s h hR => eS hC (fun s h => B.pv (V.bin .sub (s 2) (s 1)) fun v14 =>
  slices_heapSortOrderedG.k5 C (opsS 16 (.str []) 0) (N 386) Q (s 0) (s 6) (s 7) v14 h) (e1 hR) (fun s h hR => eS hC (fun s h => slices_heapSortOrderedG.k5 C (opsS 16 (.str []) 0) (N 386) Q (s 0) (s 6) (s 7) (s 8) h) (e1 hR) (fun s h hR => eS hC (fun s h => B.pv (V.bin .sub (s 8) (.int .i64 1)) fun v28 =>
  LoopR (slices_heapSortOrderedG.l2 C (opsS 16 (.str []) 0) (N 386) Q (s 0) (s 6) (s 7)) [v28] h) (eS hC (fun s h => LoopR (slices_heapSortOrderedG.l4 C (opsS 16 (.str []) 0) (N 386) Q (s 0) (s 6) (s 7) (s 8)) [(s 9)] h) (e1 hR) (fun s h hR => eK (eL hC [0, 6, 7, 8] [9] (fun kv lv h Y2 => match kv with | [v0, v6, v7, v8] => slices_heapSortOrderedG.l4 C (opsS 16 (.str []) 0) (N 386) Q v0 v6 v7 v8 lv h Y2 | _ => False) hR (fun Y2 s h hR => e1 hR)))) (fun s h hR => eS hC (fun s h => LoopR (slices_heapSortOrderedG.l2 C (opsS 16 (.str []) 0) (N 386) Q (s 0) (s 6) (s 7)) [(s 10)] h) (e1 hR) (fun s h hR => eK (eL hC [0, 6, 7] [10] (fun kv lv h Y1 => match kv with | [v0, v6, v7] => slices_heapSortOrderedG.l2 C (opsS 16 (.str []) 0) (N 386) Q v0 v6 v7 lv h Y1 | _ => False) hR (fun Y1 s h hR => e1 hR)))))))
theorem slices_heapSortOrdered_string.imp : slices_heapSortOrdered_string.Imp (AC P) N := fun v0 v1 v2 h Q hR => eF mixed (fn := Try.f32) (fun hC => slices_heapSortOrdered_string.L hC (dn Q) (startS [v0, v1, v2]) h hR)
def slices_breakPatternsOrdered_string.I : Bx := ⟨[], [], 65, [(10, [(0, []), (1, []), (2, []), (3, []), (4, []), (5, []), (6, []), (7, []), (8, []), (9, []), (10, []), (11, []), (12, []), (13, []), (14, []), (15, []), (16, []), (17, []), (18, []), (19, [])])]⟩
theorem slices_breakPatternsOrdered_string.L {C : CSem} (hC : CMono C) (Q : AVal → AHeap → Prop) (s : Slots) (h : AHeap) (hR : slices_breakPatternsOrdered_string.cps C N (s 0) (s 1) (s 2) h Q) : bwp P C slices_breakPatternsOrdered_string.I (Try.f33.body.getD .skip) (retB P slices_breakPatternsOrdered_string.I Try.f33.results.toList Q) s h :=
 eS hC (fun s h => B.pv (V.bin .geq (s 6) (.int .i64 8)) fun v15 =>
  B.cond v15 (slices_breakPatternsOrderedG.k7 C (opsS 16 (.str []) 0) (N 298) (N 299) Q (s 0) (s 1) (s 6) h) (Q (.tup []) h)) (e1 hR) (fun s h hR => eS hC (fun s h => B.cond (s 15) (slices_breakPatternsOrderedG.k7 C (opsS 16 (.str []) 0) (N 298) (N 299) Q (s 0) (s 1) (s 6) h) (Q (.tup []) h)) (e1 hR) (fun s h hR => eC 15 hR (fun hR => eS hC (fun s h => B.call C (N 299) [(s 6)] h fun v19 h =>
  slices_breakPatternsOrderedG.k6 C (opsS 16 (.str []) 0) (N 298) (N 299) Q (s 0) (s 1) (s 6) (s 7) v19 h) (e1 hR) (fun s h hR => eS hC (fun s h => slices_breakPatternsOrderedG.k6 C (opsS 16 (.str []) 0) (N 298) (N 299) Q (s 0) (s 1) (s 6) (s 7) (s 8) h) (e1 hR) (fun s h hR => eS hC (fun s h => LoopR (slices_breakPatternsOrderedG.l5 C (opsS 16 (.str []) 0) (N 298) (N 299) Q (s 0) (s 1) (s 6) (s 7) (s 8)) [(s 9)] h) (e1 hR) (fun s h hR => eK (eL hC [0, 1, 6, 7, 8] [9] (fun kv lv h Y1 => match kv with | [v0, v1, v6, v7, v8] => slices_breakPatternsOrderedG.l5 C (opsS 16 (.str []) 0) (N 298) (N 299) Q v0 v1 v6 v7 v8 lv h Y1 | _ => False) hR (fun Y1 s h hR => eS hC (fun s h => slices_breakPatternsOrderedG.k3 C (opsS 16 (.str []) 0) (N 298) (N 299) Q Y1 (s 0) (s 1) (s 6) (s 7) (s 8) (s 9) h) (e1 hR) (fun s h hR => eS hC (fun s h => B.pv (V.bin .add (s 9) (.int .i64 1)) fun v35 =>
  Y1 [v35] h) (eK (eS hC (fun s h => slices_breakPatternsOrderedG.k2 C (opsS 16 (.str []) 0) (N 298) (N 299) Q Y1 (s 0) (s 1) (s 6) (s 7) (s 8) (s 9) (s 10) h) (e1 hR) (fun s h hR => eS hC (fun s h => slices_breakPatternsOrderedG.k1 C (opsS 16 (.str []) 0) (N 298) (N 299) Q Y1 (s 0) (s 1) (s 6) (s 7) (s 8) (s 9) (s 10) h) (e1 hR) (fun s h hR => e1 hR)))) (fun s h hR => e1 hR)))))))) (fun hR => e1 hR)))
theorem slices_breakPatternsOrdered_string.imp : slices_breakPatternsOrdered_string.Imp (AC P) N := fun v0 v1 v2 h Q hR => eF mixed (fn := Try.f33) (fun hC => slices_breakPatternsOrdered_string.L hC (dn Q) (startS [v0, v1, v2]) h hR)
def slices_choosePivotOrdered_string.I : Bx := ⟨[], [], 57, []⟩
theorem slices_choosePivotOrdered_string.L {C : CSem} (hC : CMono C) (Q : AVal → AHeap → Prop) (s : Slots) (h : AHeap) (hR : slices_choosePivotOrdered_string.cps C N (s 0) (s 1) (s 2) h Q) : bwp P C slices_choosePivotOrdered_string.I (Try.f34.body.getD .skip) (retB P slices_choosePivotOrdered_string.I Try.f34.results.toList Q) s h :=
 eS hC (fun s h => B.pv (V.bin .sub (s 2) (s 1)) fun v15 =>
  B.newO h (some [.int .i64 0]) fun i9 h =>
  slices_choosePivotOrderedG.k5 C (opsS 16 (.str []) 0) (N 387) (N 388) Q (s 0) (s 1) v15 (.ptr i9 0 0) h) (e1 hR) (fun s h hR => eS hC (fun s h => B.newO h (some [.int .i64 0]) fun i9 h =>
  slices_choosePivotOrderedG.k5 C (opsS 16 (.str []) 0) (N 387) (N 388) Q (s 0) (s 1) (s 8) (.ptr i9 0 0) h) (e1 hR) (fun s h hR => eS hC (fun s h => slices_choosePivotOrderedG.k5 C (opsS 16 (.str []) 0) (N 387) (N 388) Q (s 0) (s 1) (s 8) (s 9) h) (e1 hR) (fun s h hR => eS hC (fun s h => slices_choosePivotOrderedG.k4 C (opsS 16 (.str []) 0) (N 387) (N 388) Q (s 0) (s 1) (s 8) (s 9) (s 10) h) (e1 hR) (fun s h hR => eS hC (fun s h => slices_choosePivotOrderedG.k3 C (opsS 16 (.str []) 0) (N 387) (N 388) Q (s 0) (s 1) (s 8) (s 9) (s 10) (s 11) h) (e1 hR) (fun s h hR => eS hC (fun s h => slices_choosePivotOrderedG.k2 C (opsS 16 (.str []) 0) (N 387) (N 388) Q (s 0) (s 8) (s 9) (s 10) (s 11) (s 12) h) (e1 hR) (fun s h hR => eS hC (fun s h => slices_choosePivotOrderedG.k1 C (opsS 16 (.str []) 0) (N 387) (N 388) Q (s 9) (s 11) h) (e1 hR) (fun s h hR => e1 hR)))))))
theorem slices_choosePivotOrdered_string.imp : slices_choosePivotOrdered_string.Imp (AC P) N := fun v0 v1 v2 h Q hR => eF mixed (fn := Try.f34) (fun hC => slices_choosePivotOrdered_string.L hC (dn Q) (startS [v0, v1, v2]) h hR)
def slices_reverseRangeOrdered_string.I : Bx := ⟨[], [], 32, [(3, [(0, []), (1, []), (2, []), (3, []), (4, []), (5, []), (6, []), (7, []), (8, []), (9, []), (10, []), (11, []), (12, []), (13, []), (14, []), (15, [])])]⟩
theorem slices_reverseRangeOrdered_string.L {C : CSem} (hC : CMono C) (Q : AVal → AHeap → Prop) (s : Slots) (h : AHeap) (hR : slices_reverseRangeOrdered_string.cps C N (s 0) (s 1) (s 2) h Q) : bwp P C slices_reverseRangeOrdered_string.I (Try.f35.body.getD .skip) (retB P slices_reverseRangeOrdered_string.I Try.f35.results.toList Q) s h :=
 eS hC (fun s h => B.pv (V.bin .sub (s 2) (.int .i64 1)) fun v10 =>
  LoopR (slices_reverseRangeOrderedG.l2 C (opsS 16 (.str []) 0) Q (s 0)) [(s 6), v10] h) (e1 hR) (fun s h hR => eS hC (fun s h => LoopR (slices_reverseRangeOrderedG.l2 C (opsS 16 (.str []) 0) Q (s 0)) [(s 6), (s 7)] h) (e1 hR) (fun s h hR => eK (eL hC [0] [6, 7] (fun kv lv h Y1 => match kv with | [v0] => slices_reverseRangeOrderedG.l2 C (opsS 16 (.str []) 0) Q v0 lv h Y1 | _ => False) hR (fun Y1 s h hR => e1 hR))))
theorem slices_reverseRangeOrdered_string.imp : slices_reverseRangeOrdered_string.Imp (AC P) N := fun v0 v1 v2 h Q hR => eF mixed (fn := Try.f35) (fun hC => slices_reverseRangeOrdered_string.L hC (dn Q) (startS [v0, v1, v2]) h hR)
def slices_partialInsertionSortOrdered_string.I : Bx := ⟨[], [], 133, [(5, [(0, []), (1, []), (2, []), (3, []), (4, []), (5, []), (6, []), (7, []), (8, []), (9, []), (10, []), (11, []), (12, []), (13, []), (14, []), (15, [])]), (11, [(0, []), (1, []), (2, []), (3, []), (4, []), (5, []), (6, []), (7, []), (8, []), (9, []), (10, []), (11, []), (12, []), (13, []), (14, []), (15, []), (16, []), (17, [])]), (16, [(0, []), (1, []), (2, []), (3, []), (4, []), (5, []), (6, []), (7, []), (8, []), (9, []), (10, [])]), (17, [(0, []), (1, []), (2, []), (3, []), (4, []), (5, []), (6, []), (7, []), (8, []), (9, []), (10, []), (11, []), (12, []), (13, []), (14, []), (15, []), (16, []), (17, [])]), (22, [(0, []), (1, []), (2, []), (3, []), (4, []), (5, []), (6, []), (7, []), (8, []), (9, []), (10, [])]), (23, [(0, []), (1, []), (2, []), (3, []), (4, []), (5, []), (6, []), (7, []), (8, []), (9, []), (10, []), (11, []), (12, []), (13, []), (14, []), (15, []), (16, []), (17, [])])]⟩
theorem slices_partialInsertionSortOrdered_string.L {C : CSem} (hC : CMono C) (Q : AVal → AHeap → Prop) (s : Slots) (h : AHeap) (hR : slices_partialInsertionSortOrdered_string.cps C N (s 0) (s 1) (s 2) h Q) : bwp P C slices_partialInsertionSortOrdered_string.I (Try.f36.body.getD .skip) (retB P slices_partialInsertionSortOrdered_string.I Try.f36.results.toList Q) s h :=
 eS hC (fun s h => B.pv (V.bin .add (s 1) (.int .i64 1)) fun v12 =>
  LoopR (slices_partialInsertionSortOrderedG.l12 C (opsS 16 (.str []) 0) (N 377) Q (s 0) (s 1) (s 2)) [v12, (.int .i64 0)] h) (e1 hR) (fun s h hR => eS hC (fun s h => LoopR (slices_partialInsertionSortOrderedG.l12 C (opsS 16 (.str []) 0) (N 377) Q (s 0) (s 1) (s 2)) [(s 7), (.int .i64 0)] h) (e1 hR) (fun s h hR => eS hC (fun s h => Q (.bool false) h) (eS hC (fun s h => LoopR (slices_partialInsertionSortOrderedG.l12 C (opsS 16 (.str []) 0) (N 377) Q (s 0) (s 1) (s 2)) [(s 7), (s 8)] h) (e1 hR) (fun s h hR => eK (eL hC [0, 1, 2] [7, 8] (fun kv lv h Y1 => match kv with | [v0, v1, v2] => slices_partialInsertionSortOrderedG.l12 C (opsS 16 (.str []) 0) (N 377) Q v0 v1 v2 lv h Y1 | _ => False) hR (fun Y1 s h hR => eS hC (fun s h => LoopR (slices_partialInsertionSortOrderedG.l10 C (opsS 16 (.str []) 0) (N 377) Q Y1 (s 0) (s 1) (s 2) (s 8)) [(s 7)] h) (e1 hR) (fun s h hR => eS hC (fun s h => B.pv (V.bin .add (s 8) (.int .i64 1)) fun v16 =>
  Y1 [(s 7), v16] h) (eK (eS hC (fun s h => B.pv (V.bin .eql (s 7) (s 2)) fun v37 =>
  B.cond v37
  (Q (.bool true) h)
  (slices_partialInsertionSortOrderedG.k8 C (opsS 16 (.str []) 0) (N 377) Q Y1 (s 0) (s 1) (s 2) (s 7) (s 8) h)) (eK (eL hC [0, 1, 2, 8] [7] (fun kv lv h Y4 => match kv with | [v0, v1, v2, v8] => slices_partialInsertionSortOrderedG.l10 C (opsS 16 (.str []) 0) (N 377) Q Y1 v0 v1 v2 v8 lv h Y4 | _ => False) hR (fun Y4 s h hR => e1 hR))) (fun s h hR => eS hC (fun s h => slices_partialInsertionSortOrderedG.k8 C (opsS 16 (.str []) 0) (N 377) Q Y1 (s 0) (s 1) (s 2) (s 7) (s 8) h) (e1 hR) (fun s h hR => eS hC (fun s h => slices_partialInsertionSortOrderedG.k7 C (opsS 16 (.str []) 0) (N 377) Q Y1 (s 0) (s 1) (s 2) (s 7) (s 8) h) (e1 hR) (fun s h hR => eS hC (fun s h => slices_partialInsertionSortOrderedG.k6 C (opsS 16 (.str []) 0) (N 377) Q Y1 (s 0) (s 1) (s 2) (s 7) (s 8) h) (e1 hR) (fun s h hR => eS hC (fun s h => slices_partialInsertionSortOrderedG.k3 C (opsS 16 (.str []) 0) (N 377) Q Y1 (s 0) (s 1) (s 2) (s 7) (s 8) h) (eS hC (fun s h => B.cond (s 61) (B.pv (V.bin .sub (s 7) (.int .i64 1)) fun v63 =>
  LoopR (slices_partialInsertionSortOrderedG.l5 C (opsS 16 (.str []) 0) (N 377) Q Y1 (s 0) (s 1) (s 2) (s 7) (s 8)) [v63] h) (slices_partialInsertionSortOrderedG.k3 C (opsS 16 (.str []) 0) (N 377) Q Y1 (s 0) (s 1) (s 2) (s 7) (s 8) h)) (e1 hR) (fun s h hR => eC 61 hR (fun hR => eS hC (fun s h => LoopR (slices_partialInsertionSortOrderedG.l5 C (opsS 16 (.str []) 0) (N 377) Q Y1 (s 0) (s 1) (s 2) (s 7) (s 8)) [(s 9)] h) (e1 hR) (fun s h hR => eK (eL hC [0, 1, 2, 7, 8] [9] (fun kv lv h Y3 => match kv with | [v0, v1, v2, v7, v8] => slices_partialInsertionSortOrderedG.l5 C (opsS 16 (.str []) 0) (N 377) Q Y1 v0 v1 v2 v7 v8 lv h Y3 | _ => False) hR (fun Y3 s h hR => e1 hR)))) (fun hR => e1 hR))) (fun s h hR => eS hC (fun s h => B.cond (s 98) (B.pv (V.bin .add (s 7) (.int .i64 1)) fun v100 =>
  LoopR (slices_partialInsertionSortOrderedG.l2 C (opsS 16 (.str []) 0) (N 377) Q Y1 (s 0) (s 1) (s 2) (s 7) (s 8)) [v100] h) (B.pv (V.bin .add (s 8) (.int .i64 1)) fun v16 =>
  Y1 [(s 7), v16] h)) (e1 hR) (fun s h hR => eC 98 hR (fun hR => eS hC (fun s h => LoopR (slices_partialInsertionSortOrderedG.l2 C (opsS 16 (.str []) 0) (N 377) Q Y1 (s 0) (s 1) (s 2) (s 7) (s 8)) [(s 10)] h) (e1 hR) (fun s h hR => eK (eL hC [0, 1, 2, 7, 8] [10] (fun kv lv h Y2 => match kv with | [v0, v1, v2, v7, v8] => slices_partialInsertionSortOrderedG.l2 C (opsS 16 (.str []) 0) (N 377) Q Y1 v0 v1 v2 v7 v8 lv h Y2 | _ => False) hR (fun Y2 s h hR => e1 hR)))) (fun hR => e1 hR))))))))) (fun s h hR => e1 hR)))))) (fun s h hR => e1 hR)))
theorem slices_partialInsertionSortOrdered_string.imp : slices_partialInsertionSortOrdered_string.Imp (AC P) N := fun v0 v1 v2 h Q hR => eF mixed (fn := Try.f36) (fun hC => slices_partialInsertionSortOrdered_string.L hC (dn Q) (startS [v0, v1, v2]) h hR)
def cmp_Less_string.I : Bx := ⟨[], [], 17, []⟩
theorem cmp_Less_string.L {C : CSem} (hC : CMono C) (Q : AVal → AHeap → Prop) (s : Slots) (h : AHeap) (hR : cmp_Less_string.cps C N (s 0) (s 1) h Q) : bwp P C cmp_Less_string.I (Try.f37.body.getD .skip) (retB P cmp_Less_string.I Try.f37.results.toList Q) s h :=
 e1 hR
theorem cmp_Less_string.imp : cmp_Less_string.Imp (AC P) N := fun v0 v1 h Q hR => eF mixed (fn := Try.f37) (fun hC => cmp_Less_string.L hC (dn Q) (startS [v0, v1]) h hR)
def slices_partitionEqualOrdered_string.I : Bx := ⟨[], [], 84, [(1, [(0, []), (1, []), (2, []), (3, []), (4, []), (5, []), (6, []), (7, []), (8, []), (9, []), (10, []), (11, []), (12, []), (13, []), (14, []), (15, [])]), (3, [(0, []), (1, []), (2, []), (3, []), (4, []), (5, []), (6, []), (7, []), (8, []), (9, []), (10, []), (11, []), (12, []), (13, []), (14, [])]), (5, [(0, []), (1, []), (2, []), (3, []), (4, []), (5, []), (6, []), (7, []), (8, []), (9, []), (10, []), (11, []), (12, []), (13, [])]), (8, [(0, []), (1, []), (2, []), (3, []), (4, []), (5, []), (6, []), (7, []), (8, []), (9, []), (10, []), (11, []), (12, []), (13, []), (14, []), (15, [])])]⟩
theorem slices_partitionEqualOrdered_string.L {C : CSem} (hC : CMono C) (Q : AVal → AHeap → Prop) (s : Slots) (h : AHeap) (hR : slices_partitionEqualOrdered_string.cps C N (s 0) (s 1) (s 2) (s 3) h Q) : bwp P C slices_partitionEqualOrdered_string.I (Try.f38.body.getD .skip) (retB P slices_partitionEqualOrdered_string.I Try.f38.results.toList Q) s h :=
 eS hC (fun s h => slices_partitionEqualOrderedG.k8 C (opsS 16 (.str []) 0) (N 377) Q (s 0) (s 1) (s 2) (s 3) h) (e1 hR) (fun s h hR => eS hC (fun s h => slices_partitionEqualOrderedG.k7 C (opsS 16 (.str []) 0) (N 377) Q (s 0) (s 1) (s 2) h) (e1 hR) (fun s h hR => eS hC (fun s h => LoopR (slices_partitionEqualOrderedG.l6 C (opsS 16 (.str []) 0) (N 377) Q (s 0) (s 1)) [(s 9), (s 10)] h) (e1 hR) (fun s h hR => eS hC (fun s h => Q (s 9) h) (eK (eL hC [0, 1] [9, 10] (fun kv lv h Y1 => match kv with | [v0, v1] => slices_partitionEqualOrderedG.l6 C (opsS 16 (.str []) 0) (N 377) Q v0 v1 lv h Y1 | _ => False) hR (fun Y1 s h hR => eK (eS hC (fun s h => LoopR (slices_partitionEqualOrderedG.l3 C (opsS 16 (.str []) 0) (N 377) Q Y1 (s 0) (s 1) (s 9)) [(s 10)] h) (eK (eL hC [0, 1, 10] [9] (fun kv lv h Y3 => match kv with | [v0, v1, v10] => slices_partitionEqualOrderedG.l5 C (opsS 16 (.str []) 0) (N 377) Q Y1 v0 v1 v10 lv h Y3 | _ => False) hR (fun Y3 s h hR => e1 hR))) (fun s h hR => eS hC (fun s h => slices_partitionEqualOrderedG.k1 C (opsS 16 (.str []) 0) (N 377) Q Y1 (s 0) (s 1) (s 9) (s 10) h) (eK (eL hC [0, 1, 9] [10] (fun kv lv h Y2 => match kv with | [v0, v1, v9] => slices_partitionEqualOrderedG.l3 C (opsS 16 (.str []) 0) (N 377) Q Y1 v0 v1 v9 lv h Y2 | _ => False) hR (fun Y2 s h hR => e1 hR))) (fun s h hR => e1 hR)))))) (fun s h hR => e1 hR))))
theorem slices_partitionEqualOrdered_string.imp : slices_partitionEqualOrdered_string.Imp (AC P) N := fun v0 v1 v2 v3 h Q hR => eF mixed (fn := Try.f38) (fun hC => slices_partitionEqualOrdered_string.L hC (dn Q) (startS [v0, v1, v2, v3]) h hR)
def slices_partitionOrdered_string.I : Bx := ⟨[], [], 168, [(1, [(0, []), (1, []), (2, []), (3, []), (4, []), (5, []), (6, []), (7, []), (8, []), (9, []), (10, []), (11, []), (12, []), (13, []), (14, []), (15, [])]), (3, [(0, []), (1, []), (2, []), (3, []), (4, []), (5, []), (6, []), (7, []), (8, []), (9, []), (10, []), (11, []), (12, []), (13, [])]), (5, [(0, []), (1, []), (2, []), (3, []), (4, []), (5, []), (6, []), (7, []), (8, []), (9, []), (10, []), (11, []), (12, []), (13, []), (14, [])]), (8, [(0, []), (1, []), (2, []), (3, []), (4, []), (5, []), (6, []), (7, []), (8, []), (9, []), (10, []), (11, []), (12, []), (13, []), (14, []), (15, [])]), (10, [(0, []), (1, []), (2, []), (3, []), (4, []), (5, []), (6, []), (7, []), (8, []), (9, []), (10, []), (11, []), (12, []), (13, []), (14, []), (15, [])]), (13, [(0, []), (1, []), (2, []), (3, []), (4, []), (5, []), (6, []), (7, []), (8, []), (9, []), (10, []), (11, []), (12, []), (13, [])]), (15, [(0, []), (1, []), (2, []), (3, []), (4, []), (5, []), (6, []), (7, []), (8, []), (9, []), (10, []), (11, []), (12, []), (13, []), (14, [])]), (18, [(0, []), (1, []), (2, []), (3, []), (4, []), (5, []), (6, []), (7, []), (8, []), (9, []), (10, []), (11, []), (12, []), (13, []), (14, []), (15, [])]), (21, [(0, []), (1, []), (2, []), (3, []), (4, []), (5, []), (6, []), (7, []), (8, []), (9, []), (10, []), (11, []), (12, []), (13, []), (14, []), (15, [])])]⟩
theorem slices_partitionOrdered_string.L {C : CSem} (hC : CMono C) (Q : AVal → AHeap → Prop) (s : Slots) (h : AHeap) (hR : slices_partitionOrdered_string.cps C N (s 0) (s 1) (s 2) (s 3) h Q) : bwp P C slices_partitionOrdered_string.I (Try.f39.body.getD .skip) (retB P slices_partitionOrdered_string.I Try.f39.results.toList Q) s h :=
 eS hC (fun s h => slices_partitionOrderedG.k16 C (opsS 16 (.str []) 0) (N 377) Q (s 0) (s 1) (s 2) (s 3) h) (e1 hR) (fun s h hR => eS hC (fun s h => slices_partitionOrderedG.k15 C (opsS 16 (.str []) 0) (N 377) Q (s 0) (s 1) (s 2) h) (e1 hR) (fun s h hR => eS hC (fun s h => LoopR (slices_partitionOrderedG.l14 C (opsS 16 (.str []) 0) (N 377) Q (s 0) (s 1) (s 11)) [(s 10)] h) (e1 hR) (fun s h hR => eS hC (fun s h => LoopR (slices_partitionOrderedG.l12 C (opsS 16 (.str []) 0) (N 377) Q (s 0) (s 1) (s 10)) [(s 11)] h) (eK (eL hC [0, 1, 11] [10] (fun kv lv h Y5 => match kv with | [v0, v1, v11] => slices_partitionOrderedG.l14 C (opsS 16 (.str []) 0) (N 377) Q v0 v1 v11 lv h Y5 | _ => False) hR (fun Y5 s h hR => e1 hR))) (fun s h hR => eS hC (fun s h => slices_partitionOrderedG.k10 C (opsS 16 (.str []) 0) (N 377) Q (s 0) (s 1) (s 10) (s 11) h) (eK (eL hC [0, 1, 10] [11] (fun kv lv h Y4 => match kv with | [v0, v1, v10] => slices_partitionOrderedG.l12 C (opsS 16 (.str []) 0) (N 377) Q v0 v1 v10 lv h Y4 | _ => False) hR (fun Y4 s h hR => e1 hR))) (fun s h hR => eS hC (fun s h => slices_partitionOrderedG.k9 C (opsS 16 (.str []) 0) (N 377) Q (s 0) (s 1) (s 10) (s 11) h) (e1 hR) (fun s h hR => eS hC (fun s h => slices_partitionOrderedG.k8 C (opsS 16 (.str []) 0) (N 377) Q (s 0) (s 1) (s 10) (s 11) h) (e1 hR) (fun s h hR => eS hC (fun s h => B.pv (V.bin .sub (s 11) (.int .i64 1)) fun v98 =>
  LoopR (slices_partitionOrderedG.l7 C (opsS 16 (.str []) 0) (N 377) Q (s 0) (s 1)) [(s 10), v98] h) (e1 hR) (fun s h hR => eS hC (fun s h => LoopR (slices_partitionOrderedG.l7 C (opsS 16 (.str []) 0) (N 377) Q (s 0) (s 1)) [(s 10), (s 11)] h) (e1 hR) (fun s h hR => eS hC (fun s h => slices_partitionOrderedG.k1 C (opsS 16 (.str []) 0) (N 377) Q (s 0) (s 1) (s 11) h) (eK (eL hC [0, 1] [10, 11] (fun kv lv h Y1 => match kv with | [v0, v1] => slices_partitionOrderedG.l7 C (opsS 16 (.str []) 0) (N 377) Q v0 v1 lv h Y1 | _ => False) hR (fun Y1 s h hR => eK (eS hC (fun s h => LoopR (slices_partitionOrderedG.l4 C (opsS 16 (.str []) 0) (N 377) Q Y1 (s 0) (s 1) (s 10)) [(s 11)] h) (eK (eL hC [0, 1, 11] [10] (fun kv lv h Y3 => match kv with | [v0, v1, v11] => slices_partitionOrderedG.l6 C (opsS 16 (.str []) 0) (N 377) Q Y1 v0 v1 v11 lv h Y3 | _ => False) hR (fun Y3 s h hR => e1 hR))) (fun s h hR => eS hC (fun s h => slices_partitionOrderedG.k2 C (opsS 16 (.str []) 0) (N 377) Q Y1 (s 0) (s 1) (s 10) (s 11) h) (eK (eL hC [0, 1, 10] [11] (fun kv lv h Y2 => match kv with | [v0, v1, v10] => slices_partitionOrderedG.l4 C (opsS 16 (.str []) 0) (N 377) Q Y1 v0 v1 v10 lv h Y2 | _ => False) hR (fun Y2 s h hR => e1 hR))) (fun s h hR => e1 hR)))))) (fun s h hR => e1 hR))))))))))
theorem slices_partitionOrdered_string.imp : slices_partitionOrdered_string.Imp (AC P) N := fun v0 v1 v2 v3 h Q hR => eF mixed (fn := Try.f39) (fun hC => slices_partitionOrdered_string.L hC (dn Q) (startS [v0, v1, v2, v3]) h hR)
def math_bits_Len64.I : Bx := ⟨[], [], 25, []⟩
theorem math_bits_Len64.L {C : CSem} (hC : CMono C) (Q : AVal → AHeap → Prop) (s : Slots) (h : AHeap) (hR : math_bits_Len64.cps C N (s 0) h Q) : bwp P C math_bits_Len64.I (Try.f41.body.getD .skip) (retB P math_bits_Len64.I Try.f41.results.toList Q) s h :=
 eS hC (fun s h => math_bits_Len64.k4 C N Q (s 0) (s 2) h) (e1 hR) (fun s h hR => eS hC (fun s h => math_bits_Len64.k3 C N Q (s 0) (s 2) h) (e1 hR) (fun s h hR => eS hC (fun s h => math_bits_Len64.k2 C N Q (s 0) (s 2) h) (e1 hR) (fun s h hR => eS hC (fun s h => math_bits_Len64.k1 C N Q (s 0) (s 2) h) (e1 hR) (fun s h hR => e1 hR))))
theorem math_bits_Len64.imp : math_bits_Len64.Imp (AC P) N := fun v0 h Q hR => eF mixed (fn := Try.f41) (fun hC => math_bits_Len64.L hC (dn Q) (startS [v0]) h hR)
def slices_siftDownOrdered_string.I : Bx := ⟨[], [], 76, [(3, [(0, []), (1, []), (2, []), (3, []), (4, []), (5, []), (6, []), (7, []), (8, []), (9, []), (10, []), (11, []), (12, []), (13, []), (14, []), (15, []), (16, []), (17, []), (18, []), (19, [])]), (5, [(0, []), (1, []), (2, []), (3, []), (4, []), (5, []), (6, []), (7, []), (8, []), (9, []), (10, []), (11, []), (12, []), (13, [])]), (6, [(0, []), (1, []), (2, []), (3, []), (4, []), (5, []), (6, []), (7, []), (8, []), (9, []), (10, []), (11, []), (12, []), (13, []), (14, []), (15, []), (16, []), (17, []), (18, []), (19, []), (20, []), (21, []), (22, []), (23, [])])]⟩
theorem slices_siftDownOrdered_string.L {C : CSem} (hC : CMono C) (Q : AVal → AHeap → Prop) (s : Slots) (h : AHeap) (hR : slices_siftDownOrdered_string.cps C N (s 0) (s 1) (s 2) (s 3) h Q) : bwp P C slices_siftDownOrdered_string.I (Try.f42.body.getD .skip) (retB P slices_siftDownOrdered_string.I Try.f42.results.toList Q) s h :=
 eS hC (fun s h => LoopR (slices_siftDownOrderedG.l4 C (opsS 16 (.str []) 0) (N 377) Q (s 0) (s 2) (s 3)) [(s 8)] h) (e1 hR) (fun s h hR => eK (eL hC [0, 2, 3] [8] (fun kv lv h Y1 => match kv with | [v0, v2, v3] => slices_siftDownOrderedG.l4 C (opsS 16 (.str []) 0) (N 377) Q v0 v2 v3 lv h Y1 | _ => False) hR (fun Y1 s h hR => eK (eS hC (fun s h => B.pv (V.bin .geq (s 9) (s 2)) fun v16 =>
  B.cond v16
  (Q (.tup []) h)
  (slices_siftDownOrderedG.k2 C (opsS 16 (.str []) 0) (N 377) Q Y1 (s 0) (s 2) (s 3) (s 8) (s 9) h)) (e1 hR) (fun s h hR => eS hC (fun s h => slices_siftDownOrderedG.k2 C (opsS 16 (.str []) 0) (N 377) Q Y1 (s 0) (s 2) (s 3) (s 8) (s 9) h) (e1 hR) (fun s h hR => eS hC (fun s h => slices_siftDownOrderedG.k1 C (opsS 16 (.str []) 0) (N 377) Q Y1 (s 0) (s 2) (s 3) (s 8) (s 9) h) (e1 hR) (fun s h hR => e1 hR)))))))
theorem slices_siftDownOrdered_string.imp : slices_siftDownOrdered_string.Imp (AC P) N := fun v0 v1 v2 v3 h Q hR => eF mixed (fn := Try.f42) (fun hC => slices_siftDownOrdered_string.L hC (dn Q) (startS [v0, v1, v2, v3]) h hR)
def slices_nextPowerOfTwo.I : Bx := ⟨[], [], 7, []⟩
theorem slices_nextPowerOfTwo.L {C : CSem} (hC : CMono C) (Q : AVal → AHeap → Prop) (s : Slots) (h : AHeap) (hR : slices_nextPowerOfTwo.cps C N (s 0) h Q) : bwp P C slices_nextPowerOfTwo.I (Try.f43.body.getD .skip) (retB P slices_nextPowerOfTwo.I Try.f43.results.toList Q) s h :=
 e1 hR
theorem slices_nextPowerOfTwo.imp : slices_nextPowerOfTwo.Imp (AC P) N := fun v0 h Q hR => eF mixed (fn := Try.f43) (fun hC => slices_nextPowerOfTwo.L hC (dn Q) (startS [v0]) h hR)
def slices_xorshift_Next.I : Bx := ⟨[], [], 33, [(1, [(0, []), (1, []), (2, []), (3, []), (4, []), (5, []), (6, []), (7, []), (8, []), (9, [])]), (2, [(0, []), (1, []), (2, []), (3, []), (4, []), (5, []), (6, []), (7, []), (8, []), (9, [])]), (3, [(0, []), (1, []), (2, []), (3, []), (4, []), (5, []), (6, []), (7, []), (8, []), (9, [])])]⟩
theorem slices_xorshift_Next.L {C : CSem} (hC : CMono C) (Q : AVal → AHeap → Prop) (s : Slots) (h : AHeap) (hR : slices_xorshift_Next.cps C N (s 0) h Q) : bwp P C slices_xorshift_Next.I (Try.f44.body.getD .skip) (retB P slices_xorshift_Next.I Try.f44.results.toList Q) s h :=
 e1 hR
theorem slices_xorshift_Next.imp : slices_xorshift_Next.Imp (AC P) N := fun v0 h Q hR => eF mixed (fn := Try.f44) (fun hC => slices_xorshift_Next.L hC (dn Q) (startS [v0]) h hR)
def slices_medianAdjacentOrdered_string.I : Bx := ⟨[], [], 15, []⟩
theorem slices_medianAdjacentOrdered_string.L {C : CSem} (hC : CMono C) (Q : AVal → AHeap → Prop) (s : Slots) (h : AHeap) (hR : slices_medianAdjacentOrdered_string.cps C N (s 0) (s 1) (s 2) h Q) : bwp P C slices_medianAdjacentOrdered_string.I (Try.f45.body.getD .skip) (retB P slices_medianAdjacentOrdered_string.I Try.f45.results.toList Q) s h :=
 e1 hR
theorem slices_medianAdjacentOrdered_string.imp : slices_medianAdjacentOrdered_string.Imp (AC P) N := fun v0 v1 v2 h Q hR => eF mixed (fn := Try.f45) (fun hC => slices_medianAdjacentOrdered_string.L hC (dn Q) (startS [v0, v1, v2]) h hR)
def slices_medianOrdered_string.I : Bx := ⟨[], [], 36, []⟩
theorem slices_medianOrdered_string.L {C : CSem} (hC : CMono C) (Q : AVal → AHeap → Prop) (s : Slots) (h : AHeap) (hR : slices_medianOrdered_string.cps C N (s 0) (s 1) (s 2) (s 3) (s 4) h Q) : bwp P C slices_medianOrdered_string.I (Try.f46.body.getD .skip) (retB P slices_medianOrdered_string.I Try.f46.results.toList Q) s h :=
 e1 hR
theorem slices_medianOrdered_string.imp : slices_medianOrdered_string.Imp (AC P) N := fun v0 v1 v2 v3 v4 h Q hR => eF mixed (fn := Try.f46) (fun hC => slices_medianOrdered_string.L hC (dn Q) (startS [v0, v1, v2, v3, v4]) h hR)
def cmp_isNaN_string.I : Bx := ⟨[], [], 6, []⟩
theorem cmp_isNaN_string.L {C : CSem} (hC : CMono C) (Q : AVal → AHeap → Prop) (s : Slots) (h : AHeap) (hR : cmp_isNaN_string.cps C N (s 0) h Q) : bwp P C cmp_isNaN_string.I (Try.f47.body.getD .skip) (retB P cmp_isNaN_string.I Try.f47.results.toList Q) s h :=
 e1 hR
theorem cmp_isNaN_string.imp : cmp_isNaN_string.Imp (AC P) N := fun v0 h Q hR => eF mixed (fn := Try.f47) (fun hC => cmp_isNaN_string.L hC (dn Q) (startS [v0]) h hR)
def slices_order2Ordered_string.I : Bx := ⟨[], [], 28, [(1, [(0, []), (1, []), (2, []), (3, []), (4, []), (5, []), (6, []), (7, []), (8, [])])]⟩
theorem slices_order2Ordered_string.L {C : CSem} (hC : CMono C) (Q : AVal → AHeap → Prop) (s : Slots) (h : AHeap) (hR : slices_order2Ordered_string.cps C N (s 0) (s 1) (s 2) (s 3) h Q) : bwp P C slices_order2Ordered_string.I (Try.f48.body.getD .skip) (retB P slices_order2Ordered_string.I Try.f48.results.toList Q) s h :=
 e1 hR
theorem slices_order2Ordered_string.imp : slices_order2Ordered_string.Imp (AC P) N := fun v0 v1 v2 v3 h Q hR => eF mixed (fn := Try.f48) (fun hC => slices_order2Ordered_string.L hC (dn Q) (startS [v0, v1, v2, v3]) h hR)
end Go.Ab.S08
namespace Go.Ab
variable {C : CSem} {N : Nat → Nat}
section
variable {h h' : AHeap} {x : AVal} {b : List UInt8}
end
theorem SlX.cutR {h : AHeap} {es : Nat} {x : AVal} {L R S : List (List AVal)} (hs : SlX h es x L (R ++ S)) : SlX h es x L R := by
 refine ⟨fun p hp => hs.len p (by rcases List.mem_append.1 hp with h | h; exact List.mem_append_left _ h; exact List.mem_append_right _ (List.mem_append_left _ h)), ?_⟩
 rcases hs.at_ with ⟨e, e2, e'⟩ | ⟨id, g, off, cp, b, hi, h1, h1', h2, h3, h4, hh, h5⟩
 ·exact .inl ⟨e, (List.append_eq_nil_iff.1 e2).1, e'⟩
 ·have hl : ∀ p ∈ L ++ R, p.length = es := fun p hp => hs.len p (by rcases List.mem_append.1 hp with h | h; exact List.mem_append_left _ h; exact List.mem_append_right _ (List.mem_append_left _ h))
  have hfl := flat_len hl
  rw [List.length_append] at h1' h4 h5 hfl
  have hm : (L.length + R.length) * es ≤ (L.length + (R.length + S.length)) * es := Nat.mul_le_mul_right _ (by omega)
  refine .inr ⟨id, g, off, cp, b, hi, h1, by omega, h2, h3, by omega, hh, ?_⟩
  have : ((b.cells.drop off).take ((L.length + (R.length + S.length)) * es)).take ((L.length + R.length) * es) = (L ++ R).flatten := by
   rw [h5, ← List.append_assoc, List.flatten_append (L₁ := L ++ R), List.take_append_of_le_length (by omega), List.take_of_length_le (by omega)]
  rw [← this, List.take_take, Nat.min_eq_left hm]
abbrev AllAt (h : AHeap) (l : List Ob) : Prop := ∀ o ∈ l, o.at h
structure DK (T Ad : Type) where
 n : Nat
 bytes : Nat
 z : List AVal
 pos : 0 < n
 small : bytes ≤ 1000
 zlen : z.length = n
 cells : T → Ad → List AVal
 len : ∀ t a, (cells t a).length = n
 at_ : AHeap → T → Ad → Prop
 mono : ∀ {h h' : AHeap} {t : T} {a : Ad}, h.le h' → at_ h t a → at_ h' t a
 ok : T → Prop
 at_ok : ∀ {h : AHeap} {t : T} {a : Ad}, at_ h t a → ok t
 obs : Bool → T → Ad → List Ob
 ofObs : ∀ {b : Bool} {h : AHeap} {t : T} {a : Ad}, ok t → AllAt h (obs b t a) → at_ h t a
section
variable {T Ad : Type} (K : DK T Ad)
abbrev DK.cs (p : T × Ad) : List AVal := K.cells p.1 p.2
def DK.os (b : Bool) (P : List (T × Ad)) : List Ob := P.flatMap fun p => K.obs b p.1 p.2
def Dl (h : AHeap) (x : AVal) (L : List T) : Prop := ∃ (P : List (T × Ad)) (R : List (List AVal)), P.map (·.1) = L ∧ SlX h K.n x (P.map K.cs) R ∧ ∀ p ∈ P, K.at_ h p.1 p.2
structure DEl (h : AHeap) (x : AVal) (i : Nat) (t : T) (a : Ad) : Prop where
 idx : V.idxS K.n x (.int .i64 (i : Int)) = some (elp K.n x i 0)
 ldn : A.ldnv h (elp K.n x i 0) K.n = some (.agg (K.cells t a))
 fld : ∀ f o, V.fieldAddr o (elp K.n x i f) = some (elp K.n x i (f + o))
 ld : ∀ f, f < K.n → A.ldv h (elp K.n x i f) = (K.cells t a)[f]?
 at_ : K.at_ h t a
variable {K} {h h' h0 : AHeap} {x : AVal} {L M : List T}
theorem slX_el {h : AHeap} {x : AVal} {P : List (T × Ad)} {R : List (List AVal)} (s : SlX h K.n x (P.map K.cs) R) (ha : ∀ p ∈ P, K.at_ h p.1 p.2) {i : Nat} {p : T × Ad} (hi : P[i]? = some p) : DEl K h x i p.1 p.2 := by
 have hc : (P.map K.cs)[i]? = some (K.cells p.1 p.2) := by rw [List.getElem?_map, hi]; rfl
 have hl : i < (P.map K.cs).length := (List.getElem?_eq_some_iff.1 hc).1
 exact ⟨s.idxN hl, s.elem hc, fun f o => s.fieldA hl f o, fun f hf => s.ldv hc hf, ha p (List.mem_of_getElem? hi)⟩
theorem Dl.get (hd : Dl K h x L) {i : Nat} {t : T} (hi : L[i]? = some t) : ∃ a, DEl K h x i t a := by
 obtain ⟨P, R, rfl, s, ha⟩ := hd
 rw [List.getElem?_map] at hi
 obtain ⟨p, hp, rfl⟩ := Option.map_eq_some_iff.1 hi
 exact ⟨p.2, slX_el s ha hp⟩
theorem Dl.mono (hd : Dl K h x L) (hle : h.le h') : Dl K h' x L := by
 obtain ⟨P, R, e, s, ha⟩ := hd
 exact ⟨P, R, e, s.mono hle, fun p hp => K.mono hle (ha p hp)⟩
theorem Dl.lenSl (hd : Dl K h x L) : V.lenSl x = some (.int .i64 L.length) := by
 obtain ⟨P, R, rfl, s, ha⟩ := hd
 simpa using s.lenSl
theorem Dl.ok (hd : Dl K h x L) : ∀ t ∈ L, K.ok t := by
 obtain ⟨P, R, rfl, s, ha⟩ := hd
 intro t ht
 obtain ⟨p, hp, rfl⟩ := List.mem_map.1 ht
 exact K.at_ok (ha p hp)
theorem dl_of {P : List (T × Ad)} {R : List (List AVal)} {b : Bool} {l : List Ob} (hok : ∀ p ∈ P, K.ok p.1) (hl : AllAt h l) (h1 : .sl K.n x (P.map K.cs) R ∈ l) (h2 : ∀ o ∈ K.os b P, o ∈ l) : Dl K h x (P.map (·.1)) :=
 ⟨P, R, rfl, hl _ h1, fun p hp => K.ofObs (hok p hp) fun o ho => hl o (h2 o (List.mem_flatMap.2 ⟨p, hp, ho⟩))⟩
theorem DK.os_append (b : Bool) (P P' : List (T × Ad)) : K.os b (P ++ P') = K.os b P ++ K.os b P' := List.flatMap_append
theorem DK.os_one (b : Bool) (p : T × Ad) : K.os b [p] = K.obs b p.1 p.2 := by simp [DK.os]
abbrev Df (K : DK T Ad) (h0 h : AHeap) (x : AVal) (P : List (T × Ad)) : Prop := Owns h0 h (.sl K.n x (P.map K.cs) [] :: K.os false P)
theorem Df.dl {P : List (T × Ad)} (hd : Df K h0 h x P) (hok : ∀ p ∈ P, K.ok p.1) : Dl K h x (P.map (·.1)) := dl_of (b := false) hok hd.is (List.mem_cons_self ..) fun o ho => List.mem_cons_of_mem _ ho
def OneE (K : DK T Ad) (b : Bool) (C : CSem) (f : Nat) : Prop := ∀ (t : T) (a : Ad) (h : AHeap) (Q : AVal → AHeap → Prop), K.at_ h t a → (∀ a' h', Owns h h' (K.obs b t a') → Q (.agg (K.cells t a')) h') → C f [.agg (K.cells t a)] h Q
def MarkE (K : DK T Ad) (mk : Int → Int → T) (C : CSem) (f : Nat) : Prop := ∀ (k i : Int) (h : AHeap) (Q : AVal → AHeap → Prop), (∀ a' h', Owns h h' (K.obs false (mk k i) a') → Q (.agg (K.cells (mk k i) a')) h') → C f [.int .i64 k, .int .i64 i] h Q
theorem fill_agg (K : DK T Ad) (t : T) (a : Ad) : fillL [(0, some K.n, .agg (K.cells t a))] (repL 1 K.z) = some (K.cells t a) := by
 have hrep : repL 1 K.z = K.z := by unfold repL; split <;> simp_all
 have h1 := K.len t a
 rw [hrep]
 simp [h1, K.zlen]
@[simp] def sameD.k1 (C : CSem) (n f : Nat) (Q : AVal → AHeap → Prop) (Y1 : List AVal → AHeap → Prop) (v0 v1 v5 : AVal) (h : AHeap) : Prop :=
 B.pv (V.lenSl v0) fun v13 =>
  B.pv (V.bin .lss v5 v13) fun v14 =>
  B.cond v14
  (B.pv (V.idxS n v0 v5) fun v19 =>
  B.ldn h v19 n fun v20 =>
  B.pv (V.idxS n v1 v5) fun v23 =>
  B.ldn h v23 n fun v24 =>
  B.call C f [v20, v24] h fun v25 h =>
  B.pv (V.un .not v25) fun v26 =>
  B.cond v26
  (Q (.bool false) h)
  (B.pv (V.bin .add v5 (.int .i64 1)) fun v16 =>
  Y1 [v16] h))
  (Q (.bool true) h)
@[simp] def sameD.l2 (C : CSem) (n f : Nat) (Q : AVal → AHeap → Prop) (v0 v1 : AVal) : List AVal → AHeap → (List AVal → AHeap → Prop) → Prop
 | [v5], h, Y1 => sameD.k1 C n f Q Y1 v0 v1 v5 h
 | _, _, _ => False
def mks12 (mk : Int → Int → T) : List T := (List.range 12).map fun (i : Nat) => mk 1 (i : Int)
@[simp] def lentD.k1 (C : CSem) (n bytes fm : Nat) (z : List AVal) (Q : AVal → AHeap → Prop) (Y1 : List AVal → AHeap → Prop) (v0 v3 v6 : AVal) (h : AHeap) : Prop :=
 B.pv (V.bin .lss v6 (.int .i64 12)) fun v27 =>
  B.cond v27
  (B.call C fm [(.int .i64 1), v6] h fun v32 h =>
  B.newO h (fillL [(0, some n, v32)] (repL 1 z)) fun i33 h =>
  B.appW h n bytes v3 (.sl i33 0 0 1 n 1) fun v34 h =>
  B.pv (V.bin .add v6 (.int .i64 1)) fun v29 =>
  Y1 [v34, v29] h)
  (B.pv (V.lenSl v0) fun v37 =>
  B.pv (V.cutSl n v3 none (some v37)) fun v38 =>
  Q v38 h)
@[simp] def lentD.l2 (C : CSem) (n bytes fm : Nat) (z : List AVal) (Q : AVal → AHeap → Prop) (v0 : AVal) : List AVal → AHeap → (List AVal → AHeap → Prop) → Prop
 | [v3, v6], h, Y1 => lentD.k1 C n bytes fm z Q Y1 v0 v3 v6 h
 | _, _, _ => False
@[simp] def lentD.k3 (C : CSem) (n bytes fm fl : Nat) (z : List AVal) (Q : AVal → AHeap → Prop) (Y2 : List AVal → AHeap → Prop) (v0 v3 v4 : AVal) (h : AHeap) : Prop :=
 B.pv (V.lenSl v0) fun v13 =>
  B.pv (V.bin .lss v4 v13) fun v14 =>
  B.cond v14
  (B.pv (V.idxS n v0 v4) fun v19 =>
  B.ldn h v19 n fun v20 =>
  B.call C fl [v20] h fun v21 h =>
  B.pv (V.setN 0 n v21 (.agg z)) fun c5 =>
  B.pv (V.fieldN 0 n c5) fun v23 =>
  B.newO h (fillL [(0, some n, v23)] (repL 1 z)) fun i24 h =>
  B.appW h n bytes v3 (.sl i24 0 0 1 n 1) fun v25 h =>
  B.pv (V.bin .add v4 (.int .i64 1)) fun v16 =>
  Y2 [v25, v16] h)
  (LoopR (lentD.l2 C n bytes fm z Q v0) [v3, (.int .i64 0)] h)
@[simp] def lentD.l4 (C : CSem) (n bytes fm fl : Nat) (z : List AVal) (Q : AVal → AHeap → Prop) (v0 : AVal) : List AVal → AHeap → (List AVal → AHeap → Prop) → Prop
 | [v3, v4], h, Y2 => lentD.k3 C n bytes fm fl z Q Y2 v0 v3 v4 h
 | _, _, _ => False
def lentD (C : CSem) (n bytes fm fl : Nat) (z : List AVal) (v0 : AVal) (h : AHeap) (Q : AVal → AHeap → Prop) : Prop :=
 B.pv (V.lenSl v0) fun v8 =>
  B.pv (V.bin .add v8 (.int .i64 12)) fun v9 =>
  0 < n ∧ B.mks h bytes (some z) (.int .i64 0) v9 fun v10 h =>
  LoopR (lentD.l4 C n bytes fm fl z Q v0) [v10, (.int .i64 0)] h
theorem setN_whole (K : DK T Ad) (t : T) (a : Ad) : V.setN 0 K.n (.agg (K.cells t a)) (.agg K.z) = some (.agg (K.cells t a)) := by
 simp [K.len t a, K.zlen]
theorem fieldN_whole (K : DK T Ad) (t : T) (a : Ad) : V.fieldN 0 K.n (.agg (K.cells t a)) = some (.agg (K.cells t a)) := by
 have := K.len t a
 simp [this]
 rw [← this, List.take_length]
theorem lentD_spec {mk : Int → Int → T} {fm fl : Nat} (sm : MarkE K mk C fm) (sl : OneE K true C fl) {Q : AVal → AHeap → Prop} (hx : Dl K h x L) (hlen : L.length ≤ 100000000)
  (hq : ∀ x' (P PM : List (T × Ad)) h', P.map (·.1) = L → PM.map (·.1) = mks12 mk → Owns h h' (.sl K.n x' (P.map K.cs) (PM.map K.cs) :: (K.os true P ++ K.os false PM)) → Q x' h') : lentD C K.n K.bytes fm fl K.z x h Q := by
 have hlx := hx.lenSl
 have hmul : ∀ n : Nat, n ≤ 100000100 → n * K.bytes ≤ 140737488355328 := fun n hn => by
  have := Nat.mul_le_mul hn K.small
  omega
 have e1 : IntKind.i64.wrap ((L.length : Int) + 12) = (L.length : Int) + 12 := wrap_i64 (by omega) (by omega)
 simp -dsimp [lentD, hlx, e1]
 refine ⟨K.pos, (Owns.start h).mks (es := K.n) K.zlen (by omega) (by omega) ?_ (by omega) fun y h1 ho => ?_⟩
 ·have := hmul (L.length + 12) (by omega)
  have e : ((L.length : Int) + 12) * K.bytes = ((L.length + 12) * K.bytes : Nat) := by simp
  rw [e]; omega
 refine LoopR.intro (fun n vs hh => ∃ (k : Nat) (y : AVal) (P : List (T × Ad)) (R : List (List AVal)), k + n = L.length ∧ vs = [y, .int .i64 k] ∧ P.map (·.1) = L.take k ∧ Owns h hh (.sl K.n y (P.map K.cs) R :: K.os true P)) L.length ?_ ⟨0, y, [], _, by simp, by simp, by simp, by simpa [DK.os] using ho⟩
 rintro Y n vs hh ⟨k, y3, P, R3, hn, rfl, hP, ho3⟩ hY
 have hPl : P.length = k := by have := congrArg List.length hP; simp at this; omega
 simp -dsimp [hlx]
 refine B.cond_bool (fun hc => ?_) (fun hc => ?_) <;> simp -dsimp at hc ⊢
 ·obtain ⟨w, hw⟩ := get_lt hc
  obtain ⟨a, ea⟩ := (hx.mono ho3.le).get hw
  simp -dsimp only [ea.idx, ea.ldn, B.pv_some, B.ldn_eq]
  refine sl _ _ _ _ ea.at_ fun a' h4 o4 => ?_
  simp -dsimp only [setN_whole K _ a', fieldN_whole K _ a', fill_agg K _ a', B.pv_some]
  refine (ho3.join o4).push 0 rfl (K.len _ a') K.pos (by simp; exact hmul _ (by omega)) (by simp [maxLen]; omega) fun y5 h5 o5 _ => ?_
  simp -dsimp [inc64 (n := k) (by omega)]
  refine hY (L.length - (k + 1)) _ _ (by omega) ⟨k + 1, y5, P ++ [(w, a')], [], by omega, by simp, ?_, ?_⟩
  ·rw [take_succ hw, List.map_append, hP]; rfl
  ·rw [DK.os_append, DK.os_one, List.map_append]
   simpa using o5
 ·have hk : k = L.length := by omega
  rw [hk, List.take_length] at hP
  refine LoopR.intro (fun n vs hh => ∃ (j : Nat) (y : AVal) (PM : List (T × Ad)) (R : List (List AVal)), j + n = 12 ∧ vs = [y, .int .i64 j] ∧ PM.map (·.1) = (List.range j).map (fun (i : Nat) => mk 1 (i : Int)) ∧ Owns h hh (.sl K.n y (P.map K.cs ++ PM.map K.cs) R :: (K.os true P ++ K.os false PM))) 12 ?_
   ⟨0, y3, [], R3, by simp, by simp, by simp, by simpa [DK.os] using ho3⟩
  rintro Z n' vs h4 ⟨j, y4, PM, R4, hj, rfl, hPM, o4⟩ hZ
  have hMl : PM.length = j := by have := congrArg List.length hPM; simpa using this
  simp -dsimp only [lentD.l2, lentD.k1, V.bin_lss, B.pv_some]
  refine B.cond_bool (fun hd => ?_) (fun hd => ?_) <;> simp -dsimp at hd
  ·refine sm _ _ _ _ fun a' h5 o5 => ?_
   simp -dsimp only [fill_agg K _ a']
   refine (o4.join o5).push 0 rfl (K.len _ a') K.pos (by simp; exact hmul _ (by omega)) (by simp [maxLen]; omega) fun y6 h6 o6 _ => ?_
   simp -dsimp [inc64 (n := j) (by omega)]
   refine hZ (12 - (j + 1)) _ _ (by omega) ⟨j + 1, y6, PM ++ [(mk 1 j, a')], [], by omega, by simp, ?_, ?_⟩
   ·rw [List.map_append, hPM, List.range_succ, List.map_append]; rfl
   ·rw [DK.os_append, DK.os_one, List.map_append]
    simpa using o6
  ·have hj12 : j = 12 := by omega
   subst hj12
   obtain ⟨x', e2, e3, e4⟩ := (o4.slAt 0 rfl).slice K.pos (lo := 0) (hi := L.length) (a := none) (b := some (.int .i64 L.length)) (.inl ⟨rfl, rfl⟩) (.inr ⟨_, rfl⟩) (by omega) (by simp; omega)
   simp -dsimp only [hlx, e2, B.pv_some]
   have h1 : ((P.map K.cs ++ PM.map K.cs ++ R4).take L.length).drop 0 = P.map K.cs := by
    rw [List.append_assoc, List.take_append_of_le_length (by simp; omega), List.take_of_length_le (by simp; omega), List.drop_zero]
   have h2 : (P.map K.cs ++ PM.map K.cs ++ R4).drop L.length = PM.map K.cs ++ R4 := by
    rw [List.append_assoc, List.drop_append_of_le_length (by simp; omega), List.drop_of_length_le (by simp; omega), List.nil_append]
   rw [h1, h2] at e3
   have e5 : SlX h4 K.n x' (P.map K.cs) (PM.map K.cs) := e3.cutR
   refine hq x' P PM h4 hP hPM ?_
   exact o4.turn 0 rfl (o' := .sl K.n x' (P.map K.cs) (PM.map K.cs)) e5 (fun id b hf hb => o4.ownAt 0 rfl id b (by show foot y4 = some id; rw [← e4]; exact hf) hb) (fun j b hb _ => hb) (.inl e4)
def DLent (K : DK T Ad) (mk : Int → Int → T) (h : AHeap) (x : AVal) (L : List T) : Prop :=
 ∃ P PM : List (T × Ad), P.map (·.1) = L ∧ PM.map (·.1) = mks12 mk ∧ SlX h K.n x (P.map K.cs) (PM.map K.cs) ∧ AllAt h (K.os true P) ∧ (∀ p ∈ P, K.ok p.1) ∧ ∀ p ∈ PM, K.at_ h p.1 p.2
theorem DLent.dl {mk : Int → Int → T} (hd : DLent K mk h x L) : Dl K h x L := by
 obtain ⟨P, PM, e1, e2, s, a1, a0, a2⟩ := hd
 exact ⟨P, _, e1, s, fun p hp => K.ofObs (a0 p hp) fun o ho => a1 o (List.mem_flatMap.2 ⟨p, hp, ho⟩)⟩
theorem mks12_ok {mk : Int → Int → T} {PM : List (T × Ad)} (hmk : ∀ k i, K.ok (mk k i)) (e2 : PM.map (·.1) = mks12 mk) : ∀ p ∈ PM, K.ok p.1 := fun p hp => by
 have : p.1 ∈ PM.map (·.1) := List.mem_map.2 ⟨p, hp, rfl⟩
 rw [e2, mks12, List.mem_map] at this
 obtain ⟨i, _, e⟩ := this
 rw [← e]; exact hmk _ _
theorem DLent.of {mk : Int → Int → T} {P PM : List (T × Ad)} (hmk : ∀ k i, K.ok (mk k i)) (hok : ∀ t ∈ L, K.ok t) (e1 : P.map (·.1) = L) (e2 : PM.map (·.1) = mks12 mk) (ho : Owns h0 h (.sl K.n x (P.map K.cs) (PM.map K.cs) :: (K.os true P ++ K.os false PM))) : DLent K mk h x L :=
 ⟨P, PM, e1, e2, ho.slAt 0 rfl, fun o hm => ho.is o (List.mem_cons_of_mem _ (List.mem_append_left _ hm)), fun p hp => hok _ (e1 ▸ List.mem_map.2 ⟨p, hp, rfl⟩), fun p hp => K.ofObs (mks12_ok hmk e2 p hp) fun o hm => ho.is o (List.mem_cons_of_mem _ (List.mem_append_right _ (List.mem_flatMap.2 ⟨p, hp, hm⟩)))⟩
@[simp] def copyD.k1 (C : CSem) (n bytes f : Nat) (z : List AVal) (Q : AVal → AHeap → Prop) (Y1 : List AVal → AHeap → Prop) (v0 v3 v4 : AVal) (h : AHeap) : Prop :=
 B.pv (V.lenSl v0) fun v8 =>
  B.pv (V.bin .lss v4 v8) fun v9 =>
  B.cond v9
  (B.pv (V.idxS n v0 v4) fun v14 =>
  B.ldn h v14 n fun v15 =>
  B.call C f [v15] h fun v16 h =>
  B.pv (V.setN 0 n v16 (.agg z)) fun c5 =>
  B.pv (V.fieldN 0 n c5) fun v18 =>
  B.newO h (fillL [(0, some n, v18)] (repL 1 z)) fun i19 h =>
  B.appW h n bytes v3 (.sl i19 0 0 1 n 1) fun v20 h =>
  B.pv (V.bin .add v4 (.int .i64 1)) fun v11 =>
  Y1 [v20, v11] h)
  (Q v3 h)
@[simp] def copyD.l2 (C : CSem) (n bytes f : Nat) (z : List AVal) (Q : AVal → AHeap → Prop) (v0 : AVal) : List AVal → AHeap → (List AVal → AHeap → Prop) → Prop
 | [v3, v4], h, Y1 => copyD.k1 C n bytes f z Q Y1 v0 v3 v4 h
 | _, _, _ => False
def copyD (C : CSem) (n bytes f : Nat) (z : List AVal) (v0 : AVal) (h : AHeap) (Q : AVal → AHeap → Prop) : Prop :=
 LoopR (copyD.l2 C n bytes f z Q v0) [.nils, (.int .i64 0)] h
theorem copyD_spec {f : Nat} (sc : OneE K false C f) {Q : AVal → AHeap → Prop} (hx : Dl K h x L) (hlen : L.length ≤ 100000000) (hq : ∀ x' (P : List (T × Ad)) h', P.map (·.1) = L → Df K h h' x' P → Q x' h') : copyD C K.n K.bytes f K.z x h Q := by
 have hmul : ∀ n : Nat, n ≤ 100000100 → n * K.bytes ≤ 140737488355328 := fun n hn => by
  have := Nat.mul_le_mul hn K.small
  omega
 have hlx := hx.lenSl
 refine LoopR.intro (fun n vs hh => ∃ (k : Nat) (y : AVal) (P : List (T × Ad)), k + n = L.length ∧ vs = [y, .int .i64 k] ∧ P.map (·.1) = L.take k ∧ Df K h hh y P) L.length ?_ ⟨0, .nils, [], by simp, by simp, by simp, by simpa [Df, DK.os] using (Owns.start h).nils K.n⟩
 rintro Y n vs hh ⟨k, y3, P, hn, rfl, hP, ho3⟩ hY
 have hPl : P.length = k := by have := congrArg List.length hP; simp at this; omega
 simp -dsimp [hlx]
 refine B.cond_bool (fun hc => ?_) (fun hc => ?_) <;> simp -dsimp at hc ⊢
 ·obtain ⟨w, hw⟩ := get_lt hc
  obtain ⟨a, ea⟩ := (hx.mono ho3.le).get hw
  simp -dsimp only [ea.idx, ea.ldn, B.pv_some, B.ldn_eq]
  refine sc _ _ _ _ ea.at_ fun a' h4 o4 => ?_
  simp -dsimp only [setN_whole K _ a', fieldN_whole K _ a', fill_agg K _ a', B.pv_some]
  refine (ho3.join o4).push 0 rfl (K.len _ a') K.pos (by simp; exact hmul _ (by omega)) (by simp [maxLen]; omega) fun y5 h5 o5 _ => ?_
  simp -dsimp [inc64 (n := k) (by omega)]
  refine hY (L.length - (k + 1)) _ _ (by omega) ⟨k + 1, y5, P ++ [(w, a')], by omega, by simp, ?_, ?_⟩
  ·rw [take_succ hw, List.map_append, hP]; rfl
  ·unfold Df
   rw [DK.os_append, DK.os_one, List.map_append]
   simpa using o5
 ·have hk : k = L.length := by omega
  rw [hk, List.take_length] at hP
  exact hq y3 P hh hP ho3
end
end Go.Ab
set_option maxRecDepth 100000
namespace Go.Ab
variable {C : CSem} {N : Nat → Nat}
@[irreducible] def mark (k i : Int) : Int := IntKind.i64.wrap (IntKind.i64.wrap (1000003 * IntKind.i64.wrap (k + 7)) + i)
structure LL where
 x : AVal
 n : Nat
 xs : Nat → AVal
 D : Nat → List (List AVal)
 R : Nat → List (List AVal)
 W : List (List AVal)
def LL.obs (es : Nat) (t : LL) : List Ob := Objs es t.n t.xs t.D t.R
def markLot (k i : Int) : Lot := ⟨mark k i, [], 0, 0, 0, false⟩
abbrev marksLot : List (List AVal) := marks lotF (markLot 1) 12
def markUse (k i : Int) : Use := ⟨0, mark k i, 0⟩
abbrev marksUse : List (List AVal) := marks useF (markUse 1) 12
def markPart (k i : Int) : Part := ⟨[], mark k i⟩
def kit_markPart.Spec (C : CSem) (N : Nat → Nat) : Prop := ∀ (k i : Int) (h : AHeap) (Q : AVal → AHeap → Prop), Q (.agg (markPart k i).cs) h → C (N 108) [.int .i64 k, .int .i64 i] h Q
abbrev marksPart : List (List AVal) := marks partF (markPart 1) 12
def kit_LentParts.Spec (C : CSem) (N : Nat → Nat) : Prop := ∀ (x : AVal) (L : List Part) (R : List (List AVal)) (h : AHeap) (Q : AVal → AHeap → Prop), SlX h 2 x (L.map Part.cs) R → L.length ≤ 100000000 →
 (∀ x' h', Owns h h' [.sl 2 x' (L.map Part.cs) marksPart] → Q x' h') → C (N 319) [x] h Q
theorem kit_LentParts.spec (i : kit_LentParts.Imp C N) (s1 : kit_markPart.Spec C N) : kit_LentParts.Spec C N := fun x L R h Q hx hlen hq =>
 i x h Q (lentG_spec partF (z := [.str [], .int .i64 0]) (m := 1) (mk := markPart 1) rfl (by omega) (s1 1) hx hlen fun x' h' ho => dn_same (hq x' h' ho))
def kit_CopyParts.Spec (C : CSem) (N : Nat → Nat) : Prop := ∀ (x : AVal) (L : List Part) (R : List (List AVal)) (h : AHeap) (Q : AVal → AHeap → Prop), SlX h 2 x (L.map Part.cs) R → L.length ≤ 100000000 →
 (∀ x' h', Owns h h' [.sl 2 x' (L.map Part.cs) []] → Q x' h') → C (N 368) [x] h Q
theorem kit_CopyParts.spec (i : kit_CopyParts.Imp C N) : kit_CopyParts.Spec C N := fun x L R h Q hx hlen hq =>
 i x h Q (copy_spec (by omega) (by omega) hx (by simpa using hlen) fun x' h' ho => dn_same (hq x' h' ho))
@[irreducible] def markText (k i : Int) : List UInt8 := [35, byt k, byt (k.fdiv 256), byt (k.fdiv 65536), 47, byt i, byt (i.fdiv 256), byt (i.fdiv 65536)]
def kit_markText.Spec (C : CSem) (N : Nat → Nat) : Prop := ∀ (k i : Int) (h : AHeap) (Q : AVal → AHeap → Prop), Q (.str (markText k i)) h → C (N 106) [.int .i64 k, .int .i64 i] h Q
abbrev marksText : List (List AVal) := cmarks tS (markText 1) 12
def kit_SameTexts.Spec (C : CSem) (N : Nat → Nat) : Prop := ∀ (x y : AVal) (L M : List (List UInt8)) (R S : List (List AVal)) (h : AHeap) (Q : AVal → AHeap → Prop), SlX h 1 x (L.map tc) R → SlX h 1 y (M.map tc) S → L.length < 4611686018427387904 →
 Q (.bool (decide (L = M))) h → C (N 133) [x, y] h Q
theorem kit_SameTexts.spec (i : kit_SameTexts.Imp C N) : kit_SameTexts.Spec C N := fun x y L M R S h Q hx hy hlen hq =>
 i x y h Q (sameS_spec tS hx hy hlen (dn_same hq))
def kit_LentTexts.Spec (C : CSem) (N : Nat → Nat) : Prop := ∀ (x : AVal) (L : List (List UInt8)) (R : List (List AVal)) (h : AHeap) (Q : AVal → AHeap → Prop), SlX h 1 x (L.map tc) R → L.length ≤ 100000000 →
 (∀ x' h', Owns h h' [.sl 1 x' (L.map tc) marksText] → Q x' h') → C (N 406) [x] h Q
theorem kit_LentTexts.spec (i : kit_LentTexts.Imp C N) (s1 : kit_markText.Spec C N) : kit_LentTexts.Spec C N := fun x L R h Q hx hlen hq =>
 i x h Q (lentS_spec tS (z := .str []) (m := 1) (mk := markText 1) (by omega) (s1 1) hx hlen fun x' h' ho => dn_same (hq x' h' ho))
def kit_CopyTexts.Spec (C : CSem) (N : Nat → Nat) : Prop := ∀ (x : AVal) (L : List (List UInt8)) (R : List (List AVal)) (h : AHeap) (Q : AVal → AHeap → Prop), SlX h 1 x (L.map tc) R → L.length ≤ 100000000 →
 (∀ x' h', Owns h h' [.sl 1 x' (L.map tc) []] → Q x' h') → C (N 369) [x] h Q
theorem kit_CopyTexts.spec (i : kit_CopyTexts.Imp C N) : kit_CopyTexts.Spec C N := fun x L R h Q hx hlen hq =>
 i x h Q (copy_spec (by omega) (by omega) hx (by simpa using hlen) fun x' h' ho => dn_same (hq x' h' ho))
end Go.Ab
