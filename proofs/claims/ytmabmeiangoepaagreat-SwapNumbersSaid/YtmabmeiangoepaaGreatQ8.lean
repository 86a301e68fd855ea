/- What is proved: a part of the way to the statement: DbA. No conditions. -/
import Derived.Test.YtmabmeiangoepaaGreatQ6
import Derived.Lib.Bytealg
import Derived.Test.YtmabmeiangoepaaGreatQ3
import Derived.Test.YtmabmeiangoepaaGreatQ7
set_option linter.unusedVariables false
set_option linter.unusedSimpArgs false
namespace Go.Ab
variable {C : CSem} {N : Nat → Nat}
section
variable {h h' : zb} {x : AVal} {b : List UInt8}
end
theorem SlX.cutR {h : zb} {es : Nat} {x : AVal} {L R S : List (List AVal)} (hs : SlX h es x L (R ++ S)) : SlX h es x L R := by
 refine ⟨fun p hp => hs.len p (by rcases List.mem_append.1 hp with h | h; exact List.mem_append_left _ h; exact List.mem_append_right _ (List.mem_append_left _ h)), ?_⟩
 rcases hs.at_ with ⟨e, e2, e'⟩ | ⟨id, g, off, cp, b, hi, h1, h1', h2, h3, h4, hh, h5⟩
 ·exact .inl ⟨e, (List.append_eq_nil_iff.1 e2).1, e'⟩
 ·have hl : ∀ p ∈ L ++ R, p.length = es := fun p hp => hs.len p (by rcases List.mem_append.1 hp with h | h; exact List.mem_append_left _ h; exact List.mem_append_right _ (List.mem_append_left _ h))
  have hfl := zka hl
  rw [List.length_append] at h1' h4 h5 hfl
  have hm : (L.length + R.length) * es ≤ (L.length + (R.length + S.length)) * es := Nat.mul_le_mul_right _ (by omega)
  refine .inr ⟨id, g, off, cp, b, hi, h1, by omega, h2, h3, by omega, hh, ?_⟩
  have : ((b.cells.drop off).take ((L.length + (R.length + S.length)) * es)).take ((L.length + R.length) * es) = (L ++ R).flatten := by
   rw [h5, ← List.append_assoc, List.flatten_append (L₁ := L ++ R), List.take_append_of_le_length (by omega), List.take_of_length_le (by omega)]
  rw [← this, List.take_take, Nat.min_eq_left hm]
abbrev AllAt (h : zb) (l : List Ob) : Prop := ∀ o ∈ l, o.at h
theorem AllAt.mono {h h' : zb} {l : List Ob} (ha : AllAt h l) (hle : h.le h') : AllAt h' l := fun o hm => (ha o hm).keep fun _ _ _ e => hle _ _ e
structure DK (T Ad : Type) where
 n : Nat
 bytes : Nat
 z : List AVal
 pos : 0 < n
 small : bytes ≤ 1000
 zlen : z.length = n
 cells : T → Ad → List AVal
 len : ∀ t a, (cells t a).length = n
 at_ : zb → T → Ad → Prop
 mono : ∀ {h h' : zb} {t : T} {a : Ad}, h.le h' → at_ h t a → at_ h' t a
 ok : T → Prop
 at_ok : ∀ {h : zb} {t : T} {a : Ad}, at_ h t a → ok t
 obs : Bool → T → Ad → List Ob
 ofObs : ∀ {b : Bool} {h : zb} {t : T} {a : Ad}, ok t → AllAt h (obs b t a) → at_ h t a
section
variable {T Ad : Type} (K : DK T Ad)
abbrev DK.cs (p : T × Ad) : List AVal := K.cells p.1 p.2
def DK.os (b : Bool) (P : List (T × Ad)) : List Ob := P.flatMap fun p => K.obs b p.1 p.2
def Dl (h : zb) (x : AVal) (L : List T) : Prop := ∃ (P : List (T × Ad)) (R : List (List AVal)), P.map (·.1) = L ∧ SlX h K.n x (P.map K.cs) R ∧ ∀ p ∈ P, K.at_ h p.1 p.2
structure DEl (h : zb) (x : AVal) (i : Nat) (t : T) (a : Ad) : Prop where
 idx : V.idxS K.n x (.int .i64 (i : Int)) = some (elp K.n x i 0)
 ldn : A.ldnv h (elp K.n x i 0) K.n = some (.agg (K.cells t a))
 fld : ∀ f o, V.fieldAddr o (elp K.n x i f) = some (elp K.n x i (f + o))
 ld : ∀ f, f < K.n → A.ldv h (elp K.n x i f) = (K.cells t a)[f]?
 at_ : K.at_ h t a
variable {K} {h h' h0 : zb} {x : AVal} {L M : List T}
theorem slX_el {h : zb} {x : AVal} {P : List (T × Ad)} {R : List (List AVal)} (s : SlX h K.n x (P.map K.cs) R) (ha : ∀ p ∈ P, K.at_ h p.1 p.2) {i : Nat} {p : T × Ad} (hi : P[i]? = some p) : DEl K h x i p.1 p.2 := by
 have hc : (P.map K.cs)[i]? = some (K.cells p.1 p.2) := by rw [List.getElem?_map, hi]; rfl
 have hl : i < (P.map K.cs).length := (List.getElem?_eq_some_iff.1 hc).1
 exact ⟨s.idxN hl, s.elem hc, fun f o => s.zl2 hl f o, fun f hf => s.ldv hc hf, ha p (List.mem_of_getElem? hi)⟩
theorem Dl.get (hd : Dl K h x L) {i : Nat} {t : T} (hi : L[i]? = some t) : ∃ a, DEl K h x i t a := by
 obtain ⟨P, R, rfl, s, ha⟩ := hd
 rw [List.getElem?_map] at hi
 obtain ⟨p, hp, rfl⟩ := Option.map_eq_some_iff.1 hi
 exact ⟨p.2, slX_el s ha hp⟩
theorem Dl.mono (hd : Dl K h x L) (hle : h.le h') : Dl K h' x L := by
 obtain ⟨P, R, e, s, ha⟩ := hd
 exact ⟨P, R, e, s.mono hle, fun p hp => K.mono hle (ha p hp)⟩
theorem Dl.zw (hd : Dl K h x L) : V.zw x = some (.int .i64 L.length) := by
 obtain ⟨P, R, rfl, s, ha⟩ := hd
 simpa using s.zw
theorem Dl.nils (K : DK T Ad) (h : zb) : Dl K h .nils [] := ⟨[], [], rfl, SlX.nils h K.n, fun _ h => by cases h⟩
theorem Dl.tail {t : T} (hd : Dl K h x (t :: L)) : ∃ y, V.zfe K.n x (some (.int .i64 1)) none = some y ∧ Dl K h y L := by
 obtain ⟨P, R, e, s, ha⟩ := hd
 cases P with
 | nil => cases e
 | cons p P =>
  simp only [List.map_cons, List.cons.injEq] at e
  obtain ⟨y, e1, e2, e3⟩ := s.slice K.pos (lo := 1) (hi := (p :: P).length) (a := some (.int .i64 1)) (b := none) (.inr ⟨_, rfl⟩) (.inl ⟨rfl, by simp⟩) (by simp) (by simp)
  have h1 : (((p :: P).map K.cs ++ R).take (p :: P).length).drop 1 = P.map K.cs := by
   rw [List.take_append_of_le_length (by simp), List.take_of_length_le (by simp)]; rfl
  rw [h1] at e2
  exact ⟨y, e1, P, _, e.2, e2, fun q hq => ha q (List.mem_cons_of_mem _ hq)⟩
theorem Dl.ok (hd : Dl K h x L) : ∀ t ∈ L, K.ok t := by
 obtain ⟨P, R, rfl, s, ha⟩ := hd
 intro t ht
 obtain ⟨p, hp, rfl⟩ := List.mem_map.1 ht
 exact K.at_ok (ha p hp)
theorem DK.os_append (b : Bool) (P P' : List (T × Ad)) : K.os b (P ++ P') = K.os b P ++ K.os b P' := List.flatMap_append
theorem DK.os_one (b : Bool) (p : T × Ad) : K.os b [p] = K.obs b p.1 p.2 := by simp [DK.os]
def SameE (K : DK T Ad) [DecidableEq T] (C : CSem) (f : Nat) : Prop := ∀ (t u : T) (a b : Ad) (h : zb) (Q : AVal → zb → Prop), K.at_ h t a → K.at_ h u b → Q (.bool (decide (t = u))) h → C f [.agg (K.cells t a), .agg (K.cells u b)] h Q
def OneE (K : DK T Ad) (b : Bool) (C : CSem) (f : Nat) : Prop := ∀ (t : T) (a : Ad) (h : zb) (Q : AVal → zb → Prop), K.at_ h t a → (∀ a' h', Owns h h' (K.obs b t a') → Q (.agg (K.cells t a')) h') → C f [.agg (K.cells t a)] h Q
def KeptE (K : DK T Ad) [DecidableEq T] (C : CSem) (f : Nat) : Prop := ∀ (t u : T) (a b : Ad) (h : zb) (Q : AVal → zb → Prop), K.ok t → AllAt h (K.obs true t a) → K.at_ h u b → Q (.bool (decide (t = u))) h → C f [.agg (K.cells t a), .agg (K.cells u b)] h Q
def MarkE (K : DK T Ad) (mk : Int → Int → T) (C : CSem) (f : Nat) : Prop := ∀ (k i : Int) (h : zb) (Q : AVal → zb → Prop), (∀ a' h', Owns h h' (K.obs false (mk k i) a') → Q (.agg (K.cells (mk k i) a')) h') → C f [.int .i64 k, .int .i64 i] h Q
theorem fill_agg (K : DK T Ad) (t : T) (a : Ad) : zep [(0, some K.n, .agg (K.cells t a))] (repL 1 K.z) = some (K.cells t a) := by
 have hrep : repL 1 K.z = K.z := by unfold repL; split <;> simp_all
 have h1 := K.len t a
 rw [hrep]
 simp [h1, K.zlen]
def mks12 (mk : Int → Int → T) : List T := (List.range 12).map fun (i : Nat) => mk 1 (i : Int)
@[simp] def zpl.k1 (C : CSem) (n bytes fm : Nat) (z : List AVal) (Q : AVal → zb → Prop) (Y1 : List AVal → zb → Prop) (v0 v3 v6 : AVal) (h : zb) : Prop :=
 B.pv (V.bin .lss v6 (.int .i64 12)) fun v27 =>
  B.cond v27
  (B.call C fm [(.int .i64 1), v6] h fun v32 h =>
  B.newO h (zep [(0, some n, v32)] (repL 1 z)) fun i33 h =>
  B.appW h n bytes v3 (.sl i33 0 0 1 n 1) fun v34 h =>
  B.pv (V.bin .add v6 (.int .i64 1)) fun v29 =>
  Y1 [v34, v29] h)
  (B.pv (V.zw v0) fun v37 =>
  B.pv (V.zfe n v3 none (some v37)) fun v38 =>
  Q v38 h)
@[simp] def zpl.l2 (C : CSem) (n bytes fm : Nat) (z : List AVal) (Q : AVal → zb → Prop) (v0 : AVal) : List AVal → zb → (List AVal → zb → Prop) → Prop
 | [v3, v6], h, Y1 => zpl.k1 C n bytes fm z Q Y1 v0 v3 v6 h
 | _, _, _ => False
@[simp] def zpl.k3 (C : CSem) (n bytes fm fl : Nat) (z : List AVal) (Q : AVal → zb → Prop) (Y2 : List AVal → zb → Prop) (v0 v3 v4 : AVal) (h : zb) : Prop :=
 B.pv (V.zw v0) fun v13 =>
  B.pv (V.bin .lss v4 v13) fun v14 =>
  B.cond v14
  (B.pv (V.idxS n v0 v4) fun v19 =>
  B.ldn h v19 n fun v20 =>
  B.call C fl [v20] h fun v21 h =>
  B.pv (V.setN 0 n v21 (.agg z)) fun c5 =>
  B.pv (V.zfu 0 n c5) fun v23 =>
  B.newO h (zep [(0, some n, v23)] (repL 1 z)) fun i24 h =>
  B.appW h n bytes v3 (.sl i24 0 0 1 n 1) fun v25 h =>
  B.pv (V.bin .add v4 (.int .i64 1)) fun v16 =>
  Y2 [v25, v16] h)
  (zd (zpl.l2 C n bytes fm z Q v0) [v3, (.int .i64 0)] h)
@[simp] def zpl.l4 (C : CSem) (n bytes fm fl : Nat) (z : List AVal) (Q : AVal → zb → Prop) (v0 : AVal) : List AVal → zb → (List AVal → zb → Prop) → Prop
 | [v3, v4], h, Y2 => zpl.k3 C n bytes fm fl z Q Y2 v0 v3 v4 h
 | _, _, _ => False
def zpl (C : CSem) (n bytes fm fl : Nat) (z : List AVal) (v0 : AVal) (h : zb) (Q : AVal → zb → Prop) : Prop :=
 B.pv (V.zw v0) fun v8 =>
  B.pv (V.bin .add v8 (.int .i64 12)) fun v9 =>
  0 < n ∧ B.mks h bytes (some z) (.int .i64 0) v9 fun v10 h =>
  zd (zpl.l4 C n bytes fm fl z Q v0) [v10, (.int .i64 0)] h
theorem setN_whole (K : DK T Ad) (t : T) (a : Ad) : V.setN 0 K.n (.agg (K.cells t a)) (.agg K.z) = some (.agg (K.cells t a)) := by
 simp [K.len t a, K.zlen]
theorem fieldN_whole (K : DK T Ad) (t : T) (a : Ad) : V.zfu 0 K.n (.agg (K.cells t a)) = some (.agg (K.cells t a)) := by
 have := K.len t a
 simp [this]
 rw [← this, List.take_length]
theorem lentD_spec {mk : Int → Int → T} {fm fl : Nat} (sm : MarkE K mk C fm) (sl : OneE K true C fl) {Q : AVal → zb → Prop} (hx : Dl K h x L) (hlen : L.length ≤ 100000000)
  (hq : ∀ x' (P PM : List (T × Ad)) h', P.map (·.1) = L → PM.map (·.1) = mks12 mk → Owns h h' (.sl K.n x' (P.map K.cs) (PM.map K.cs) :: (K.os true P ++ K.os false PM)) → Q x' h') : zpl C K.n K.bytes fm fl K.z x h Q := by
 have hlx := hx.zw
 have hmul : ∀ n : Nat, n ≤ 100000100 → n * K.bytes ≤ 140737488355328 := fun n hn => by
  have := Nat.mul_le_mul hn K.small
  omega
 have e1 : IntKind.i64.wrap ((L.length : Int) + 12) = (L.length : Int) + 12 := wrap_i64 (by omega) (by omega)
 simp -dsimp [zpl, hlx, e1]
 refine ⟨K.pos, (Owns.start h).mks (es := K.n) K.zlen (by omega) (by omega) ?_ (by omega) fun y h1 ho => ?_⟩
 ·have := hmul (L.length + 12) (by omega)
  have e : ((L.length : Int) + 12) * K.bytes = ((L.length + 12) * K.bytes : Nat) := by simp
  rw [e]; omega
 refine zd.intro (fun n vs hh => ∃ (k : Nat) (y : AVal) (P : List (T × Ad)) (R : List (List AVal)), k + n = L.length ∧ vs = [y, .int .i64 k] ∧ P.map (·.1) = L.take k ∧ Owns h hh (.sl K.n y (P.map K.cs) R :: K.os true P)) L.length ?_ ⟨0, y, [], _, by simp, by simp, by simp, by simpa [DK.os] using ho⟩
 rintro Y n vs hh ⟨k, y3, P, R3, hn, rfl, hP, ho3⟩ hY
 have hPl : P.length = k := by have := congrArg List.length hP; simp at this; omega
 simp -dsimp [hlx]
 refine B.zn (fun hc => ?_) (fun hc => ?_) <;> simp -dsimp at hc ⊢
 ·obtain ⟨w, hw⟩ := zfc hc
  obtain ⟨a, ea⟩ := (hx.mono ho3.le).get hw
  simp -dsimp only [ea.idx, ea.ldn, B.zg, B.zqx]
  refine sl _ _ _ _ ea.at_ fun a' h4 o4 => ?_
  simp -dsimp only [setN_whole K _ a', fieldN_whole K _ a', fill_agg K _ a', B.zg]
  refine (ho3.join o4).push 0 rfl (K.len _ a') K.pos (by simp; exact hmul _ (by omega)) (by simp [maxLen]; omega) fun y5 h5 o5 _ => ?_
  simp -dsimp [zhw (n := k) (by omega)]
  refine hY (L.length - (k + 1)) _ _ (by omega) ⟨k + 1, y5, P ++ [(w, a')], [], by omega, by simp, ?_, ?_⟩
  ·rw [take_succ hw, List.map_append, hP]; rfl
  ·rw [DK.os_append, DK.os_one, List.map_append]
   simpa using o5
 ·have hk : k = L.length := by omega
  rw [hk, List.take_length] at hP
  refine zd.intro (fun n vs hh => ∃ (j : Nat) (y : AVal) (PM : List (T × Ad)) (R : List (List AVal)), j + n = 12 ∧ vs = [y, .int .i64 j] ∧ PM.map (·.1) = (List.range j).map (fun (i : Nat) => mk 1 (i : Int)) ∧ Owns h hh (.sl K.n y (P.map K.cs ++ PM.map K.cs) R :: (K.os true P ++ K.os false PM))) 12 ?_
   ⟨0, y3, [], R3, by simp, by simp, by simp, by simpa [DK.os] using ho3⟩
  rintro Z n' vs h4 ⟨j, y4, PM, R4, hj, rfl, hPM, o4⟩ hZ
  have hMl : PM.length = j := by have := congrArg List.length hPM; simpa using this
  simp -dsimp only [zpl.l2, zpl.k1, V.zfq, B.zg]
  refine B.zn (fun hd => ?_) (fun hd => ?_) <;> simp -dsimp at hd
  ·refine sm _ _ _ _ fun a' h5 o5 => ?_
   simp -dsimp only [fill_agg K _ a']
   refine (o4.join o5).push 0 rfl (K.len _ a') K.pos (by simp; exact hmul _ (by omega)) (by simp [maxLen]; omega) fun y6 h6 o6 _ => ?_
   simp -dsimp [zhw (n := j) (by omega)]
   refine hZ (12 - (j + 1)) _ _ (by omega) ⟨j + 1, y6, PM ++ [(mk 1 j, a')], [], by omega, by simp, ?_, ?_⟩
   ·rw [List.map_append, hPM, List.range_succ, List.map_append]; rfl
   ·rw [DK.os_append, DK.os_one, List.map_append]
    simpa using o6
  ·have hj12 : j = 12 := by omega
   subst hj12
   obtain ⟨x', e2, e3, e4⟩ := (o4.slAt 0 rfl).slice K.pos (lo := 0) (hi := L.length) (a := none) (b := some (.int .i64 L.length)) (.inl ⟨rfl, rfl⟩) (.inr ⟨_, rfl⟩) (by omega) (by simp; omega)
   simp -dsimp only [hlx, e2, B.zg]
   have h1 : ((P.map K.cs ++ PM.map K.cs ++ R4).take L.length).drop 0 = P.map K.cs := by
    rw [List.append_assoc, List.take_append_of_le_length (by simp; omega), List.take_of_length_le (by simp; omega), List.drop_zero]
   have h2 : (P.map K.cs ++ PM.map K.cs ++ R4).drop L.length = PM.map K.cs ++ R4 := by
    rw [List.append_assoc, List.drop_append_of_le_length (by simp; omega), List.drop_of_length_le (by simp; omega), List.nil_append]
   rw [h1, h2] at e3
   have e5 : SlX h4 K.n x' (P.map K.cs) (PM.map K.cs) := e3.cutR
   refine hq x' P PM h4 hP hPM ?_
   exact o4.turn 0 rfl (o' := .sl K.n x' (P.map K.cs) (PM.map K.cs)) e5 (fun id b hf hb => o4.znl 0 rfl id b (by show foot y4 = some id; rw [← e4]; exact hf) hb) (fun j b hb _ => hb) (.inl e4)
def zrf (K : DK T Ad) (mk : Int → Int → T) (h : zb) (x : AVal) (L : List T) : Prop :=
 ∃ P PM : List (T × Ad), P.map (·.1) = L ∧ PM.map (·.1) = mks12 mk ∧ SlX h K.n x (P.map K.cs) (PM.map K.cs) ∧ AllAt h (K.os true P) ∧ (∀ p ∈ P, K.ok p.1) ∧ ∀ p ∈ PM, K.at_ h p.1 p.2
theorem zrf.mono {mk : Int → Int → T} (hd : zrf K mk h x L) (hle : h.le h') : zrf K mk h' x L := by
 obtain ⟨P, PM, e1, e2, s, a1, a0, a2⟩ := hd
 exact ⟨P, PM, e1, e2, s.mono hle, a1.mono hle, a0, fun p hp => K.mono hle (a2 p hp)⟩
theorem zrf.dl {mk : Int → Int → T} (hd : zrf K mk h x L) : Dl K h x L := by
 obtain ⟨P, PM, e1, e2, s, a1, a0, a2⟩ := hd
 exact ⟨P, _, e1, s, fun p hp => K.ofObs (a0 p hp) fun o ho => a1 o (List.mem_flatMap.2 ⟨p, hp, ho⟩)⟩
theorem mks12_ok {mk : Int → Int → T} {PM : List (T × Ad)} (hmk : ∀ k i, K.ok (mk k i)) (e2 : PM.map (·.1) = mks12 mk) : ∀ p ∈ PM, K.ok p.1 := fun p hp => by
 have : p.1 ∈ PM.map (·.1) := List.mem_map.2 ⟨p, hp, rfl⟩
 rw [e2, mks12, List.mem_map] at this
 obtain ⟨i, _, e⟩ := this
 rw [← e]; exact hmk _ _
theorem zrf.of {mk : Int → Int → T} {P PM : List (T × Ad)} (hmk : ∀ k i, K.ok (mk k i)) (hok : ∀ t ∈ L, K.ok t) (e1 : P.map (·.1) = L) (e2 : PM.map (·.1) = mks12 mk) (ho : Owns h0 h (.sl K.n x (P.map K.cs) (PM.map K.cs) :: (K.os true P ++ K.os false PM))) : zrf K mk h x L :=
 ⟨P, PM, e1, e2, ho.slAt 0 rfl, fun o hm => ho.is o (List.mem_cons_of_mem _ (List.mem_append_left _ hm)), fun p hp => hok _ (e1 ▸ List.mem_map.2 ⟨p, hp, rfl⟩), fun p hp => K.ofObs (mks12_ok hmk e2 p hp) fun o hm => ho.is o (List.mem_cons_of_mem _ (List.mem_append_right _ (List.mem_flatMap.2 ⟨p, hp, hm⟩)))⟩
@[simp] def keptD.k1 (C : CSem) (n fk fm fs : Nat) (Q : AVal → zb → Prop) (Y1 : List AVal → zb → Prop) (v1 v5 v6 : AVal) (h : zb) : Prop :=
 B.pv (V.zw v5) fun v19 =>
  B.pv (V.bin .lss v6 v19) fun v20 =>
  B.cond v20
  (B.pv (V.zw v1) fun v25 =>
  B.pv (V.bin .lss v6 v25) fun v26 =>
  B.gd h v26 true (fun K => K v5 h) fun v28 h =>
  B.gd h v26 true (fun K => K v6 h) fun v29 h =>
  B.gd h v26 true (fun K => B.pv (V.idxS n v28 v29) fun v => K v h) fun v30 h =>
  B.gd h v26 true (fun K => B.ldn h v30 n fun v => K v h) fun v31 h =>
  B.gd h v26 true (fun K => K v1 h) fun v32 h =>
  B.gd h v26 true (fun K => K v6 h) fun v33 h =>
  B.gd h v26 true (fun K => B.pv (V.idxS n v32 v33) fun v => K v h) fun v34 h =>
  B.gd h v26 true (fun K => B.ldn h v34 n fun v => K v h) fun v35 h =>
  B.gd h v26 true (fun K => B.call C fk [v31, v35] h K) fun v36 h =>
  B.gd h v26 true (fun K => B.pv (V.un .not v36) fun v => K v h) fun v37 h =>
  B.pick v26 v37 (.bool false) fun v38 =>
  B.gd h v38 false (fun K => K v6 h) fun v40 h =>
  B.gd h v38 false (fun K => K v1 h) fun v41 h =>
  B.gd h v38 false (fun K => B.pv (V.zw v41) fun v => K v h) fun v42 h =>
  B.gd h v38 false (fun K => B.pv (V.bin .geq v40 v42) fun v => K v h) fun v43 h =>
  B.gd h v38 false (fun K => K v43 h) fun v44 h =>
  B.gd h v44 true (fun K => K v5 h) fun v45 h =>
  B.gd h v44 true (fun K => K v6 h) fun v46 h =>
  B.gd h v44 true (fun K => B.pv (V.idxS n v45 v46) fun v => K v h) fun v47 h =>
  B.gd h v44 true (fun K => B.ldn h v47 n fun v => K v h) fun v48 h =>
  B.gd h v44 true (fun K => K v6 h) fun v49 h =>
  B.gd h v44 true (fun K => K v1 h) fun v50 h =>
  B.gd h v44 true (fun K => B.pv (V.zw v50) fun v => K v h) fun v51 h =>
  B.gd h v44 true (fun K => B.pv (V.bin .sub v49 v51) fun v => K v h) fun v52 h =>
  B.gd h v44 true (fun K => B.call C fm [(.int .i64 1), v52] h (B.zhv h [(v47, some n)] K)) fun v53 h =>
  B.gd h v44 true (fun K => B.call C fs [v48, v53] h K) fun v54 h =>
  B.gd h v44 true (fun K => B.pv (V.un .not v54) fun v => K v h) fun v55 h =>
  B.gd h v38 false (fun K => B.pick v44 v55 (.bool false) fun v => K v h) fun v56 h =>
  B.pick v38 (.bool true) v56 fun v57 =>
  B.cond v57
  (Q (.bool false) h)
  (B.pv (V.bin .add v6 (.int .i64 1)) fun v22 =>
  Y1 [v22] h))
  (Q (.bool true) h)
@[simp] def keptD.l2 (C : CSem) (n fk fm fs : Nat) (Q : AVal → zb → Prop) (v1 v5 : AVal) : List AVal → zb → (List AVal → zb → Prop) → Prop
 | [v6], h, Y1 => keptD.k1 C n fk fm fs Q Y1 v1 v5 v6 h
 | _, _, _ => False
@[simp] def keptD.k3 (C : CSem) (n fk fm fs : Nat) (Q : AVal → zb → Prop) (v0 v1 : AVal) (h : zb) : Prop :=
 B.pv (V.zw v1) fun v14 =>
  B.pv (V.bin .add v14 (.int .i64 12)) fun v15 =>
  B.pv (V.zfe n v0 none (some v15)) fun v16 =>
  zd (keptD.l2 C n fk fm fs Q v1 v16) [(.int .i64 0)] h
def keptD (C : CSem) (n fk fm fs : Nat) (v0 v1 : AVal) (h : zb) (Q : AVal → zb → Prop) : Prop :=
 B.pv (V.zw v0) fun v8 =>
  B.pv (V.zw v1) fun v10 =>
  B.pv (V.bin .neq v8 v10) fun v11 =>
  B.cond v11
  (Q (.bool false) h)
  (keptD.k3 C n fk fm fs Q v0 v1 h)
theorem keptD_spec [DecidableEq T] {mk : Int → Int → T} {fk fm fs : Nat} (hmk : ∀ k i, K.ok (mk k i)) (sk : KeptE K C fk) (sm : MarkE K mk C fm) (ss : SameE K C fs) {y : AVal} {Q : AVal → zb → Prop} (hx : zrf K mk h x L) (hy : Dl K h y M) (hlen : L.length ≤ 100000000)
  (hq : ∀ h', h.le h' → Q (.bool (decide (L = M))) h') : keptD C K.n fk fm fs x y h Q := by
 have hlx := hx.dl.zw
 have hly := hy.zw
 simp -dsimp [keptD, hlx, hly]
 refine B.zn (fun hb => ?_) (fun hb => ?_) <;> simp -dsimp at hb ⊢
 ·have hq := hq h (zb.le_refl h)
  rw [decide_eq_false fun e => hb (by rw [e])] at hq
  exact hq
 ·obtain ⟨P, PM, rfl, hPM, s, a1, a0, a2⟩ := hx
  have hMl : PM.length = 12 := by have := congrArg List.length hPM; simpa [mks12] using this
  rw [List.length_map] at hb hlen
  have e1 : IntKind.i64.wrap ((M.length : Int) + 12) = ((M.length + 12 : Nat) : Int) := by rw [wrap_i64 (by omega) (by omega)]; omega
  obtain ⟨z, e2, e3, e4⟩ := s.slice K.pos (lo := 0) (hi := M.length + 12) (a := none) (b := some (.int .i64 ((M.length + 12 : Nat) : Int))) (.inl ⟨rfl, rfl⟩) (.inr ⟨_, rfl⟩) (by omega) (by simp; omega)
  have h1 : ((P.map K.cs ++ PM.map K.cs).take (M.length + 12)).drop 0 = (P ++ PM).map K.cs := by rw [List.drop_zero, List.take_of_length_le, List.map_append]; simp; omega
  rw [h1] at e3
  have hlz := e3.zw
  simp only [List.length_map, List.length_append, hMl] at hlz
  simp only [hly, V.zdi, e1, e2, B.zg]
  refine zd.intro (fun n vs hh => ∃ k, k + n = P.length + 12 ∧ vs = [.int .i64 k] ∧ h.le hh ∧ (P.map (·.1)).take k = M.take k) (P.length + 12) ?_ ⟨0, by simp, by simp, zb.le_refl h, by simp⟩
  rintro Y n vs hh ⟨k, hn, rfl, hle, he⟩ hY
  have e3 := e3.mono hle
  simp -dsimp [hlz]
  refine B.zn (fun hc => ?_) (fun hc => ?_) <;> simp -dsimp at hc ⊢
  ·by_cases hkL : k < P.length
   ·obtain ⟨p, hp⟩ := zfc hkL
    have hkM : k < M.length := by omega
    obtain ⟨u, hu⟩ := zfc hkM
    obtain ⟨b, eb⟩ := (hy.mono hle).get hu
    have hpz : ((P ++ PM).map K.cs)[k]? = some (K.cells p.1 p.2) := by rw [List.getElem?_map, List.getElem?_append_left hkL, hp]; rfl
    have hkz : k < ((P ++ PM).map K.cs).length := by simp; omega
    have e5 := e3.elem hpz
    have e6 := e3.idxN (k := .i64) hkz
    have hw : (P.map (·.1))[k]? = some p.1 := by rw [List.getElem?_map, hp]; rfl
    simp -dsimp only [hly, V.zfq, show ((k : Int) < (M.length : Int)) by omega, decide_true, B.gd_t, B.zpx, B.zec, zon, e6, e5, eb.idx, eb.ldn, B.zg, B.zqx]
    refine sk _ _ _ _ _ _ (a0 p (List.mem_of_getElem? hp)) (AllAt.mono (l := K.obs true p.1 p.2) (fun o ho => a1 o (List.mem_flatMap.2 ⟨p, List.mem_of_getElem? hp, ho⟩)) hle) eb.at_ ?_
    simp -dsimp only [B.gd_t, B.zec, V.zkn, B.zg, B.zh2]
    by_cases hwu : p.1 = u
    ·simp -dsimp only [hwu, decide_true, Bool.not_true, B.gd_f, Bool.not_false, B.zec, hly, V.zk1, show ¬ ((M.length : Int) ≤ (k : Int)) by omega, decide_false, B.gd_t, B.zfd, B.zik, B.zg, B.cond_false, V.zdi, zhw (n := k) (by omega)]
     refine hY (P.length + 12 - (k + 1)) _ _ (by omega) ⟨k + 1, by omega, rfl, hle, ?_⟩
     rw [take_succ hw, take_succ hu, he, hwu]
    ·simp -dsimp only [hwu, decide_false, Bool.not_false, B.gd_f, Bool.not_true, B.zfd, B.zh2, B.cond_true, B.gd_tup]
     have hq := hq hh hle
     rw [decide_eq_false fun e => by rw [e, hu] at hw; cases hw; exact hwu rfl] at hq
     exact hq
   ·have hkM : ¬ k < M.length := by omega
    obtain ⟨p, hp⟩ := zfc (L := PM) (k := k - P.length) (by omega)
    have hpz : ((P ++ PM).map K.cs)[k]? = some (K.cells p.1 p.2) := by rw [List.getElem?_map, List.getElem?_append_right (by omega), hp]; rfl
    have hkz : k < ((P ++ PM).map K.cs).length := by simp; omega
    have e5 := e3.elem hpz
    have e6 := e3.idxN (k := .i64) hkz
    have hm : p.1 = mk 1 ((k - M.length : Nat) : Int) := by
     have : (PM.map (·.1))[k - P.length]? = some p.1 := by rw [List.getElem?_map, hp]; rfl
     rw [hPM, mks12, List.getElem?_map, List.getElem?_range (by omega)] at this
     simp only [Option.map_some, Option.some.injEq] at this
     rw [← this]; congr 2; omega
    have e7 : IntKind.i64.wrap ((k : Int) - M.length) = ((k - M.length : Nat) : Int) := by rw [wrap_i64 (by omega) (by omega)]; omega
    simp -dsimp only [hly, V.zfq, show ¬ ((k : Int) < (M.length : Int)) by omega, decide_false, B.gd_t, B.zpx, B.zfd, gv_false, B.zik, B.gd_f, Bool.not_false, B.zec, zon, V.zk1, show ((M.length : Int) ≤ (k : Int)) by omega, decide_true, e6, e5, V.zfk, e7, B.zg, B.zqx]
    refine sm _ _ _ _ fun a' h5 o5 => ⟨?_, ?_⟩
    ·intro q hq
     rw [List.mem_singleton.1 hq]
     exact ⟨_, e5, (e3.mono o5.le).elem hpz⟩
    ·simp -dsimp only [zon, B.gd_t, B.zec, B.zg, decide_true]
     refine ss _ _ _ _ _ _ (K.mono (zb.le_trans hle o5.le) (a2 p (List.mem_of_getElem? hp))) (K.ofObs (hmk _ _) o5.is) ?_
     simp -dsimp only [hm, zon, decide_true, decide_false, V.zkn, Bool.not_true, Bool.not_false, B.gd_t, B.gd_f, B.zec, B.zh2, B.zik, B.zg, B.cond_false, V.zdi, zhw (n := k) (by omega)]
     refine hY (P.length + 12 - (k + 1)) _ _ (by omega) ⟨k + 1, by omega, rfl, zb.le_trans hle o5.le, ?_⟩
     rw [List.take_of_length_le (by simp; omega), List.take_of_length_le (by omega)] at he ⊢
     exact he
  ·have hq := hq hh hle
   rw [List.take_of_length_le (by simp; omega), List.take_of_length_le (by omega)] at he
   rw [decide_eq_true he] at hq
   exact hq
end
end Go.Ab
set_option maxRecDepth 100000
namespace Go.Ab
variable {C : CSem} {N : Nat → Nat}
@[irreducible] def mark (k i : Int) : Int := IntKind.i64.wrap (IntKind.i64.wrap (1000003 * IntKind.i64.wrap (k + 7)) + i)
def zfh.Spec (C : CSem) (N : Nat → Nat) : Prop := ∀ (k i : Int) (h : zb) (Q : AVal → zb → Prop), Q (.int .i64 (mark k i)) h → C (N 20) [.int .i64 k, .int .i64 i] h Q
theorem zfh.spec (i : zfh.Imp C N) : zfh.Spec C N := by
 intro k j h Q hq
 apply i
 simp +contextual -dsimp
 unfold mark at hq
 exact zbj hq
structure LL where
 x : AVal
 n : Nat
 xs : Nat → AVal
 D : Nat → List (List AVal)
 R : Nat → List (List AVal)
 W : List (List AVal)
def LL.obs (es : Nat) (t : LL) : List Ob := Objs es t.n t.xs t.D t.R
structure LL.ok (t : LL) (h0 : zb) : Prop where
 is : SlX h0 1 t.x (zgc t.n fun j => [t.xs j]) t.W
 n_le : t.n ≤ 100000000
 zr5 : ∀ j, j < t.n → (t.D j).length ≤ 100000000
def zle (C : CSem) (es g : Nat) : Prop := ∀ (t : LL) (h0 h : zb) (Q : AVal → zb → Prop), t.ok h0 → Owns h0 h (t.obs es) → (∀ h', h0.le h' → Q (.bool true) h') → C g [t.x] h Q
def zdq (C : CSem) (g : Nat) : Prop := ∀ (x : AVal) (W : List (List AVal)) (h0 h : zb) (Q : AVal → zb → Prop), SlX h0 1 x [] W → h0.le h → (∀ h', h0.le h' → Q (.bool true) h') → C g [x] h Q
theorem zd.once {F : List AVal → zb → (List AVal → zb → Prop) → Prop} {vs : List AVal} {h : zb} (hF : ∀ Y, F vs h Y) : zd F vs h := fun Y hY => hY vs h (hF Y)
theorem zfm {E : z5} {x : AVal} {W : List (List AVal)} {h0 h : zb} {Q : AVal → zb → Prop} (hx : SlX h0 1 x [] W) (hle : h0.le h) (hq : ∀ h', h0.le h' → Q (.bool true) h') : ze E C x h Q := by
 have hl := (hx.mono hle).zw
 refine zd.once fun Y1 => ?_
 simp -dsimp [hl]
 refine (Owns.start h).mks (bytes := 24) (es := 1) (n := 0) (c := 0) (z := [.nils]) rfl (by omega) (by omega) (by omega) (by omega) fun y h1 ho => ?_
 have hl1 := (hx.mono (zb.le_trans hle ho.le)).zw
 refine zd.once fun Y2 => ?_
 simp -dsimp [hl1]
 refine zd.once fun Y3 => ?_
 simp -dsimp [hl1]
 refine zd.once fun Y4 => ?_
 simp -dsimp [hl1]
 refine zd.once fun Y5 => ?_
 simp -dsimp [hl1]
 exact hq _ (zb.le_trans hle ho.le)
def zk5 (k i : Int) : Part := ⟨[], mark k i⟩
def zdo.Spec (C : CSem) (N : Nat → Nat) : Prop := ∀ (k i : Int) (h : zb) (Q : AVal → zb → Prop), Q (.agg (zk5 k i).cs) h → C (N 108) [.int .i64 k, .int .i64 i] h Q
theorem zdo.spec (i : zdo.Imp C N) (s1 : zfh.Spec C N) : zdo.Spec C N := by
 intro k j h Q hq
 apply i
 simp +contextual -dsimp
 refine s1 _ _ _ _ ?_
 simp +contextual -dsimp
 exact zbj hq
abbrev zir : List (List AVal) := marks partF (zk5 1) 12
def zde.Spec (C : CSem) (N : Nat → Nat) : Prop := ∀ (x y : AVal) (L M : List Part) (R S : List (List AVal)) (h : zb) (Q : AVal → zb → Prop), SlX h 2 x (L.map Part.cs) R → SlX h 2 y (M.map Part.cs) S → L.length < 4611686018427387904 →
 Q (.bool (decide (L = M))) h → C (N 132) [x, y] h Q
theorem zde.spec (i : zde.Imp C N) : zde.Spec C N := fun x y L M R S h Q hx hy hlen hq =>
 i x y h Q (sameG_spec partF hx hy hlen (zbj hq))
def zdg.Spec (C : CSem) (N : Nat → Nat) : Prop := ∀ (x : AVal) (L : List Part) (R : List (List AVal)) (h : zb) (Q : AVal → zb → Prop), SlX h 2 x (L.map Part.cs) R → L.length ≤ 100000000 →
 (∀ x' h', Owns h h' [.sl 2 x' (L.map Part.cs) zir] → Q x' h') → C (N 319) [x] h Q
theorem zdg.spec (i : zdg.Imp C N) (s1 : zdo.Spec C N) : zdg.Spec C N := fun x L R h Q hx hlen hq =>
 i x h Q (lentG_spec partF (z := [.str [], .int .i64 0]) (m := 1) (mk := zk5 1) rfl (by omega) (s1 1) hx hlen fun x' h' ho => zbj (hq x' h' ho))
def zc3.Spec (C : CSem) (N : Nat → Nat) : Prop := ∀ (x y : AVal) (L M : List Part) (R : List (List AVal)) (h : zb) (Q : AVal → zb → Prop), SlX h 2 x (L.map Part.cs) zir → SlX h 2 y (M.map Part.cs) R → L.length ≤ 100000000 →
 Q (.bool (decide (L = M))) h → C (N 324) [x, y] h Q
theorem zc3.spec (i : zc3.Imp C N) (s1 : zdo.Spec C N) : zc3.Spec C N := fun x y L M R h Q hx hy hlen hq =>
 i x y h Q (keptG_spec partF (m := 1) (mk := zk5 1) (s1 1) hx hy hlen (zbj hq))
def zdn.Spec (C : CSem) (N : Nat → Nat) : Prop := ∀ (h0 h : zb) (x : AVal) (L R : List (List AVal)) (Q : AVal → zb → Prop), Owns h0 h [.sl 2 x L R] → R.length = 12 → L.length ≤ 100000000 → (∀ h', h0.le h' → Q (.tup []) h') → C (N 408) [x] h Q
theorem zdn.spec (i : zdn.Imp C N) (s1 : zdo.Spec C N) : zdn.Spec C N := fun h0 h x L R Q ho hR hlen hq =>
 i x h Q (zrx (es := 2) (st := fun h p v K => B.stn h p 2 v K) (by omega) (v := fun i => .agg (zk5 2 i).cs) (s1 2) (fun {_ _ _ _ _ _ k _} ho hi hK => over_stN (xs := (zk5 2 k).cs) rfl ho hi hK) ho hR hlen fun h' hle => zbj (hq h' hle))
@[irreducible] def zj2 (k i : Int) : List UInt8 := [35, byt k, byt (k.fdiv 256), byt (k.fdiv 65536), 47, byt i, byt (i.fdiv 256), byt (i.fdiv 65536)]
def zdj.Spec (C : CSem) (N : Nat → Nat) : Prop := ∀ (k i : Int) (h : zb) (Q : AVal → zb → Prop), Q (.str (zj2 k i)) h → C (N 106) [.int .i64 k, .int .i64 i] h Q
theorem zdj.spec (i : zdj.Imp C N) : zdj.Spec C N := by
 intro k j h Q hq
 apply i
 simp +contextual -dsimp [bin_shr (k := .i64) (j := .u64) (b := 8) (by omega) (by simp [IntKind.bits]), bin_shr (k := .i64) (j := .u64) (b := 16) (by omega) (by simp [IntKind.bits]), u8_byt]
 intro id hid
 unfold zj2 at hq
 have hx : SlX (upd h id (zej [.int .u8 35, .int .u8 ((byt k).toNat : Int), .int .u8 ((byt (k.fdiv 256)).toNat : Int), .int .u8 ((byt (k.fdiv 65536)).toNat : Int), .int .u8 47, .int .u8 ((byt j).toNat : Int), .int .u8 ((byt (j.fdiv 256)).toNat : Int), .int .u8 ((byt (j.fdiv 65536)).toNat : Int)])) 1 (.sl id 0 0 8 1 8) (([35, byt k, byt (k.fdiv 256), byt (k.fdiv 65536), 47, byt j, byt (j.fdiv 256), byt (j.fdiv 65536)] : List UInt8).map bc) [] :=
  SlX.lit (zbv ..) (by simp) rfl (by simp) rfl
 rw [bytesStr_bc hx]
 exact zkb (zgi _ hid) hq
abbrev zhs : List (List AVal) := zf6 tS (zj2 1) 12
def zc8.Spec (C : CSem) (N : Nat → Nat) : Prop := ∀ (x y : AVal) (L M : List (List UInt8)) (R S : List (List AVal)) (h : zb) (Q : AVal → zb → Prop), SlX h 1 x (L.map tc) R → SlX h 1 y (M.map tc) S → L.length < 4611686018427387904 →
 Q (.bool (decide (L = M))) h → C (N 133) [x, y] h Q
theorem zc8.spec (i : zc8.Imp C N) : zc8.Spec C N := fun x y L M R S h Q hx hy hlen hq =>
 i x y h Q (sameS_spec tS hx hy hlen (zbj hq))
def zdf.Spec (C : CSem) (N : Nat → Nat) : Prop := ∀ (x : AVal) (L : List (List UInt8)) (R : List (List AVal)) (h : zb) (Q : AVal → zb → Prop), SlX h 1 x (L.map tc) R → L.length ≤ 100000000 →
 (∀ x' h', Owns h h' [.sl 1 x' (L.map tc) zhs] → Q x' h') → C (N 406) [x] h Q
theorem zdf.spec (i : zdf.Imp C N) (s1 : zdj.Spec C N) : zdf.Spec C N := fun x L R h Q hx hlen hq =>
 i x h Q (lentS_spec tS (z := .str []) (m := 1) (mk := zj2 1) (by omega) (s1 1) hx hlen fun x' h' ho => zbj (hq x' h' ho))
def zc2.Spec (C : CSem) (N : Nat → Nat) : Prop := ∀ (x y : AVal) (L M : List (List UInt8)) (R : List (List AVal)) (h : zb) (Q : AVal → zb → Prop), SlX h 1 x (L.map tc) zhs → SlX h 1 y (M.map tc) R → L.length ≤ 100000000 →
 Q (.bool (decide (L = M))) h → C (N 407) [x, y] h Q
theorem zc2.spec (i : zc2.Imp C N) (s1 : zdj.Spec C N) : zc2.Spec C N := fun x y L M R h Q hx hy hlen hq =>
 i x y h Q (keptS_spec tS (m := 1) (mk := zj2 1) (s1 1) hx hy hlen (zbj hq))
def zdm.Spec (C : CSem) (N : Nat → Nat) : Prop := ∀ (h0 h : zb) (x : AVal) (L R : List (List AVal)) (Q : AVal → zb → Prop), Owns h0 h [.sl 1 x L R] → R.length = 12 → L.length ≤ 100000000 → (∀ h', h0.le h' → Q (.tup []) h') → C (N 409) [x] h Q
theorem zdm.spec (i : zdm.Imp C N) (s1 : zdj.Spec C N) : zdm.Spec C N := fun h0 h x L R Q ho hR hlen hq =>
 i x h Q (zrx (es := 1) (st := fun h p v K => B.st h p v K) (by omega) (v := fun i => .str (zj2 2 i)) (s1 2) (fun ho hi hK => over_stS rfl ho hi hK) ho hR hlen fun h' hle => zbj (hq h' hle))
theorem zeg.spec (i : zeg.Imp C N) (s1 : zdj.Spec C N) : zle C 1 (N 83) := fun t h0 h Q ht ho hq =>
 i t.x h Q (flatG_spec (elS (bytes := 16) (z := .str []) (mv := fun k i => .str (zj2 k i)) (fun _ _ => rfl) (fun _ _ => by rw [V.zn2]; simp) (by omega) s1) ht.is ho ht.n_le ht.zr5 fun h' hle => zbj (hq h' hle))
theorem zen.nil (i : zen.Imp C N) : zdq C (N 81) := fun x W h0 h Q hx hle hq => i x h Q (zfm hx hle fun h' hle => zbj (hq h' hle))
theorem zbd.nil (i : zbd.Imp C N) : zdq C (N 90) := fun x W h0 h Q hx hle hq => i x h Q (zfm hx hle fun h' hle => zbj (hq h' hle))
theorem zbp.nil (i : zbp.Imp C N) : zdq C (N 92) := fun x W h0 h Q hx hle hq => i x h Q (zfm hx hle fun h' hle => zbj (hq h' hle))
theorem z9.nil (i : z9.Imp C N) : zdq C (N 93) := fun x W h0 h Q hx hle hq => i x h Q (zfm hx hle fun h' hle => zbj (hq h' hle))
theorem z4.nil (i : z4.Imp C N) : zdq C (N 94) := fun x W h0 h Q hx hle hq => i x h Q (zfm hx hle fun h' hle => zbj (hq h' hle))
theorem zbo.nil (i : zbo.Imp C N) : zdq C (N 95) := fun x W h0 h Q hx hle hq => i x h Q (zfm hx hle fun h' hle => zbj (hq h' hle))
theorem z8.nil (i : z8.Imp C N) : zdq C (N 96) := fun x W h0 h Q hx hle hq => i x h Q (zfm hx hle fun h' hle => zbj (hq h' hle))
theorem zbe.nil (i : zbe.Imp C N) : zdq C (N 97) := fun x W h0 h Q hx hle hq => i x h Q (zfm hx hle fun h' hle => zbj (hq h' hle))
theorem zy.nil (i : zy.Imp C N) : zdq C (N 98) := fun x W h0 h Q hx hle hq => i x h Q (zfm hx hle fun h' hle => zbj (hq h' hle))
theorem zbc.nil (i : zbc.Imp C N) : zdq C (N 99) := fun x W h0 h Q hx hle hq => i x h Q (zfm hx hle fun h' hle => zbj (hq h' hle))
theorem zx.nil (i : zx.Imp C N) : zdq C (N 100) := fun x W h0 h Q hx hle hq => i x h Q (zfm hx hle fun h' hle => zbj (hq h' hle))
theorem zbb.nil (i : zbb.Imp C N) : zdq C (N 101) := fun x W h0 h Q hx hle hq => i x h Q (zfm hx hle fun h' hle => zbj (hq h' hle))
theorem zba.nil (i : zba.Imp C N) : zdq C (N 102) := fun x W h0 h Q hx hle hq => i x h Q (zfm hx hle fun h' hle => zbj (hq h' hle))
theorem zk.nil (i : zk.Imp C N) : zdq C (N 80) := by
 intro x W h0 h Q hx hle hq
 apply i
 have hl := (hx.mono hle).zw
 refine zd.once fun Y1 => ?_
 simp -dsimp [hl]
 refine (Owns.start h).mks (bytes := 24) (es := 1) (n := 0) (c := 0) (z := [.nils]) rfl (by omega) (by omega) (by omega) (by omega) fun y h1 ho => ?_
 have hl1 := (hx.mono (zb.le_trans hle ho.le)).zw
 refine zd.once fun Y2 => ?_
 simp -dsimp [hl1]
 refine zd.once fun Y3 => ?_
 simp -dsimp [hl1]
 refine zd.once fun Y4 => ?_
 simp -dsimp [hl1]
 refine zd.once fun Y5 => ?_
 simp -dsimp [hl1]
 exact zbj (hq _ (zb.le_trans hle ho.le))
theorem zl.nil (i : zl.Imp C N) : zdq C (N 82) := by
 intro x W h0 h Q hx hle hq
 apply i
 have hl := (hx.mono hle).zw
 refine zd.once fun Y1 => ?_
 simp -dsimp [hl]
 refine (Owns.start h).mks (bytes := 24) (es := 1) (n := 0) (c := 0) (z := [.nils]) rfl (by omega) (by omega) (by omega) (by omega) fun y h1 ho => ?_
 have hl1 := (hx.mono (zb.le_trans hle ho.le)).zw
 refine zd.once fun Y2 => ?_
 simp -dsimp [hl1]
 refine zd.once fun Y3 => ?_
 simp -dsimp [hl1]
 refine zd.once fun Y4 => ?_
 simp -dsimp [hl1]
 refine zd.once fun Y5 => ?_
 simp -dsimp [hl1]
 exact zbj (hq _ (zb.le_trans hle ho.le))
structure Itm where
 Code : List UInt8
 Life : Int
 zb6 : List Part
 zbz : List (List UInt8)
 deriving DecidableEq
def few : Nat := 100000000
abbrev Itm.ok (t : Itm) : Prop := t.zb6.length ≤ few ∧ t.zbz.length ≤ few
def zoc (b : Bool) (x : AVal) (l : List Part) : Ob := .sl 2 x (l.map Part.cs) (bif b then zir else [])
def zn4 (b : Bool) (x : AVal) (l : List (List UInt8)) : Ob := .sl 1 x (l.map tc) (bif b then zhs else [])
def zd5 : DK Itm (AVal × AVal) where
 n := 4
 bytes := 72
 z := [.str [], .int .i64 0, .nils, .nils]
 pos := by omega
 small := by omega
 zlen := rfl
 cells t a := [.str t.Code, .int .i64 t.Life, a.1, a.2]
 len _ _ := rfl
 at_ h t a := (∃ R, SlX h 2 a.1 (t.zb6.map Part.cs) R) ∧ (∃ R, SlX h 1 a.2 (t.zbz.map tc) R) ∧ t.ok
 mono hle ha := ⟨ha.1.imp fun _ r => r.mono hle, ha.2.1.imp fun _ r => r.mono hle, ha.2.2⟩
 ok := Itm.ok
 at_ok ha := ha.2.2
 obs b t a := [zoc b a.1 t.zb6, zn4 b a.2 t.zbz]
 ofObs {b h t a} hk ha := ⟨⟨_, show SlX h 2 a.1 (t.zb6.map Part.cs) (bif b then zir else []) from ha (zoc b a.1 t.zb6) (by simp)⟩, ⟨_, show SlX h 1 a.2 (t.zbz.map tc) (bif b then zhs else []) from ha (zn4 b a.2 t.zbz) (by simp)⟩, hk⟩
abbrev zl0 (t : Itm) (a : AVal × AVal) : List AVal := [.str t.Code, .int .i64 t.Life, a.1, a.2]
theorem Itm.eq_iff (t u : Itm) : t = u ↔ ((t.Code = u.Code ∧ t.Life = u.Life) ∧ t.zb6 = u.zb6) ∧ t.zbz = u.zbz := by
 cases t; cases u; simp [Itm.mk.injEq, and_assoc]
def zdt.Spec (C : CSem) (N : Nat → Nat) : Prop := SameE zd5 C (N 110)
theorem zdt.spec (i : zdt.Imp C N) (s1 : zde.Spec C N) (s2 : zc8.Spec C N) : zdt.Spec C N := by
 intro t u a b h Q ha hb hq
 obtain ⟨⟨R1, a1⟩, ⟨R2, a2⟩, a3, a4⟩ : (∃ R, SlX h 2 a.1 (t.zb6.map Part.cs) R) ∧ (∃ R, SlX h 1 a.2 (t.zbz.map tc) R) ∧ t.ok := ha
 obtain ⟨⟨S1, b1⟩, ⟨S2, b2⟩, b3, b4⟩ : (∃ R, SlX h 2 b.1 (u.zb6.map Part.cs) R) ∧ (∃ R, SlX h 1 b.2 (u.zbz.map tc) R) ∧ u.ok := hb
 unfold few at a3 a4
 apply i
 simp +contextual -dsimp [zd5]
 refine B.zpy (v := .bool (decide (t.zb6 = u.zb6))) (fun _ Q hq => s1 _ _ _ _ _ _ _ _ a1 b1 (by omega) hq) ?_
 simp +contextual -dsimp
 refine B.zpy (v := .bool (decide (t.zbz = u.zbz))) (fun _ Q hq => s2 _ _ _ _ _ _ _ _ a2 b2 (by omega) hq) ?_
 simp -dsimp
 refine zbj ?_
 have : decide (t = u) = (((decide (t.Code = u.Code) && decide (t.Life = u.Life)) && decide (t.zb6 = u.zb6)) && decide (t.zbz = u.zbz)) := by
  rw [Bool.eq_iff_iff]
  simp only [decide_eq_true_eq, Bool.and_eq_true]
  exact Itm.eq_iff t u
 rw [this] at hq
 exact hq
def zdy.Spec (C : CSem) (N : Nat → Nat) : Prop := OneE zd5 true C (N 399)
theorem zdy.spec (i : zdy.Imp C N) (s1 : zdg.Spec C N) (s2 : zdf.Spec C N) : zdy.Spec C N := by
 intro t a h Q ha hq
 obtain ⟨⟨R1, a1⟩, ⟨R2, a2⟩, a3, a4⟩ : (∃ R, SlX h 2 a.1 (t.zb6.map Part.cs) R) ∧ (∃ R, SlX h 1 a.2 (t.zbz.map tc) R) ∧ t.ok := ha
 apply i
 simp -dsimp [zd5]
 refine s1 _ _ _ _ _ a1 a3 fun x1 h1 o1 => ?_
 have c1 := (o1.slAt 0 rfl).zd1
 simp -dsimp [c1]
 refine s2 _ _ _ _ _ (a2.mono o1.le) a4 fun x2 h2 o2 => ?_
 have c2 := (o2.slAt 0 rfl).zd1
 simp -dsimp [c2]
 exact zbj (hq (x1, x2) h2 (o1.join o2))
def zdz.Spec (C : CSem) (N : Nat → Nat) : Prop := KeptE zd5 C (N 400)
theorem zdz.spec (i : zdz.Imp C N) (s0 : zdt.Spec C N) (s1 : zc3.Spec C N) (s2 : zc2.Spec C N) : zdz.Spec C N := by
 intro t u a b h Q hok ha hb hq
 apply i
 have ha' := zd5.ofObs hok ha
 obtain ⟨⟨S1, b1⟩, ⟨S2, b2⟩, b3, b4⟩ : (∃ R, SlX h 2 b.1 (u.zb6.map Part.cs) R) ∧ (∃ R, SlX h 1 b.2 (u.zbz.map tc) R) ∧ u.ok := hb
 have k1 : SlX h 2 a.1 (t.zb6.map Part.cs) zir := ha (zoc true a.1 t.zb6) (by simp [zd5])
 have k2 : SlX h 1 a.2 (t.zbz.map tc) zhs := ha (zn4 true a.2 t.zbz) (by simp [zd5])
 simp -dsimp [zd5]
 refine s0 t u a b h _ ha' ⟨⟨S1, b1⟩, ⟨S2, b2⟩, b3, b4⟩ ?_
 simp +contextual -dsimp
 refine B.zpy (v := .bool (decide (t.zb6 = u.zb6))) (fun _ Q hq => s1 _ _ _ _ _ _ _ k1 b1 hok.1 hq) ?_
 simp +contextual -dsimp
 refine B.zpy (v := .bool (decide (t.zbz = u.zbz))) (fun _ Q hq => s2 _ _ _ _ _ _ _ k2 b2 hok.2 hq) ?_
 simp -dsimp
 refine zbj ?_
 have : decide (t = u) = (decide (t = u) && decide (t.zb6 = u.zb6) && decide (t.zbz = u.zbz)) := by
  by_cases h : t = u
  ·subst h; simp
  ·simp [h]
 rw [this] at hq
 exact hq
def zi9 (k i : Int) : Itm := ⟨[], mark k i, [], []⟩
theorem zqt (k i : Int) : zd5.ok (zi9 k i) := ⟨by simp [zi9], by simp [zi9]⟩
def zdp.Spec (C : CSem) (N : Nat → Nat) : Prop := MarkE zd5 zi9 C (N 109)
theorem zdp.spec (i : zdp.Imp C N) (s1 : zfh.Spec C N) : zdp.Spec C N := by
 intro k j h Q hq
 apply i
 simp -dsimp
 refine s1 _ _ _ _ ?_
 simp -dsimp
 exact zbj (hq (.nils, .nils) _ (by simpa [zd5, zi9, zoc, zn4] using ((Owns.start h).nils 2).nils 1))
def zca.Spec (C : CSem) (N : Nat → Nat) : Prop := ∀ (x : AVal) (L : List Itm) (h : zb) (Q : AVal → zb → Prop), Dl zd5 h x L → L.length ≤ 100000000 →
 (∀ x' P PM h', P.map (·.1) = L → PM.map (·.1) = mks12 zi9 → Owns h h' (.sl 4 x' (P.map zd5.cs) (PM.map zd5.cs) :: (zd5.os true P ++ zd5.os false PM)) → Q x' h') → C (N 391) [x] h Q
theorem zca.spec (i : zca.Imp C N) (s1 : zdp.Spec C N) (s2 : zdy.Spec C N) : zca.Spec C N := fun x L h Q hx hl hq =>
 i x h Q (lentD_spec (K := zd5) s1 s2 hx hl fun x' P PM h' e1 e2 ho => zbj (hq x' P PM h' e1 e2 ho))
def zck.Spec (C : CSem) (N : Nat → Nat) : Prop := ∀ (x y : AVal) (L M : List Itm) (h : zb) (Q : AVal → zb → Prop), zrf zd5 zi9 h x L → Dl zd5 h y M → L.length ≤ 100000000 →
 Q (.bool (decide (L = M))) h → C (N 392) [x, y] h Q
theorem zck.spec (i : zck.Imp C N) (s1 : zdz.Spec C N) (s2 : zdp.Spec C N) (s3 : zdt.Spec C N) : zck.Spec C N := fun x y L M h Q hx hy hl hq =>
 i x y h Q (keptD_spec (K := zd5) zqt s1 s2 s3 hx hy hl fun h' hle => zkb hle hq)
abbrev zgn : List UInt8 → List UInt8 → Bool := Op.bytesLess
theorem lessB_nil (a : List UInt8) : zgn a [] = false := by cases a <;> rfl
theorem znn (a b : UInt8) (as1 bs : List UInt8) : zgn (a :: as1) (b :: bs) = (decide (a < b) || (a == b && zgn as1 bs)) := rfl
theorem u8_tri (a b : UInt8) : a < b ∨ a = b ∨ b < a := by
 simp only [UInt8.lt_iff_toNat_lt, ← UInt8.toNat_inj]; omega
theorem zqv : ∀ a : List UInt8, zgn a a = false
 | [] => rfl
 | a :: as1 => by rw [znn, zqv as1]; simp
theorem zj3 : ∀ {a b c : List UInt8}, zgn a b = true → zgn b c = true → zgn a c = true
 | _, [], _, h, _ => by rw [lessB_nil] at h; cases h
 | _, _ :: _, [], _, h => by rw [lessB_nil] at h; cases h
 | [], _ :: _, _ :: _, _, _ => rfl
 | a :: as1, b :: bs, c :: cs, h1, h2 => by
  rw [znn] at h1 h2 ⊢
  simp only [Bool.or_eq_true, decide_eq_true_eq, Bool.and_eq_true, beq_iff_eq] at h1 h2 ⊢
  rcases h1 with h1 | ⟨rfl, h1⟩
  ·rcases h2 with h2 | ⟨rfl, h2⟩
   ·left; simp only [UInt8.lt_iff_toNat_lt] at *; omega
   ·exact .inl h1
  ·rcases h2 with h2 | ⟨rfl, h2⟩
   ·exact .inl h2
   ·exact .inr ⟨rfl, zj3 h1 h2⟩
theorem zm0 : ∀ {a b : List UInt8}, zgn a b = false → zgn b a = false → a = b
 | [], [], _, _ => rfl
 | [], _ :: _, h, _ => by cases h
 | _ :: _, [], _, h => by cases h
 | a :: as1, b :: bs, h1, h2 => by
  rw [znn] at h1 h2
  simp only [Bool.or_eq_false_iff, decide_eq_false_iff_not, Bool.and_eq_false_iff, beq_eq_false_iff_ne] at h1 h2
  obtain rfl : a = b := by rcases u8_tri a b with h | h | h <;> simp_all
  rw [zm0 (h1.2.resolve_left fun h => h rfl) (h2.2.resolve_left fun h => h rfl)]
theorem lessB_asym {a b : List UInt8} (h : zgn a b = true) : zgn b a = false := by
 cases e : zgn b a with
 | false => rfl
 | true => have := zj3 h e; rw [zqv] at this; cases this
theorem lessB_ne {a b : List UInt8} (h : zgn a b = true) : a ≠ b := fun e => by subst e; rw [zqv] at h; cases h
theorem lessB_or {a b : List UInt8} (h : zgn a b = false) (hne : a ≠ b) : zgn b a = true := by
 cases e : zgn b a with
 | true => rfl
 | false => exact absurd (zm0 h e) hne
abbrev cmpB := Lib.compareBytes
theorem cmpB_spec : ∀ a b : List UInt8, cmpB a b = if zgn a b then -1 else if zgn b a then 1 else 0
 | [], [] => rfl
 | [], _ :: _ => rfl
 | _ :: _, [] => rfl
 | a :: as1, b :: bs => by
  have ih := cmpB_spec as1 bs
  show (if a < b then -1 else if b < a then 1 else cmpB as1 bs) = _
  rw [ih, znn, znn]
  rcases u8_tri a b with h | rfl | h
  ·simp [h]
  ·have hi : ¬ a < a := by simp only [UInt8.lt_iff_toNat_lt]; omega
   simp
  ·have h1 : ¬ a < b := by simp only [UInt8.lt_iff_toNat_lt] at *; omega
   have h2 : a ≠ b := fun e => by subst e; exact h1 h
   have h3 : (a == b) = false := by simp [h2]
   simp [h, h1, h3]
theorem cmpB_neg {a b : List UInt8} : cmpB a b < 0 ↔ zgn a b = true := by
 rw [cmpB_spec]; split
 ·simp [*]
 ·split <;> simp [*]
theorem nextStr_at {h : zb} {id : Nat} {b : Blk} {s : List UInt8} {pos : Nat} {K : AVal → zb → Prop} (hb : h id = some b) (ho : b.obj = some (.iter s pos)) :
  (B.zft h (.ptr id 0 0) K : Prop) = if pos < s.length then K (.tup [.bool true, .int .i64 pos, .int .i32 (A.rune s pos).1]) (upd h id { b with obj := some (.iter s (pos + (A.rune s pos).2)) }) else K (.tup [.bool false]) h := by
 simp only [B.zft, A.zft, hb, ho]
theorem get_bang {s : List UInt8} {pos : Nat} {b : UInt8} (hb : s[pos]? = some b) : ((⟨s.toArray⟩ : ByteArray).get! pos) = b := by
 simp [ByteArray.get!, hb]
theorem rune_ascii {s : List UInt8} {pos : Nat} {b : UInt8} (hb : s[pos]? = some b) (h : b.toNat < 128) : A.rune s pos = (b.toNat, 1) := by
 unfold A.rune Utf8.decode
 simp only [Nat.add_zero, get_bang hb]
 rw [if_pos h]
theorem rune_high {s : List UInt8} {pos : Nat} {b : UInt8} (hb : s[pos]? = some b) (h : 128 ≤ b.toNat) : 128 ≤ (A.rune s pos).1 := by
 unfold A.rune Utf8.decode
 simp only [Nat.add_zero, get_bang hb]
 rw [if_neg (by omega)]
 split
 ·split <;> simp_all [Utf8.runeError]
 ·split
  ·split <;> simp_all [Utf8.runeError]; omega
  ·split
   ·split <;> simp_all [Utf8.runeError]; omega
   ·simp [Utf8.runeError]
def zkz (i : Nat) (b : UInt8) : Bool := (decide (65 ≤ b.toNat) && decide (b.toNat ≤ 90)) || (decide (0 < i) && ((decide (48 ≤ b.toNat) && decide (b.toNat ≤ 57)) || decide (b.toNat = 45)))
def zki (s : List UInt8) : Nat → Bool
 | 0 => true
 | n + 1 => zki s n && zkz n (s.getD n 0)
def ze7 (s : List UInt8) : Bool := !s.isEmpty && decide (s.length ≤ 12) && zki s s.length
theorem zsj {s : List UInt8} {k : Nat} (h : zki s k = true) {b : UInt8} (hb : s[k]? = some b) (hc : zkz k b = false) : ∀ n, k < n → zki s n = false
 | 0, h => by omega
 | n + 1, hn => by
  by_cases e : n = k
  ·subst e; simp [zki, List.getD, hb, hc]
  ·rw [zki, zsj h hb hc n (by omega)]; rfl
theorem zrc {s : List UInt8} {k : Nat} (h : zki s k = true) {b : UInt8} (hb : s[k]? = some b) (hc : zkz k b = true) : zki s (k + 1) = true := by
 simp [zki, List.getD, hb, hc, h]
theorem zkc {s : List UInt8} {k : Nat} (h : zki s k = true) {b : UInt8} (hb : s[k]? = some b) (hc : zkz k b = false) : ze7 s = false := by
 have := zsj h hb hc s.length (List.getElem?_eq_some_iff.1 hb).1
 simp [ze7, this]
def zdb.Spec (C : CSem) (N : Nat → Nat) : Prop := ∀ (s : List UInt8) (h : zb) (Q : AVal → zb → Prop), Q (.bool (ze7 s)) h → C (N 53) [.str s] h Q
def itB (s : List UInt8) (k : Nat) : Blk := { cells := [], gens := [], next := 1, own := true, obj := some (.iter s k) }
theorem zdb.spec (i : zdb.Imp C N) : zdb.Spec C N := by
 intro s h Q hq
 apply i
 simp only [zdb.cps]
 intro id hid
 refine zd.intro (fun n vs hh => ∃ k, k + n = s.length ∧ vs = [] ∧ hh = upd h id (itB s k) ∧ zki s k = true) s.length ?_ ⟨0, by simp, rfl, rfl, rfl⟩
 rintro Y n vs hh ⟨k, hn, rfl, rfl, hc⟩ hY
 simp only [zdb.l3, zdb.k2]
 rw [nextStr_at (zbv ..) rfl]
 have hle : h.le (upd h id (itB s k)) := zgi _ hid
 split
 ·rename_i hk
  obtain ⟨b, hb⟩ := zfc hk
  by_cases hlt : b.toNat < 128
  ·rw [rune_ascii hb hlt, upd_upd]
   have next : zkz k b = true → Y [] (upd h id { cells := (itB s k).cells, gens := (itB s k).gens, next := (itB s k).next, own := (itB s k).own, obj := some (.iter s (k + 1)) }) := fun hcc =>
    hY (n - 1) _ _ (by omega) ⟨k + 1, by omega, rfl, rfl, zrc hc hb hcc⟩
   simp +contextual -dsimp
   refine B.zn (fun h1 => ?_) (fun h1 => ?_)
   ·exact next (by simp at h1; simp [zkz]; omega)
   ·simp +contextual -dsimp
    refine B.zn (fun h2 => ?_) (fun h2 => ?_)
    ·exact next (by simp at h2; simp [zkz]; omega)
    ·have := zkc hc hb (by simp at h1 h2; simp [zkz]; omega)
     rw [this] at hq
     exact zkb (zgi _ hid) hq
  ·have hr := rune_high hb (by omega)
   have := zkc hc hb (by simp [zkz]; omega)
   rw [this] at hq
   simp +contextual -dsimp
   refine B.zn (fun h1 => ?_) (fun h1 => ?_)
   ·simp at h1; omega
   ·simp +contextual -dsimp
    refine B.zn (fun h2 => ?_) (fun h2 => ?_)
    ·simp at h2; omega
    ·exact zkb (zgi _ hid) hq
 ·have hk : k = s.length := by omega
  subst hk
  have : ze7 s = (!decide (s = []) && decide ((s.length : Int) ≤ 12)) := by
   unfold ze7
   rw [hc, Bool.and_true]
   cases s with
   | nil => rfl
   | cons a r => simp; omega
  rw [this] at hq
  simp +contextual -dsimp
  exact zkb hle hq
def zc9.Spec (C : CSem) (N : Nat → Nat) : Prop := ∀ (s : List UInt8) (h : zb) (Q : AVal → zb → Prop), Q (.bool (ze7 s)) h → C (N 61) [.str s] h Q
theorem idxStr_at {s : List UInt8} {k : Nat} {b : UInt8} (hb : s[k]? = some b) : V.zh6 (.str s) (.int .i64 (k : Int)) = some (.int .u8 b.toNat) := by
 simp [V.zh6, hb]
theorem zc9.spec (i : zc9.Imp C N) : zc9.Spec C N := by
 intro s h Q hq
 apply i
 simp +contextual -dsimp
 refine B.zn (fun h1 => ?_) (fun h1 => ?_)
 ·have : ze7 s = false := by
   simp at h1
   cases s with
   | nil => rfl
   | cons a r => simp [ze7]; simp at h1; omega
  rw [this] at hq
  exact zbj hq
 ·simp at h1
  refine zd.intro (fun n vs hh => ∃ k : Nat, k + n = s.length ∧ vs = [.int .i64 k] ∧ hh = h ∧ zki s k = true) s.length ?_ ⟨0, by simp, by simp, rfl, rfl⟩
  rintro Y n vs hh ⟨k, hn, rfl, rfl, hc⟩ hY
  simp +contextual -dsimp
  refine B.zn (fun h2 => ?_) (fun h2 => ?_)
  ·simp at h2
   obtain ⟨b, hb⟩ := zfc h2
   simp +contextual -dsimp [idxStr_at hb]
   refine B.zn (fun h3 => ?_) (fun h3 => ?_)
   ·have := zkc hc hb (by simp at h3; simp [zkz]; omega)
    rw [this] at hq
    exact zbj hq
   ·simp +contextual -dsimp [zhw (n := k) (by omega)]
    exact hY (n - 1) _ _ (by omega) ⟨k + 1, by omega, by simp, rfl, zrc hc hb (by simp at h3; simp [zkz]; omega)⟩
  ·have hk : k = s.length := by simp at h2; omega
   subst hk
   have : ze7 s = true := by
    unfold ze7
    rw [hc]
    cases s with
    | nil => simp at h1
    | cons a r => simp; simp at h1; omega
   rw [this] at hq
   exact zbj hq
theorem SlX.sliceIn {T : Type} {h : zb} {es : Nat} {x : AVal} {f : T → List AVal} {L : List T} {R : List (List AVal)} (hs : SlX h es x (L.map f) R) (hes : 0 < es) {lo hi : Nat} {a b : Option AVal} (ha : a = none ∧ lo = 0 ∨ ∃ k, a = some (.int k lo)) (hb : b = none ∧ hi = L.length ∨ ∃ k, b = some (.int k hi)) (h1 : lo ≤ hi) (h2 : hi ≤ L.length) :
  ∃ x' R', V.zfe es x a b = some x' ∧ SlX h es x' (((L.take hi).drop lo).map f) R' ∧ foot x' = foot x := by
 obtain ⟨x', e1, e2, e3⟩ := hs.slice hes ha (by simpa using hb) h1 (by simp; omega)
 refine ⟨x', (L.map f ++ R).drop hi, e1, ?_, e3⟩
 rwa [List.take_append_of_le_length (by simpa using h2), ← List.map_take, ← List.map_drop] at e2
section
variable {V : Type}
def maxD (f : V → Option Nat) : List V → Nat → Option Nat
 | [], m => some m
 | p :: r, m => match f p with
  | some d => maxD f r (max m (1 + d))
  | none => none
theorem ziq {f : V → Option Nat} {p : V} {r : List V} {m : Nat} : maxD f (p :: r) m = (f p).bind fun d => maxD f r (max m (1 + d)) := by
 rw [maxD]; cases f p <;> rfl
theorem zmz (f : V → Option Nat) : ∀ (l k : List V) (m : Nat), maxD f (l ++ k) m = (maxD f l m).bind fun a => maxD f k a
 | [], _, _ => rfl
 | p :: r, k, m => by
  rw [List.cons_append, ziq, ziq]
  cases f p with
  | none => rfl
  | some d => exact zmz f r k _
theorem zqr {f g : V → Option Nat} : ∀ {l : List V} {m r : Nat}, (∀ p ∈ l, ∀ d, f p = some d → g p = some d) → maxD f l m = some r → maxD g l m = some r
 | [], _, _, _, h => h
 | p :: l, m, r, hfg, h => by
  rw [ziq] at h ⊢
  cases hp : f p with
  | none => rw [hp] at h; cases h
  | some d =>
   rw [hp] at h
   rw [hfg p (by simp) d hp]
   exact zqr (fun q hq => hfg q (List.mem_cons_of_mem _ hq)) h
theorem zoj {f : V → Option Nat} : ∀ {l : List V} {m r : Nat}, maxD f l m = some r → m ≤ r ∧ ∀ p ∈ l, ∃ d, f p = some d ∧ 1 + d ≤ r
 | [], m, r, h => by cases h; exact ⟨Nat.le_refl _, fun _ h => by cases h⟩
 | p :: l, m, r, h => by
  rw [ziq] at h
  cases hp : f p with
  | none => rw [hp] at h; cases h
  | some d =>
   rw [hp] at h
   obtain ⟨h1, h2⟩ := zoj (l := l) h
   refine ⟨by omega, fun q hq => ?_⟩
   rcases List.mem_cons.1 hq with rfl | hq
   ·exact ⟨d, hp, by omega⟩
   ·exact h2 q hq
theorem maxD_top {f : V → Option Nat} : ∀ {l : List V} {m r : Nat}, maxD f l m = some r → r = m ∨ ∃ p ∈ l, ∃ d, f p = some d ∧ r = 1 + d
 | [], m, r, h => by cases h; exact .inl rfl
 | p :: l, m, r, h => by
  rw [ziq] at h
  cases hp : f p with
  | none => rw [hp] at h; cases h
  | some d =>
   rw [hp] at h
   rcases maxD_top (l := l) h with h | ⟨q, hq, e, h1, h2⟩
   ·by_cases hm : m < 1 + d
    ·exact .inr ⟨p, by simp, d, hp, by omega⟩
    ·exact .inl (by omega)
   ·exact .inr ⟨q, List.mem_cons_of_mem _ hq, e, h1, h2⟩
theorem maxD_none {f : V → Option Nat} {l : List V} {m : Nat} {p : V} (hp : p ∈ l) (hf : f p = none) : maxD f l m = none := by
 cases h : maxD f l m with
 | none => rfl
 | some r => obtain ⟨d, h1, _⟩ := (zoj h).2 p hp; rw [hf] at h1; cases h1
variable (E : V → List V)
def depF : Nat → V → Option Nat
 | 0, _ => none
 | n + 1, c => maxD (depF n) (E c) 1
variable {E}
theorem zrb : ∀ {n : Nat} {c : V} {d : Nat}, depF E n c = some d → depF E (n + 1) c = some d
 | 0, _, _, h => by cases h
 | n + 1, c, d, h => zqr (fun p _ e he => zrb he) h
theorem depF_le {n m : Nat} (hm : n ≤ m) {c : V} {d : Nat} (h : depF E n c = some d) : depF E m c = some d := by
 obtain ⟨k, rfl⟩ := Nat.exists_eq_add_of_le hm
 clear hm
 induction k with
 | zero => exact h
 | succ k ih => exact zrb ih
theorem depF_fun {n m : Nat} {c : V} {d e : Nat} (h1 : depF E n c = some d) (h2 : depF E m c = some e) : d = e := by
 have a := depF_le (Nat.le_max_left n m) h1
 rw [depF_le (Nat.le_max_right n m) h2] at a
 exact (Option.some.inj a).symm
theorem depF_pos {n : Nat} {c : V} {d : Nat} (h : depF E n c = some d) : 1 ≤ d := by
 cases n with
 | zero => cases h
 | succ n => exact (zoj h).1
theorem depF_self : ∀ {n : Nat} {c : V} {d : Nat}, depF E n c = some d → depF E d c = some d
 | 0, _, _, h => by cases h
 | n + 1, c, d, h => by
  have h1 := depF_pos h
  obtain ⟨e, rfl⟩ : ∃ e, d = e + 1 := ⟨d - 1, by omega⟩
  refine zqr (fun p hp x hx => ?_) h
  obtain ⟨y, hy, hle⟩ := (zoj h).2 p hp
  rw [hy] at hx
  cases hx
  exact depF_le (by omega) (depF_self hy)
theorem zsg {K : List V} (hcl : ∀ c ∈ K, ∀ p ∈ E c, p ∈ K) : ∀ {n : Nat} {c : V} {d : Nat}, depF E n c = some d → c ∈ K → ∀ e, 1 ≤ e → e ≤ d → ∃ c' ∈ K, ∃ m, depF E m c' = some e
 | 0, _, _, h, _, _, _, _ => by cases h
 | n + 1, c, d, h, hc, e, h1, h2 => by
  by_cases he : e = d
  ·subst he; exact ⟨c, hc, _, h⟩
  ·rcases maxD_top h with rfl | ⟨p, hp, x, hx, rfl⟩
   ·omega
   ·exact zsg hcl hx (hcl c hc p hp) e h1 (by omega)
theorem zsh {K : List V} (hcl : ∀ c ∈ K, ∀ p ∈ E c, p ∈ K) {n : Nat} {c : V} {d : Nat} (h : depF E n c = some d) (hc : c ∈ K) : d ≤ K.length := by
 have : ∀ j, j ≤ d → ∃ l : List V, l.length = j ∧ l.Nodup ∧ ∀ x ∈ l, x ∈ K ∧ ∃ m e, depF E m x = some e ∧ e ≤ j := by
  intro j
  induction j with
  | zero => exact fun _ => ⟨[], rfl, List.Pairwise.nil, fun _ h => by cases h⟩
  | succ j ih =>
   intro hj
   obtain ⟨l, h1, h2, h3⟩ := ih (by omega)
   obtain ⟨c', k1, m, k2⟩ := zsg hcl h hc (j + 1) (by omega) hj
   refine ⟨c' :: l, by simp [h1], List.nodup_cons.2 ⟨fun hm => ?_, h2⟩, fun x hx => ?_⟩
   ·obtain ⟨_, m', e, k3, k4⟩ := h3 c' hm
    have := depF_fun k2 k3
    omega
   ·rcases List.mem_cons.1 hx with rfl | hx
    ·exact ⟨k1, m, _, k2, Nat.le_refl _⟩
    ·obtain ⟨a, m', e, b, c⟩ := h3 x hx
     exact ⟨a, m', e, b, by omega⟩
 obtain ⟨l, h1, h2, h3⟩ := this d (Nat.le_refl _)
 have := List.Nodup.length_le_of_subset h2 (fun x hx => (h3 x hx).1)
 omega
structure Deep (E : V → List V) (K : List V) (D : V → Option Nat) : Prop where
 eq : ∀ c ∈ K, D c = maxD D (E c) 1
 cl : ∀ c ∈ K, ∀ p ∈ E c, p ∈ K
 le : ∀ c ∈ K, ∀ d, D c = some d → d ≤ K.length
theorem deep_depF {K : List V} (hcl : ∀ c ∈ K, ∀ p ∈ E c, p ∈ K) : Deep E K (depF E K.length) where
 cl := hcl
 le c hc d h := zsh hcl h hc
 eq c hc := by
  cases h : maxD (depF E K.length) (E c) 1 with
  | some r =>
   have h' : depF E (K.length + 1) c = some r := h
   exact depF_le (zsh hcl h' hc) (depF_self h')
  | none =>
   cases h2 : depF E K.length c with
   | none => rfl
   | some d =>
    have := zrb h2
    rw [show depF E (K.length + 1) c = maxD (depF E K.length) (E c) 1 from rfl, h] at this
    cases this
variable {K : List V} {D : V → Option Nat}
theorem Deep.pos (h : Deep E K D) {c : V} (hc : c ∈ K) {d : Nat} (hd : D c = some d) : 1 ≤ d := by
 rw [h.eq c hc] at hd; exact (zoj hd).1
theorem Deep.step (h : Deep E K D) {c p : V} (hc : c ∈ K) (hp : p ∈ E c) {d : Nat} (hd : D c = some d) : ∃ e, D p = some e ∧ e < d := by
 rw [h.eq c hc] at hd
 obtain ⟨e, h1, h2⟩ := (zoj hd).2 p hp
 exact ⟨e, h1, by omega⟩
inductive Way1 (E : V → List V) : V → V → Prop
 | one {c p : V} : p ∈ E c → Way1 E c p
 | more {c p q : V} : Way1 E c p → q ∈ E p → Way1 E c q
theorem Deep.way (h : Deep E K D) {c p : V} (w : Way1 E c p) : c ∈ K → p ∈ K ∧ ∀ d, D c = some d → ∃ e, D p = some e ∧ e < d := by
 induction w with
 | one hp => exact fun hc => ⟨h.cl _ hc _ hp, fun d hd => h.step hc hp hd⟩
 | more w hq ih =>
  intro hc
  obtain ⟨h1, h2⟩ := ih hc
  refine ⟨h.cl _ h1 _ hq, fun d hd => ?_⟩
  obtain ⟨e, he, hlt⟩ := h2 d hd
  obtain ⟨e', he', hlt'⟩ := h.step h1 hq he
  exact ⟨e', he', by omega⟩
theorem Deep.round (h : Deep E K D) {c : V} (w : Way1 E c c) (hc : c ∈ K) : D c = none := by
 cases hd : D c with
 | none => rfl
 | some d => obtain ⟨e, h1, h2⟩ := (h.way w hc).2 d hd; rw [hd] at h1; cases h1; omega
theorem Deep.no (h : Deep E K D) {c p : V} (hc : c ∈ K) (hp : p ∈ E c) (hd : D p = none) : D c = none := by
 rw [h.eq c hc]; exact maxD_none hp hd
end
def zg3 (L : List Itm) (c : List UInt8) : Option Itm := L.find? fun x => decide (x.Code = c)
def zeu (x : Itm) : List (List UInt8) := x.zb6.map Part.Item
def zjn (L : List Itm) (c : List UInt8) : List (List UInt8) := match zg3 L c with | some x => zeu x | none => []
def zdr (L : List Itm) : List (List UInt8) := L.map Itm.Code
def zfn (L : List Itm) (c : List UInt8) : Option Nat := depF (zjn L) L.length c
def zhi (x : Itm) : Bool := bif decide (x.zb6 = []) then decide (0 < x.Life) && decide (x.Life ≤ 2000) else
 (x.zb6.all fun p => decide (1 ≤ p.Qty) && decide (p.Qty ≤ 1073741824)) && (decide (zeu x).Nodup && (decide (x.Life = 0) && decide (x.zb6.length ≤ 8)))
def ordAt (L : List Itm) (i : Nat) (x : Itm) : Bool := decide (i = 0) || match L[i - 1]? with | some p => zgn p.Code x.Code | none => true
def zpm (L : List Itm) (i : Nat) : Bool := match L[i]? with
 | some x => ze7 x.Code && (ordAt L i x && zhi x)
 | none => true
def ziu (L : List Itm) : Bool := (List.range L.length).all (zpm L)
def ze9 (L : List Itm) : Bool := L.all fun x => x.zb6.all fun p => (zdr L).contains p.Item
def zd8 (L : List Itm) : Int :=
 bif decide (60 < L.length) then 3 else bif !ziu L then 4 else bif !ze9 L then 150 else
 bif L.any (fun x => decide (zfn L x.Code = none)) then 152 else bif L.any (fun x => decide (8 < (zfn L x.Code).getD 0)) then 3 else 0
theorem zo7 {L : List Itm} {i : Nat} (hi : i < L.length) (h : zpm L i = false) : ziu L = false := by
 unfold ziu
 rw [List.all_eq_false]
 exact ⟨i, by simpa using hi, by simp [h]⟩
theorem zqy {L : List Itm} (h : ∀ i, i < L.length → zpm L i = true) : ziu L = true := by
 unfold ziu
 rw [List.all_eq_true]
 exact fun i hi => h i (by simpa using hi)
theorem kitAll_at {L : List Itm} (h : ziu L = true) {i : Nat} (hi : i < L.length) : zpm L i = true := by
 unfold ziu at h
 rw [List.all_eq_true] at h
 exact h i (by simpa using hi)
theorem zk7 {L : List Itm} {i : Nat} {x : Itm} (h : L[i]? = some x) : zpm L i = (ze7 x.Code && (ordAt L i x && zhi x)) := by
 unfold zpm; rw [h]
theorem zoh {L : List Itm} {i : Nat} {x p : Itm} (hi : i ≠ 0) (hp : L[i - 1]? = some p) : ordAt L i x = zgn p.Code x.Code := by
 unfold ordAt; rw [hp]; simp [hi]
theorem zr7 {L : List Itm} (h : ziu L = true) : ∀ {j : Nat} {y : Itm}, L[j]? = some y → ∀ {i : Nat} {x : Itm}, i < j → L[i]? = some x → zgn x.Code y.Code = true
 | 0, _, _, i, _, hi, _ => by omega
 | j + 1, y, hy, i, x, hi, hx => by
  have hj : j + 1 < L.length := List.getElem?_eq_some_iff.1 hy |>.1
  have := kitAll_at h hj
  rw [zk7 hy] at this
  obtain ⟨z, hz⟩ := zfc (L := L) (k := j) (by omega)
  rw [zoh (p := z) (by omega) hz, Bool.and_eq_true, Bool.and_eq_true] at this
  have h1 : zgn z.Code y.Code = true := this.2.1
  by_cases e : i = j
  ·subst e; rw [hz] at hx; cases hx; exact h1
  ·exact zj3 (zr7 h hz (by omega) hx) h1
theorem zkv {L : List Itm} (h : ziu L = true) : (zdr L).Nodup := by
 unfold zdr List.Nodup
 rw [List.pairwise_map, List.pairwise_iff_getElem]
 intro i j hi hj hij e
 have := zr7 h (List.getElem?_eq_getElem hj) hij (List.getElem?_eq_getElem hi)
 exact lessB_ne this e
theorem ziw {L : List Itm} {c : List UInt8} : zg3 L c = none ↔ c ∉ zdr L := by
 unfold zg3 zdr
 rw [List.find?_eq_none, List.mem_map]
 constructor
 ·rintro h ⟨x, hx, rfl⟩; exact h x hx (by simp)
 ·intro h x hx e; exact h ⟨x, hx, by simpa using e⟩
theorem zj6 {L : List Itm} {c : List UInt8} {x : Itm} (h : zg3 L c = some x) : x ∈ L ∧ x.Code = c :=
 ⟨List.mem_of_find?_eq_some h, by simpa using List.find?_some h⟩
theorem zr9 : ∀ {L : List Itm} (hn : (zdr L).Nodup) {x : Itm} (hx : x ∈ L), zg3 L x.Code = some x
 | y :: L, hn, x, hx => by
  have hn : (y.Code :: zdr L).Nodup := hn
  rw [List.nodup_cons] at hn
  unfold zg3
  rw [List.find?_cons]
  rcases List.mem_cons.1 hx with rfl | hx
  ·simp
  ·have : y.Code ≠ x.Code := fun e => hn.1 (by rw [e]; exact List.mem_map_of_mem hx)
   simp only [this, decide_false]
   exact zr9 hn.2 hx
theorem zor {L : List Itm} (h : ze9 L = true) : Deep (zjn L) (zdr L) (zfn L) := by
 have hl : (zdr L).length = L.length := by simp [zdr]
 have := deep_depF (E := zjn L) (K := zdr L) (fun c hc p hp => by
  unfold zjn at hp
  cases hi : zg3 L c with
  | none => rw [hi] at hp; cases hp
  | some x =>
   rw [hi] at hp
   obtain ⟨q, hq, rfl⟩ := List.mem_map.1 hp
   unfold ze9 at h
   rw [List.all_eq_true] at h
   have := h x (zj6 hi).1
   rw [List.all_eq_true] at this
   simpa using this q hq)
 rw [hl] at this
 exact this
theorem partsL_mem {L : List Itm} (hn : (zdr L).Nodup) {x : Itm} (hx : x ∈ L) : zjn L x.Code = zeu x := by
 unfold zjn; rw [zr9 hn hx]
theorem flat_take {α : Type} {n : Nat} : ∀ {css : List (List α)}, (∀ cs ∈ css, cs.length = n) → ∀ k : Nat, (css.take k).flatten = css.flatten.take (k * n)
 | [], _, k => by simp
 | c :: css, hl, 0 => by simp
 | c :: css, hl, k + 1 => by
  have hc : c.length = n := hl c (by simp)
  rw [List.take_succ_cons, List.flatten_cons, List.flatten_cons, flat_take (fun p hp => hl p (by simp [hp])) k, Nat.add_mul, Nat.one_mul, show k * n + n = c.length + k * n by omega, List.take_length_add_append]
theorem flat_drop {α : Type} {n : Nat} : ∀ {css : List (List α)}, (∀ cs ∈ css, cs.length = n) → ∀ k : Nat, (css.drop k).flatten = css.flatten.drop (k * n)
 | [], _, k => by simp
 | c :: css, hl, 0 => by simp
 | c :: css, hl, k + 1 => by
  have hc : c.length = n := hl c (by simp)
  rw [List.drop_succ_cons, List.flatten_cons, flat_drop (fun p hp => hl p (by simp [hp])) k, Nat.add_mul, Nat.one_mul, show k * n + n = c.length + k * n by omega, List.drop_length_add_append]
theorem lay_read {cells Z F : List AVal} {off lo T : Nat} (h5 : (cells.drop off).take T = F) (hF : F.length = T) (hh : off + T ≤ cells.length) (hz : lo + Z.length ≤ T) :
  ((cells.take (off + lo) ++ Z ++ cells.drop (off + lo + Z.length)).drop off).take T = F.take lo ++ Z ++ F.drop (lo + Z.length) := by
 subst h5
 apply List.ext_getElem?
 intro k
 by_cases hk : k < T
 ·rw [List.getElem?_take_of_lt hk, List.getElem?_drop, List.append_assoc, List.append_assoc]
  have l1 : (cells.take (off + lo)).length = off + lo := by simp; omega
  have l2 : (((cells.drop off).take T).take lo).length = lo := by simp; omega
  rw [zla _ _ _ l1, zla _ _ _ l2, show off + k - (off + lo) = k - lo by omega]
  by_cases k1 : k < lo
  ·rw [if_pos (by omega), if_pos k1, List.getElem?_take_of_lt (by omega), List.getElem?_take_of_lt (by omega), List.getElem?_take_of_lt (by omega), List.getElem?_drop]
  ·rw [if_neg (by omega), if_neg k1]
   split
   ·rfl
   ·rw [List.getElem?_drop, List.getElem?_drop, List.getElem?_take_of_lt (by omega), List.getElem?_drop]
    congr 1
    omega
 ·rw [List.getElem?_take_eq_none (by omega), List.getElem?_eq_none]
  simp
  omega
section
variable {h h0 : zb} {es : Nat} {x : AVal} {L R : List (List AVal)} {l : List Ob}
theorem SlX.clrTail {lo : Nat} {z : List AVal} {K : AVal → zb → Prop} (ho : SlX h es x L R) (hown : ∀ id b, foot x = some id → h id = some b → b.own = true) (hz : z.length = es) (hlo : lo ≤ L.length)
  (hk : ∀ h', SlX h' es x (L.take lo ++ List.replicate (L.length - lo) z) R → (∀ id b, foot x = some id → h' id = some b → b.own = true) → But x h h' → K (.tup []) h') :
  ∃ y, V.zfe es x (some (.int .i64 (lo : Int))) none = some y ∧ A.clr h (some z) y K := by
 rcases ho.at_ with ⟨e, e', e''⟩ | ⟨id, g, off, cp, b, hi, h1, h1', h2, h3, h4, hh, h5⟩
 ·subst e e'
  have : lo = 0 := by simpa using hlo
  subst this
  refine ⟨x, ?_, ?_⟩
  ·rcases e'' with rfl | rfl <;> rfl
  ·have := hk h (by simpa using ho) hown (fun _ _ h _ => h)
   rcases e'' with rfl | rfl <;> exact this
 ·subst h1
  refine ⟨.sl id g (off + lo * es) (L.length - lo) es (max L.length cp - lo), ?_, ?_⟩
  ·simp only [V.zfe, endsC_eq (.inr ⟨_, rfl⟩) (.inl ⟨rfl, rfl⟩)]
   rw [if_pos ⟨hlo, by omega⟩]
   simp
  ·simp only [A.clr]
   split
   ·rename_i h0
    refine hk h ?_ hown (fun _ _ h _ => h)
    rw [h0, List.take_of_length_le (by omega)]
    simpa using ho
   ·rename_i hne
    have hown' := hown id b rfl h2
    generalize hZ : (List.replicate (L.length - lo) z).flatten = Z
    have hzl : Z.length = (L.length - lo) * es := by rw [← hZ]; simp [hz]
    have hTl : (L ++ R).length = L.length + R.length := by simp
    have hmul : lo * es + (L.length - lo) * es = L.length * es := by rw [← Nat.add_mul]; congr 1; omega
    have hmul2 : L.length * es + R.length * es = (L.length + R.length) * es := by rw [← Nat.add_mul]
    have hbl : Nat.ble (0 + (off + lo * es) + (L.length - lo) * es) hi = true := by rw [Nat.ble_eq]; omega
    have hput : V.putN (off + lo * es) ((L.length - lo) * es) (.agg Z) b.cells = some (b.cells.take (off + lo * es) ++ Z ++ b.cells.drop (off + lo * es + (L.length - lo) * es)) := by
     simp only [V.putN]; rw [if_pos ⟨hzl, by omega⟩]
    simp only [A.stv, h2, h3, hown', hbl, Bool.true_and, cond_true, hput, A.ph]
    have rd := lay_read (cells := b.cells) (Z := Z) (off := off) (lo := lo * es) h5 (by rw [zka ho.len, hTl]) (by omega) (by rw [hzl]; omega)
    have hnew : (L.take lo ++ List.replicate (L.length - lo) z ++ R).flatten = (L ++ R).flatten.take (lo * es) ++ Z ++ (L ++ R).flatten.drop (lo * es + Z.length) := by
     rw [List.flatten_append, List.flatten_append, hZ, hzl, hmul, ← flat_take ho.len, ← flat_drop ho.len, List.take_append_of_le_length hlo, List.drop_left]
    rw [← hnew, hzl] at rd
    have hll : (L.take lo ++ List.replicate (L.length - lo) z).length = L.length := by simp; omega
    have hlen' : ∀ p ∈ L.take lo ++ List.replicate (L.length - lo) z ++ R, p.length = es := fun p hp => by
     rcases List.mem_append.1 hp with hp | hp
     ·rcases List.mem_append.1 hp with hp | hp
      ·exact ho.len p (List.mem_append_left _ (List.mem_of_mem_take hp))
      ·rw [(List.mem_replicate.1 hp).2]; exact hz
     ·exact ho.len p (List.mem_append_right _ hp)
    refine hk _ ⟨hlen', .inr ⟨id, g, off, cp, _, hi, by rw [hll], by rw [hll]; exact h1', zbv .., zgz .., by rw [hll]; exact h4, ?_, by simp only; rw [hll]; exact rd⟩⟩ (fun j b1 hj hb1 => ?_) (fun j b1 e1 e2 => ?_)
    ·simp; omega
    ·cases hj
     rw [zbv] at hb1; cases hb1; rfl
    ·rw [zr]
     ·exact e1
     ·intro e; subst e; exact e2 rfl
theorem Owns.clrTail {lo : Nat} {z : List AVal} {K : AVal → zb → Prop} (ho : Owns h0 h l) (k : Nat) (hk : l[k]? = some (.sl es x L R)) (hz : z.length = es) (hlo : lo ≤ L.length)
  (hK : ∀ h', Owns h0 h' (l.set k (.sl es x (L.take lo ++ List.replicate (L.length - lo) z) R)) → But x h h' → K (.tup []) h') :
  ∃ y, V.zfe es x (some (.int .i64 (lo : Int))) none = some y ∧ A.clr h (some z) y K :=
 (ho.slAt k hk).clrTail (ho.znl k hk) hz hlo fun h' h1 h2 h3 => hK h' (ho.turn k hk h1 h2 h3 (.inl rfl)) h3
end
abbrev Ents (K T : Type) := List (K × T × Nat)
def zm1 {K T : Type} (ps : Ents K T) : List K := ps.map (·.1)
theorem zk9 {K T : Type} (p : K × T × Nat) (r : Ents K T) : zm1 (p :: r) = p.1 :: zm1 r := rfl
section
variable {K T : Type} [DecidableEq K]
def getP : Ents K T → K → Option T
 | [], _ => none
 | p :: r, k => if p.1 = k then some p.2.1 else getP r k
def putP : Ents K T → K → T → Nat → Ents K T
 | [], k, t, c => [(k, t, c)]
 | p :: r, k, t, c => if p.1 = k then (k, t, p.2.2) :: r else p :: putP r k t c
def clkP (ps : Ents K T) (k : K) (c : Nat) : Nat := if (getP ps k).isSome then c else c + 1
def idxP : Ents K T → K → Option (Nat × T × Nat)
 | [], _ => none
 | p :: r, k => if p.1 = k then some (0, p.2.1, p.2.2) else (idxP r k).map fun (i, q) => (i + 1, q)
theorem zfi (k k' : K) (t : T) (c : Nat) : ∀ ps : Ents K T, getP (putP ps k t c) k' = if k' = k then some t else getP ps k'
 | [] => by
  simp only [putP, getP]
  by_cases h : k' = k
  ·rw [if_pos h.symm, if_pos h]
  ·rw [if_neg (Ne.symm h), if_neg h]
 | p :: r => by
  have ih := zfi k k' t c r
  simp only [putP]
  by_cases hp : p.1 = k
  ·rw [if_pos hp]
   simp only [getP]
   by_cases h : k' = k
   ·rw [if_pos h.symm, if_pos h]
   ·rw [if_neg (Ne.symm h), if_neg h, if_neg (by rw [hp]; exact Ne.symm h)]
  ·rw [if_neg hp]
   simp only [getP, ih]
   by_cases h : k' = k
   ·subst h; rw [if_neg hp, if_pos rfl, if_pos rfl]
   ·rw [if_neg h, if_neg h]
theorem zpw (k : K) : ∀ ps : Ents K T, getP ps k = (idxP ps k).map (·.2.1)
 | [] => rfl
 | p :: r => by
  simp only [getP, idxP]
  split
  ·rfl
  ·rw [zpw k r]; cases idxP r k <;> rfl
theorem idxP_put {k : K} {t : T} {c i : Nat} {q : T × Nat} : ∀ {ps : Ents K T}, idxP ps k = some (i, q) → putP ps k t c = ps.set i (k, t, q.2) ∧ i < ps.length
 | [], h => by simp [idxP] at h
 | p :: r, h => by
  simp only [idxP] at h
  by_cases hp : p.1 = k
  ·rw [if_pos hp] at h
   simp only [Option.some.injEq, Prod.mk.injEq] at h
   obtain ⟨rfl, rfl⟩ := h
   simp [putP, hp]
  ·rw [if_neg hp] at h
   cases hr : idxP r k with
   | none => simp [hr] at h
   | some x =>
    obtain ⟨j, q'⟩ := x
    simp [hr] at h
    obtain ⟨rfl, rfl⟩ := h
    have := idxP_put (t := t) (c := c) hr
    simp [putP, hp, this.1, this.2]
theorem zj7 {k : K} {t : T} {c : Nat} : ∀ {ps : Ents K T}, idxP ps k = none → putP ps k t c = ps ++ [(k, t, c)]
 | [], _ => rfl
 | p :: r, h => by
  simp only [idxP] at h
  by_cases hp : p.1 = k
  ·rw [if_pos hp] at h; cases h
  ·rw [if_neg hp] at h
   cases hr : idxP r k with
   | none => simp [putP, hp, zj7 hr]
   | some x => simp [hr] at h
theorem zqz (k : K) (t : T) (c : Nat) : ∀ ps : Ents K T, zm1 (putP ps k t c) = if k ∈ zm1 ps then zm1 ps else zm1 ps ++ [k]
 | [] => by simp [putP, zm1]
 | p :: r => by
  have ih := zqz k t c r
  by_cases hp : p.1 = k
  ·rw [putP, if_pos hp, zk9, zk9, if_pos (by simp [hp]), hp]
  ·rw [putP, if_neg hp, zk9, ih, zk9]
   by_cases hm : k ∈ zm1 r
   ·rw [if_pos hm, if_pos (by simp [hm])]
   ·rw [if_neg hm, if_neg (by simp [hm, Ne.symm hp])]; rfl
theorem nodup_put {ps : Ents K T} (h : (zm1 ps).Nodup) (k : K) (t : T) (c : Nat) : (zm1 (putP ps k t c)).Nodup := by
 rw [zqz]
 split
 ·exact h
 ·rename_i hk
  rw [List.nodup_append]
  exact ⟨h, List.pairwise_singleton _ _, fun a ha b hb e => hk (by rw [List.mem_singleton.1 hb] at e; rw [← e]; exact ha)⟩
theorem getP_mem {k : K} {t : T} : ∀ {ps : Ents K T}, getP ps k = some t → ∃ n, (k, t, n) ∈ ps
 | [], h => by simp [getP] at h
 | p :: r, h => by
  simp only [getP] at h
  by_cases hp : p.1 = k
  ·rw [if_pos hp] at h
   cases h
   exact ⟨p.2.2, by rw [← hp]; simp⟩
  ·rw [if_neg hp] at h
   obtain ⟨n, hn⟩ := getP_mem h
   exact ⟨n, by simp [hn]⟩
theorem mem_getP {ps : Ents K T} (hn : (zm1 ps).Nodup) {p : K × T × Nat} (hp : p ∈ ps) : getP ps p.1 = some p.2.1 := by
 induction ps with
 | nil => cases hp
 | cons q r ih =>
  simp only [zm1, List.map_cons, List.nodup_cons] at hn
  simp only [getP]
  rcases List.mem_cons.1 hp with rfl | hp
  ·rw [if_pos rfl]
  ·rw [if_neg, ih hn.2 hp]
   intro e
   exact hn.1 (by rw [e]; exact List.mem_map_of_mem hp)
end
structure KeyE (kd : KD) {K : Type} [DecidableEq K] (κ : K → AVal) : Prop where
 same : ∀ a b, V.sameK kd (κ a) (κ b) = some (decide (a = b))
theorem keyS : KeyE .s (fun s : List UInt8 => .str s) := ⟨fun a b => by
 simp only [V.sameK]; congr 1; rw [Bool.eq_iff_iff, beq_iff_eq, decide_eq_true_eq]⟩
def encM {K T : Type} (κ : K → AVal) (v : T → AVal) (ps : Ents K T) : List (AVal × AVal × Nat) := ps.map fun p => (κ p.1, v p.2.1, p.2.2)
section
variable {kd : KD} {K T : Type} [DecidableEq K] {κ : K → AVal} {v : T → AVal}
theorem zq5 (hκ : KeyE kd κ) (k : K) : ∀ (ps : Ents K T) (i : Nat), V.findK kd (κ k) (encM κ v ps) i = some ((idxP ps k).map fun (j, q) => (i + j, v q.1, q.2))
 | [], i => rfl
 | p :: r, i => by
  simp only [encM, List.map_cons, V.findK, hκ.same, idxP]
  by_cases hp : k = p.1
  ·rw [if_pos hp.symm]; simp [hp]
  ·rw [if_neg (Ne.symm hp)]
   have ih := zq5 hκ k r (i + 1)
   simp only [encM] at ih
   simp only [hp, decide_false, ih]
   cases idxP r k with
   | none => rfl
   | some x => obtain ⟨j, q⟩ := x; simp only [Option.map_some]; congr 3; omega
theorem fset_enc (hκ : KeyE kd κ) (k : K) (t : T) (ps : Ents K T) (c : Nat) : A.fset (some kd) (κ k) (v t) (encM κ v ps) c = some (encM κ v (putP ps k t c), clkP ps k c, .undef) := by
 simp only [A.fset, zq5 hκ, clkP, zpw]
 cases h : idxP ps k with
 | none => simp [zj7 h, encM]
 | some x =>
  obtain ⟨j, q⟩ := x
  have := idxP_put (t := t) (c := c) h
  simp only [Option.map_some, Option.isSome_some, if_true, Nat.zero_add, this.1, encM, List.map_set]
end
def zh4 (es : List (AVal × AVal × Nat)) (c : Nat) : Blk := zgk (.map es c)
theorem Owns.newBlk {h0 h : zb} {l : List Ob} (ho : Owns h0 h l) {id : Nat} (hid : h id = none) {b : Blk} (hb : b.own = true) : Owns h0 (upd h id b) (l ++ [.blk id b]) :=
 ho.join ⟨zgi _ hid, fun o hm => by rw [List.mem_singleton.1 hm]; exact zbv .., fun o hm j hj => by rw [List.mem_singleton.1 hm] at hj; cases hj; exact ⟨hid, fun b hb' => by rw [zbv] at hb'; cases hb'; exact hb⟩, List.pairwise_singleton _ _⟩
theorem Owns.zjq {h0 h : zb} {l : List Ob} {K T : Type} (ho : Owns h0 h l) (κ : K → AVal) (v : T → AVal) {Q : AVal → zb → Prop} (hq : ∀ id h', h id = none → Owns h0 h' (l ++ [.blk id (zh4 (encM κ v []) 0)]) → h.le h' → Q (.mp id) h') : B.zjq h Q :=
 fun id hid => hq id _ hid (ho.newBlk hid rfl) (zgi _ hid)
section
variable {h0 h : zb} {l : List Ob} {kd : KD} {K T : Type} [DecidableEq K] {κ : K → AVal} {v : T → AVal}
theorem Owns.setBlk (ho : Owns h0 h l) (k : Nat) {id : Nat} {b b' : Blk} (hk : l[k]? = some (.blk id b)) (hb : b'.own = true) : Owns h0 (upd h id b') (l.set k (.blk id b')) :=
 ho.turn k hk (zbv ..) (fun j c hj hc => by cases hj; rw [zbv] at hc; cases hc; exact hb) (fun j c e1 e2 => by rw [zr]; exact e1; intro e; subst e; exact e2 rfl) (.inl rfl)
theorem znm {id : Nat} {es : List (AVal × AVal × Nat)} {c : Nat} (hb : h id = some (zh4 es c)) : A.zls h (.mp id) = some (es, c) := by simp [A.zls, hb, zh4, zgk]
theorem objT_blk {id : Nat} {es es' : List (AVal × AVal × Nat)} {c c' : Nat} {u : AVal} {f : List (AVal × AVal × Nat) → Nat → Option (List (AVal × AVal × Nat) × Nat × AVal)} {Q : AVal → zb → Prop} (hb : h id = some (zh4 es c)) (hf : f es c = some (es', c', u))
  (hq : Q u (upd h id (zh4 es' c'))) : A.objT h (.mp id) f Q := by
 unfold zh4 zgk at *
 simp only [A.objT, hb, hf]
 exact hq
theorem lkp_blk {id : Nat} {c : Nat} {ps : Ents K T} (hκ : KeyE kd κ) (hb : h id = some (zh4 (encM κ v ps) c)) (z : T) (k : K) (ok : Bool) :
  A.lkp h (some kd) (some (v z)) ok (.mp id) (κ k) = some (bif ok then .tup [v ((getP ps k).getD z), .bool (getP ps k).isSome] else v ((getP ps k).getD z)) := by
 simp only [A.lkp, A.entries, znm hb, zq5 hκ, zpw]
 cases idxP ps k with
 | none => rfl
 | some x => rfl
theorem Owns.lkp (ho : Owns h0 h l) (i : Nat) {id c : Nat} {ps : Ents K T} (hi : l[i]? = some (.blk id (zh4 (encM κ v ps) c))) (hκ : KeyE kd κ) (z : T) (k : K) : A.lkp h (some kd) (some (v z)) false (.mp id) (κ k) = some (v ((getP ps k).getD z)) :=
 lkp_blk hκ (ho.at i hi) z k false
theorem Owns.mset (ho : Owns h0 h l) (i : Nat) {id c : Nat} {ps : Ents K T} (hi : l[i]? = some (.blk id (zh4 (encM κ v ps) c))) (hκ : KeyE kd κ) (k : K) (t : T) {Q : zb → Prop}
  (hq : ∀ h', Owns h0 h' (l.set i (.blk id (zh4 (encM κ v (putP ps k t c)) (clkP ps k c)))) → But (.mp id) h h' → (∀ j, j ≠ id → h' j = h j) → Q h') : B.mset h kd (.mp id) (κ k) (v t) Q :=
 objT_blk (ho.at i hi) (fset_enc hκ k t ps c) (hq _ (ho.setBlk i hi rfl) (fun j b e1 e2 => by rw [zr]; exact e1; intro e; subst e; exact e2 rfl) fun j hj => zr _ _ hj)
end
def zh9 {K T : Type} (ps : Ents K T) (c : Nat) : Prop := (∀ p ∈ ps, p.2.2 < c) ∧ (ps.map (·.2.2)).Nodup
section
variable {K T : Type} {ps D : Ents K T} {c : Nat}
theorem zh9.nil (c : Nat) : zh9 ([] : Ents K T) c := ⟨fun _ h => (by cases h), List.Pairwise.nil⟩
theorem zh9.put [DecidableEq K] (hb : zh9 ps c) (k : K) (t : T) : zh9 (putP ps k t c) (clkP ps k c) := by
 unfold clkP
 rw [zpw]
 cases h : idxP ps k with
 | none =>
  rw [zj7 h]
  simp only [Option.map_none, Option.isSome_none, Bool.false_eq_true, if_false]
  refine ⟨fun p hp => ?_, ?_⟩
  ·rcases List.mem_append.1 hp with hp | hp
   ·have := hb.1 p hp; omega
   ·rw [List.mem_singleton.1 hp]; exact Nat.lt_succ_self _
  ·rw [List.map_append, List.nodup_append]
   refine ⟨hb.2, List.pairwise_singleton _ _, fun a ha b hb2 => ?_⟩
   obtain ⟨p, hp, rfl⟩ := List.mem_map.1 ha
   rw [List.map_singleton, List.mem_singleton] at hb2
   have := hb.1 p hp
   subst hb2
   exact Nat.ne_of_lt this
 | some x =>
  obtain ⟨j, q⟩ := x
  have he := idxP_put (t := t) (c := c) h
  simp only [Option.map_some, Option.isSome_some, if_true, he.1]
  have hq : (ps.map (·.2.2))[j]? = some q.2 := by
   have : ∀ (ps : Ents K T) (j : Nat) (q : T × Nat), idxP ps k = some (j, q) → (ps.map (·.2.2))[j]? = some q.2 := by
    intro ps
    induction ps with
    | nil => intro j q h; cases h
    | cons p r ih =>
     intro j q h
     simp only [idxP] at h
     split at h
     ·cases h; rfl
     ·cases e : idxP r k with
      | none => rw [e] at h; cases h
      | some y =>
       obtain ⟨j', q'⟩ := y
       rw [e] at h
       simp only [Option.map_some, Option.some.injEq, Prod.mk.injEq] at h
       obtain ⟨rfl, rfl⟩ := h
       simpa using ih _ _ e
   exact this _ _ _ h
  have hm : (ps.set j (k, t, q.2)).map (·.2.2) = ps.map (·.2.2) := by
   rw [List.map_set]
   apply List.ext_getElem?
   intro i
   rw [List.getElem?_set]
   split
   ·rename_i e; subst e
    split
    ·exact hq.symm
    ·rename_i e2; simp at e2; omega
   ·rfl
  refine ⟨fun p hp => ?_, by rw [hm]; exact hb.2⟩
  have : p.2.2 ∈ (ps.set j (k, t, q.2)).map (·.2.2) := List.mem_map.2 ⟨p, hp, rfl⟩
  rw [hm] at this
  obtain ⟨p', hp', e⟩ := List.mem_map.1 this
  rw [← e]; exact hb.1 p' hp'
theorem zh9.inj (hb : zh9 ps c) {p q : K × T × Nat} (hp : p ∈ ps) (hq : q ∈ ps) (e : p.2.2 = q.2.2) : p = q := by
 obtain ⟨i, hi, rfl⟩ := List.mem_iff_getElem.1 hp
 obtain ⟨j, hj, rfl⟩ := List.mem_iff_getElem.1 hq
 have : i = j := by
  refine (List.getElem_inj (h₀ := by simpa using hi) (h₁ := by simpa using hj) hb.2).1 ?_
  simpa using e
 subst this; rfl
theorem zh9.all (hb : zh9 ps c) (h1 : ∀ p ∈ D, p ∈ ps) (h2 : (D.map (·.2.2)).Nodup) (h3 : ∀ p ∈ ps, p.2.2 ∈ D.map (·.2.2)) : D.Perm ps := by
 have nd : ∀ {l : Ents K T}, (l.map (·.2.2)).Nodup → l.Nodup := fun h => List.Pairwise.of_map (S := (· ≠ ·)) (fun p : K × T × Nat => p.2.2) (fun a b h e => h (by rw [e])) h
 refine (List.perm_ext_iff_of_nodup (nd h2) (nd hb.2)).2 fun p => ⟨h1 p, fun hp => ?_⟩
 obtain ⟨q, hq, e⟩ := List.mem_map.1 (h3 p hp)
 rwa [hb.inj (h1 q hq) hp e] at hq
end
def zf5 (m since : Nat) (seen : List Nat) (last : Nat) : Blk := zgk (.mapIter (some m) since seen last)
section
variable {h0 h : zb} {l : List Ob} {K T : Type} {κ : K → AVal} {v : T → AVal} {ps : Ents K T} {m c : Nat} {Q : AVal → zb → Prop}
theorem Owns.nextMapB (ho : Owns h0 h l) (j : Nat) {it since last : Nat} {seen : List Nat} (hbm : h m = some (zh4 (encM κ v ps) c)) (hj : l[j]? = some (.blk it (zf5 m since seen last))) (hb : zh9 ps c) (hs : c ≤ since) (hsl : since ≤ last)
  (hdone : (∀ p ∈ ps, p.2.2 ∈ seen) → Q (.tup [.bool false]) h)
  (hstep : ∀ p ∈ ps, p.2.2 ∉ seen → ∀ h', Owns h0 h' (l.set j (.blk it (zf5 m since (seen ++ [p.2.2]) c))) → (∀ k, k ≠ it → h' k = h k) → A.zh0 h' (.ptr it 0 0) = some (.tup [κ p.1, v p.2.1]) → Q (.tup [.bool true, κ p.1, v p.2.1]) h') :
  B.zfa h (.ptr it 0 0) Q := by
 have hbi : h it = some (zf5 m since seen last) := ho.at j hj
 have hne : m ≠ it := fun e => by
  subst e
  rw [hbm] at hbi
  have := Option.some.inj hbi
  unfold zh4 zf5 zgk at this
  cases this
 show A.zfa h (.ptr it 0 0) Q
 have hall : ((encM κ v ps).all fun e => Nat.blt e.2.2 since) = true := by
  rw [List.all_eq_true]
  intro e he
  obtain ⟨p, hp, rfl⟩ := List.mem_map.1 he
  have := hb.1 p hp
  rw [Nat.blt_eq]; show p.2.2 < since; omega
 have hle : Nat.ble since last = true := by rw [Nat.ble_eq]; exact hsl
 have hst : A.steps h (.ptr it 0 0) = some (it, match (encM κ v ps).filter (fun e => !seen.contains e.2.2) with
   | [] => [(zf5 m since seen last, .tup [.bool false])]
   | l => l.map fun e => ({ zf5 m since seen last with obj := some (.mapIter (some m) since (seen ++ [e.2.2]) c) }, .tup [.bool true, e.1, e.2.1])) := by
  simp only [A.steps, hbi]
  unfold zf5 zgk
  simp only [znm hbm, hall, hle, Bool.and_self, cond_true]
  rfl
 simp only [A.zfa, hst]
 intro p hp
 have hf : ∀ e, e ∈ (encM κ v ps).filter (fun e => !seen.contains e.2.2) ↔ ∃ q ∈ ps, q.2.2 ∉ seen ∧ e = (κ q.1, v q.2.1, q.2.2) := fun e => by
  rw [List.mem_filter]
  constructor
  ·rintro ⟨he, hc⟩
   obtain ⟨q, hq, rfl⟩ := List.mem_map.1 he
   refine ⟨q, hq, ?_, rfl⟩
   simpa using hc
  ·rintro ⟨q, hq, hn, rfl⟩
   exact ⟨List.mem_map.2 ⟨q, hq, rfl⟩, by simpa using hn⟩
 cases hfl : (encM κ v ps).filter (fun e => !seen.contains e.2.2) with
 | nil =>
  rw [hfl] at hp
  rw [List.mem_singleton.1 hp]
  have : upd h it (zf5 m since seen last) = h := upd_self hbi
  rw [this]
  refine hdone fun q hq => ?_
  by_cases hn : q.2.2 ∈ seen
  ·exact hn
  ·have := (hf _).2 ⟨q, hq, hn, rfl⟩
   rw [hfl] at this; cases this
 | cons e0 es0 =>
  rw [hfl] at hp
  obtain ⟨e, he, rfl⟩ := List.mem_map.1 hp
  rw [← hfl] at he
  obtain ⟨q, hq, hn, rfl⟩ := (hf _).1 he
  have hblk : ({ zf5 m since seen last with obj := some (.mapIter (some m) since (seen ++ [q.2.2]) c) } : Blk) = zf5 m since (seen ++ [q.2.2]) c := rfl
  show Q _ (upd h it { zf5 m since seen last with obj := some (.mapIter (some m) since (seen ++ [q.2.2]) c) })
  rw [hblk]
  refine hstep q hq hn _ (ho.setBlk j hj rfl) (fun k hk => zr _ _ hk) ?_
  have hbm' : upd h it (zf5 m since (seen ++ [q.2.2]) c) m = some (zh4 (encM κ v ps) c) := by rw [zr _ _ hne]; exact hbm
  have hfind : (encM κ v ps).find? (fun e => Nat.beq e.2.2 q.2.2) = some (κ q.1, v q.2.1, q.2.2) := by
   have key : ∀ (ps : Ents K T), (ps.map (·.2.2)).Nodup → q ∈ ps → (encM κ v ps).find? (fun e => Nat.beq e.2.2 q.2.2) = some (κ q.1, v q.2.1, q.2.2) := by
    intro ps
    induction ps with
    | nil => intro _ h; cases h
    | cons a r ih =>
     intro hnd hm
     simp only [List.map_cons, List.nodup_cons] at hnd
     simp only [encM, List.map_cons, List.find?_cons]
     rcases List.mem_cons.1 hm with rfl | hm
     ·simp [Nat.beq_refl]
     ·have hne : a.2.2 ≠ q.2.2 := fun e => hnd.1 (by rw [e]; exact List.mem_map.2 ⟨q, hm, rfl⟩)
      have : Nat.beq a.2.2 q.2.2 = false := by
       cases e : Nat.beq a.2.2 q.2.2 with
       | false => rfl
       | true => exact absurd (Nat.eq_of_beq_eq_true e) hne
      rw [this]
      exact ih hnd.2 hm
   exact key ps hb.2 hq
  simp only [A.zh0, upd_get]
  unfold zf5 zgk
  have hbm'' := hbm'
  unfold zf5 zgk at hbm''
  simp only [znm hbm'', List.getLast?_append, List.getLast?_singleton, Option.some_or, Nat.beq_refl, cond_true, hfind]
theorem Owns.rangeLoop {J : Ents K T → List Ob → Prop} {Lp : AVal → List AVal → zb → (List AVal → zb → Prop) → Prop} {REST : AVal → AVal → zb → (List AVal → zb → Prop) → Prop} (ho : Owns h0 h l) (hbm : h0 m = some (zh4 (encM κ v ps) c)) (hb : zh9 ps c) (hJ : J [] l)
  (heq : ∀ it hh Y, B.zfa hh it (fun v h2 => REST it v h2 Y) → Lp it [] hh Y)
  (hdone : ∀ it hh D l b Y, J D l → D.Perm ps → Owns h0 hh (l ++ [.blk it b]) → REST (.ptr it 0 0) (.tup [.bool false]) hh Y)
  (hstep : ∀ it hh D l b Y, ∀ p ∈ ps, J D l → (∀ q ∈ D, q ∈ ps) → p ∉ D → Owns h0 hh (l ++ [.blk it b]) → A.zh0 hh (.ptr it 0 0) = some (.tup [κ p.1, v p.2.1]) →
   (∀ h' l', J (D ++ [p]) l' → Owns h0 h' (l' ++ [.blk it b]) → Y [] h') → REST (.ptr it 0 0) (.tup [.bool true, κ p.1, v p.2.1]) hh Y) :
  B.rangeMap h (.mp m) fun v h => zd (Lp v) [] h := by
 show A.rangeMap h (.mp m) _
 simp only [A.rangeMap, znm (ho.le _ _ hbm)]
 intro it hit
 have ho : Owns h0 (upd h it (zgk (.mapIter (some m) c [] c))) (l ++ [.blk it (zf5 m c (([] : Ents K T).map (·.2.2)) c)]) := ho.newBlk (b := zf5 m c [] c) hit rfl
 refine zd.intro (fun t vs hh => vs = [] ∧ ∃ (D : Ents K T) (l' : List Ob), D.length + t = ps.length ∧ J D l' ∧ (∀ q ∈ D, q ∈ ps) ∧ (D.map (·.2.2)).Nodup ∧ Owns h0 hh (l' ++ [.blk it (zf5 m c (D.map (·.2.2)) c)])) ps.length ?_ ⟨rfl, [], l, by simp, hJ, by simp, List.Pairwise.nil, ho⟩
 rintro Y t vs hh ⟨rfl, D, l', ht, hJ', hD, hnd, o⟩ hY
 refine heq _ _ _ ?_
 refine o.nextMapB l'.length (seen := D.map (·.2.2)) (since := c) (last := c) (o.le _ _ hbm) (by simp) hb (Nat.le_refl _) (Nat.le_refl _) (fun hall => ?_) fun p hp hns h' o' hk he => ?_
 ·exact hdone it hh D l' _ Y hJ' (hb.all hD hnd hall) o
 ·have o'' : Owns h0 h' (l' ++ [.blk it (zf5 m c ((D ++ [p]).map (·.2.2)) c)]) := by
   have := o'
   rw [List.set_append_right _ _ (Nat.le_refl _), Nat.sub_self] at this
   simpa using this
  have hpD : p ∉ D := fun hm => hns (List.mem_map.2 ⟨p, hm, rfl⟩)
  have nd2 : ((D ++ [p]).map (·.2.2)).Nodup := by
   rw [List.map_append, List.nodup_append]
   exact ⟨hnd, by simp, fun x hx y hy e => hns (by rw [List.map_cons, List.map_nil, List.mem_singleton] at hy; rw [← hy, ← e]; exact hx)⟩
  have sub : ∀ q ∈ D ++ [p], q ∈ ps := fun q hq => by
   rcases List.mem_append.1 hq with h | h
   ·exact hD q h
   ·rw [List.mem_singleton.1 h]; exact hp
  have hl : (D ++ [p]).length ≤ ps.length := List.Nodup.length_le_of_subset (List.Pairwise.of_map (S := (· ≠ ·)) (fun p : K × T × Nat => p.2.2) (fun a b h e => h (by rw [e])) nd2) sub
  rw [List.length_append] at hl
  have hl : D.length + 1 ≤ ps.length := hl
  exact hstep it h' D l' _ Y p hp hJ' hD hpD o'' he fun h2 l2 hJ2 o2 => hY (t - 1) _ _ (by omega) ⟨rfl, D ++ [p], l2, by rw [List.length_append, List.length_singleton]; omega, hJ2, sub, nd2, o2⟩
end
structure Weak {T : Type} (less : T → T → Bool) : Prop where
 asym : ∀ {a b}, less a b = true → less b a = false
 zo3 : ∀ {a b c}, less a b = false → less b c = false → less a c = false
section
variable {T : Type} {less : T → T → Bool}
theorem Weak.irr (W : Weak less) (a : T) : less a a = false := by
 cases h : less a a with
 | false => rfl
 | true => have := W.asym h; rw [h] at this; cases this
theorem Weak.trans (W : Weak less) {a b c : T} (h1 : less a b = true) (h2 : less b c = true) : less a c = true := by
 cases h : less a c with
 | true => rfl
 | false => have := W.zo3 h (W.asym h2); rw [h1] at this; cases this
def lt' (less : T → T → Bool) (x y : T × Nat) : Prop := less x.1 y.1 = true ∨ (less y.1 x.1 = false ∧ x.2 < y.2)
theorem lt'_trans (W : Weak less) {x y z : T × Nat} (h1 : lt' less x y) (h2 : lt' less y z) : lt' less x z := by
 unfold lt' at *
 rcases h1 with h1 | ⟨h1, n1⟩ <;> rcases h2 with h2 | ⟨h2, n2⟩
 ·exact .inl (W.trans h1 h2)
 ·left
  cases h : less x.1 z.1 with
  | true => rfl
  | false => have := W.zo3 h h2; rw [h1] at this; cases this
 ·left
  cases h : less x.1 z.1 with
  | true => rfl
  | false => have := W.zo3 h1 h; rw [h2] at this; cases this
 ·exact .inr ⟨W.zo3 h2 h1, by omega⟩
theorem lt'_gt {x y : T × Nat} (hn : y.2 < x.2) : lt' less x y ↔ less x.1 y.1 = true := ⟨fun h => h.elim id fun ⟨_, h⟩ => by omega, .inl⟩
theorem lt'_le (W : Weak less) {x y : T × Nat} (hn : x.2 < y.2) : lt' less x y ↔ less y.1 x.1 = false :=
 ⟨fun h => h.elim (fun h => W.asym h) fun ⟨h, _⟩ => h, fun h => .inr ⟨h, hn⟩⟩
end
theorem add1 {a : Nat} (h : a < 4611686018427387904) : V.bin .add (.int .i64 (a : Int)) (.int .i64 1) = some (.int .i64 ((a + 1 : Nat) : Int)) := by
 rw [V.zdi, wrap_i64 (by omega) (by omega)]; simp
theorem sub1 {a : Nat} (h : 1 ≤ a) (ha : a < 4611686018427387904) : V.bin .sub (.int .i64 (a : Int)) (.int .i64 1) = some (.int .i64 ((a - 1 : Nat) : Int)) := by
 rw [V.zfk, wrap_i64 (by omega) (by omega)]; congr 2; omega
theorem lssN {a b : Nat} : V.bin .lss (.int .i64 (a : Int)) (.int .i64 (b : Int)) = some (.bool (decide (a < b))) := by rw [V.zfq]; congr 3; exact propext (by omega)
theorem leqN {a b : Nat} : V.bin .leq (.int .i64 (a : Int)) (.int .i64 (b : Int)) = some (.bool (decide (a ≤ b))) := by rw [V.bin_leq]; congr 3; exact propext (by omega)
theorem gtrN {a b : Nat} : V.bin .gtr (.int .i64 (a : Int)) (.int .i64 (b : Int)) = some (.bool (decide (b < a))) := by rw [V.zou]; congr 3; exact propext (by omega)
structure zd9 (E : z5) {X : Type} (cs : X → List AVal) (v : X → AVal) : Prop where
 pos : 0 < E.es
 small : E.bytes ≤ 1000
 zlen : E.z.length = E.es
 len : ∀ t, (cs t).length = E.es
 new : ∀ t, zep [(0, E.kp, v t)] (repL 1 E.z) = some (cs t)
 ld : ∀ {h : zb} {x : AVal} {L R : List (List AVal)} {i : Nat} {t : X} {K : AVal → Prop}, SlX h E.es x L R → L[i]? = some (cs t) → K (v t) → E.ld h (elp E.es x i 0) K
 kpt : ∀ {h : zb} {x : AVal} {L R : List (List AVal)} {i : Nat} {t : X}, SlX h E.es x L R → L[i]? = some (cs t) → Kp h (elp E.es x i 0) E.kp
 st : ∀ {h0 h : zb} {x : AVal} {L R : List (List AVal)} {i : Nat} {c : List AVal} {t : X} {K : zb → Prop}, Owns h0 h [.sl E.es x L R] → L[i]? = some c →
  (∀ h', Owns h0 h' [.sl E.es x (L.set i (cs t)) R] → K h') → E.st h (elp E.es x i 0) (v t) K
theorem zd9.comp {E : z5} {X Y : Type} {cs : X → List AVal} {v : X → AVal} (S : zd9 E cs v) (f : Y → X) : zd9 E (fun y => cs (f y)) (fun y => v (f y)) :=
 ⟨S.pos, S.small, S.zlen, fun t => S.len _, fun t => S.new _, fun h1 h2 h3 => S.ld h1 h2 h3, fun h1 h2 => S.kpt h1 h2, fun h1 h2 h3 => S.st h1 h2 h3⟩
theorem seqS {X : Type} {bytes f : Nat} {z : AVal} {v : X → AVal} (hb : bytes ≤ 1000) (hc : ∀ t, (v t).zd1 = true) : zd9 (opsS bytes z f) (fun t => [v t]) v where
 pos := Nat.one_pos
 small := hb
 zlen := rfl
 len _ := rfl
 new t := by simp [opsS, hc, repL]
 ld hs hcc hk := by
  simp only [opsS, B.zg9] at hs ⊢
  rw [hs.cell hcc]; exact hk
 kpt hs hcc := ⟨_, hs.cell hcc⟩
 st {h0 h x L R i c t K} ho hcc hk := by
  have hs : SlX h 1 x L R := ho.slAt 0 rfl
  have hcl : c.length = 1 := hs.len c (List.mem_append_left _ (List.mem_of_getElem? hcc))
  obtain ⟨u, rfl⟩ := List.length_eq_one_iff.1 hcl
  exact ho.st 0 rfl hcc (by show 0 < 1; omega) (hc _) fun h' h1 _ => hk h' h1
def Rw (E : z5) {X : Type} (cs : X → List AVal) (h0 h : zb) (x : AVal) (G : List X) (R : List (List AVal)) : Prop := Owns h0 h [.sl E.es x (G.map cs) R]
section
variable {E : z5} {X : Type} {cs : X → List AVal} {v : X → AVal} {h0 h : zb} {x : AVal} {G : List X} {R : List (List AVal)}
theorem Rw.idx (ho : Rw E cs h0 h x G R) {i : Nat} (hi : i < G.length) : V.idxS E.es x (.int .i64 (i : Int)) = some (elp E.es x i 0) := (Owns.slAt ho 0 rfl).idxN (by simpa using hi)
theorem Rw.lenE (ho : Rw E cs h0 h x G R) : V.zw x = some (.int .i64 G.length) := by have := (Owns.slAt ho 0 rfl).zw; simpa using this
theorem Rw.le (ho : Rw E cs h0 h x G R) : h0.le h := Owns.le ho
theorem Rw.ld (ho : Rw E cs h0 h x G R) (S : zd9 E cs v) {i : Nat} {t : X} (hg : G[i]? = some t) {K : AVal → Prop} (hk : K (v t)) : E.ld h (elp E.es x i 0) K :=
 S.ld (Owns.slAt ho 0 rfl) (by rw [List.getElem?_map, hg]; rfl) hk
theorem Rw.st (ho : Rw E cs h0 h x G R) (S : zd9 E cs v) {i : Nat} {t : X} (hi : i < G.length) {K : zb → Prop} (hk : ∀ h', Rw E cs h0 h' x (G.set i t) R → K h') : E.st h (elp E.es x i 0) (v t) K :=
 S.st ho (c := cs G[i]) (by rw [List.getElem?_map, List.getElem?_eq_getElem hi]; rfl) fun h' h1 => hk h' (by unfold Rw; rwa [List.map_set])
theorem set_mid {P Q : List X} {a b : X} {i : Nat} (hi : i = P.length) : (P ++ a :: Q).set i b = P ++ b :: Q := by subst hi; simp
theorem get_mid {P Q : List X} {a : X} {i : Nat} (hi : i = P.length) : (P ++ a :: Q)[i]? = some a := by subst hi; simp
theorem set_mid2 {P Q T : List X} {a b c : X} {j : Nat} (hj : j = P.length + 1 + Q.length) : (P ++ a :: (Q ++ b :: T)).set j c = P ++ a :: (Q ++ c :: T) := by
 have := set_mid (P := P ++ a :: Q) (Q := T) (a := b) (b := c) (i := j) (by simp; omega)
 simpa using this
theorem get_mid2 {P Q T : List X} {a b : X} {j : Nat} (hj : j = P.length + 1 + Q.length) : (P ++ a :: (Q ++ b :: T))[j]? = some b := by
 have := get_mid (P := P ++ a :: Q) (Q := T) (a := b) (i := j) (by simp; omega)
 simpa using this
theorem Rw.swapDn {P Q T : List X} {a b : X} {i j : Nat} (ho : Rw E cs h0 h x (P ++ a :: (Q ++ b :: T)) R) (S : zd9 E cs v) (hi : i = P.length) (hj : j = P.length + 1 + Q.length) {K : zb → Prop}
  (hk : ∀ h', Rw E cs h0 h' x (P ++ b :: (Q ++ a :: T)) R → K h') : E.st h (elp E.es x j 0) (v a) fun h => E.st h (elp E.es x i 0) (v b) K := by
 refine ho.st S (by simp; omega) fun h1 o1 => ?_
 rw [set_mid2 hj] at o1
 refine o1.st S (by simp; omega) fun h2 o2 => hk h2 ?_
 rwa [set_mid hi] at o2
end
section
variable {E : z5} {T : Type} {cs : T → List AVal} {v : T → AVal} {c : T → T → Int} {h0 h : zb} {x f : AVal} {R : List (List AVal)} {Q : AVal → zb → Prop}
def zey (c : T → T → Int) (a b : T) : Bool := decide (c a b < 0)
theorem nil_or_snoc {X : Type} (L : List X) : L = [] ∨ ∃ L0 y, L = L0 ++ [y] := by
 rcases List.eq_nil_or_concat L with h | ⟨A, b, h⟩
 ·exact .inl h
 ·exact .inr ⟨A, b, by rw [h, List.concat_eq_append]⟩
end
variable {C : CSem}
structure zda {X : Type} (a b : Nat) (G G' : List X) : Prop where
 perm : G'.Perm G
 out : ∀ i, i < a ∨ b ≤ i → G'[i]? = G[i]?
theorem zda.refl {X : Type} (a b : Nat) (G : List X) : zda a b G G := ⟨.refl _, fun _ _ => rfl⟩
theorem zda.trans {X : Type} {a b : Nat} {G G' G'' : List X} (x : zda a b G G') (y : zda a b G' G'') : zda a b G G'' := ⟨y.perm.trans x.perm, fun i hi => (y.out i hi).trans (x.out i hi)⟩
theorem zda.mono {X : Type} {a b a' b' : Nat} {G G' : List X} (x : zda a b G G') (ha : a' ≤ a) (hb : b ≤ b') : zda a' b' G G' := ⟨x.perm, fun i hi => x.out i (by omega)⟩
theorem zda.len {X : Type} {a b : Nat} {G G' : List X} (x : zda a b G G') : G'.length = G.length := x.perm.length_eq
theorem zda.same {X : Type} {a b : Nat} {G G' : List X} (w : zda a b G G') {k : Nat} (hk : k < a ∨ b ≤ k) (h1 : k < G'.length) (h2 : k < G.length) : G'[k] = G[k] := by
 have := w.out k hk
 rw [List.getElem?_eq_getElem h1, List.getElem?_eq_getElem h2] at this
 exact Option.some.inj this
def swp {X : Type} (G : List X) (i j : Nat) (hi : i < G.length) (hj : j < G.length) : List X := (G.set i G[j]).set j G[i]
theorem swp_perm {X : Type} {G : List X} {i j : Nat} (hi : i < G.length) (hj : j < G.length) : (swp G i j hi hj).Perm G := by
 unfold swp
 exact List.set_set_perm hi hj
theorem swp_get {X : Type} {G : List X} {i j : Nat} (hi : i < G.length) (hj : j < G.length) (k : Nat) : (swp G i j hi hj)[k]? = if k = j then some G[i] else if k = i then some G[j] else G[k]? := by
 unfold swp
 rw [List.getElem?_set]
 by_cases e : j = k
 ·subst e; simp [hj]
 ·rw [if_neg e, if_neg (Ne.symm e), List.getElem?_set]
  by_cases e2 : i = k
  ·subst e2; simp [hi]
  ·rw [if_neg e2, if_neg (Ne.symm e2)]
theorem ze3 {X : Type} {G : List X} {i j a b : Nat} (hi : i < G.length) (hj : j < G.length) (h1 : a ≤ i) (h2 : i < b) (h3 : a ≤ j) (h4 : j < b) : zda a b G (swp G i j hi hj) := ⟨swp_perm hi hj, fun k hk => by
 rw [swp_get, if_neg (by omega), if_neg (by omega)]⟩
section
variable {E : z5} {X : Type} {cs : X → List AVal} {v : X → AVal} {h0 h : zb} {x f : AVal} {G : List X} {R : List (List AVal)} {c : X → X → Int}
theorem Rw.swap (ho : Rw E cs h0 h x G R) (S : zd9 E cs v) {i j : Nat} (hi : i < G.length) (hj : j < G.length) {K : zb → Prop} (hk : ∀ h', Rw E cs h0 h' x (swp G i j hi hj) R → K h') :
  E.st h (elp E.es x i 0) (v G[j]) fun h => E.st h (elp E.es x j 0) (v G[i]) K := by
 refine ho.st S (t := G[j]) hi fun h1 o1 => ?_
 exact o1.st S (t := G[i]) (by simpa using hj) fun h2 o2 => hk h2 o2
theorem quo4 {a : Nat} (h : a < 4611686018427387904) : V.bin .quo (.int .i64 (a : Int)) (.int .i64 4) = some (.int .i64 ((a / 4 : Nat) : Int)) := by
 rw [V.zot _ _ _ (by omega), show (a : Int).tdiv 4 = ((a / 4 : Nat) : Int) from rfl, wrap_i64 (by omega) (by omega)]
theorem mulN {a b : Nat} (h : a * b < 4611686018427387904) : V.bin .mul (.int .i64 (a : Int)) (.int .i64 (b : Int)) = some (.int .i64 ((a * b : Nat) : Int)) := by
 rw [V.bin_mul, show (a : Int) * (b : Int) = ((a * b : Nat) : Int) by simp, wrap_i64 (by omega) (by omega)]
theorem zke {a b : Nat} (h : a + b < 4611686018427387904) : V.bin .add (.int .i64 (a : Int)) (.int .i64 (b : Int)) = some (.int .i64 ((a + b : Nat) : Int)) := by
 rw [V.zdi, show (a : Int) + (b : Int) = ((a + b : Nat) : Int) by simp, wrap_i64 (by omega) (by omega)]
theorem zih {a b : Nat} (h : b ≤ a) (h2 : a < 4611686018427387904) : V.bin .sub (.int .i64 (a : Int)) (.int .i64 (b : Int)) = some (.int .i64 ((a - b : Nat) : Int)) := by
 rw [V.zfk, show (a : Int) - (b : Int) = ((a - b : Nat) : Int) by omega, wrap_i64 (by omega) (by omega)]
theorem geqN {a b : Nat} : V.bin .geq (.int .i64 (a : Int)) (.int .i64 (b : Int)) = some (.bool (decide (b ≤ a))) := by rw [V.zk1]; congr 3; exact propext (by omega)
end
@[simp] def zcs.k1 (C : CSem) (E : z5) (C0 : CSem) (fL : Nat) (Q : AVal → zb → Prop) (Y1 : List AVal → zb → Prop) (Y2 : List AVal → zb → Prop) (v0 v1 v2 v3 v8 v9 : AVal) (h : zb) : Prop :=
 B.pv (V.bin .gtr v9 v1) fun v20 =>
  B.gd h v20 true (fun K => K v0 h) fun v23 h =>
  B.gd h v20 true (fun K => K v9 h) fun v24 h =>
  B.gd h v20 true (fun K => B.pv (V.idxS E.es v23 v24) fun v => K v h) fun v25 h =>
  B.gd h v20 true (fun K => E.ld h v25 fun v => K v h) fun v26 h =>
  B.gd h v20 true (fun K => K v0 h) fun v27 h =>
  B.gd h v20 true (fun K => K v9 h) fun v28 h =>
  B.gd h v20 true (fun K => B.pv (V.bin .sub v28 (.int .i64 1)) fun v => K v h) fun v29 h =>
  B.gd h v20 true (fun K => B.pv (V.idxS E.es v27 v29) fun v => K v h) fun v30 h =>
  B.gd h v20 true (fun K => E.ld h v30 fun v => K v h) fun v31 h =>
  B.gd h v20 true (fun K => B.call C0 fL [v26, v31] h K) fun v33 h =>
  B.pick v20 v33 (.bool false) fun v34 =>
  B.cond v34
  (B.pv (V.bin .sub v9 (.int .i64 1)) fun v41 =>
  B.pv (V.bin .sub v9 (.int .i64 1)) fun v44 =>
  B.pv (V.idxS E.es v0 v44) fun v45 =>
  E.ld h v45 fun v46 =>
  B.pv (V.idxS E.es v0 v9) fun v49 =>
  E.ld h v49 fun v50 =>
  B.pv (V.idxS E.es v0 v9) fun v51 =>
  E.st h v51 v46 fun h =>
  B.pv (V.idxS E.es v0 v41) fun v52 =>
  E.st h v52 v50 fun h =>
  B.pv (V.bin .sub v9 (.int .i64 1)) fun v36 =>
  Y2 [v36] h)
  (B.pv (V.bin .add v8 (.int .i64 1)) fun v16 =>
  Y1 [v16] h)
@[simp] def zcs.l2 (C : CSem) (E : z5) (C0 : CSem) (fL : Nat) (Q : AVal → zb → Prop) (Y1 : List AVal → zb → Prop) (v0 v1 v2 v3 v8 : AVal) : List AVal → zb → (List AVal → zb → Prop) → Prop
 | [v9], h, Y2 => zcs.k1 C E C0 fL Q Y1 Y2 v0 v1 v2 v3 v8 v9 h
 | _, _, _ => False
@[simp] def zcs.l3 (C : CSem) (E : z5) (C0 : CSem) (fL : Nat) (Q : AVal → zb → Prop) (v0 v1 v2 v3 : AVal) : List AVal → zb → (List AVal → zb → Prop) → Prop
 | [v8], h, Y1 => B.pv (V.bin .lss v8 v2) fun v14 =>
  B.cond v14
  (zd (zcs.l2 C E C0 fL Q Y1 v0 v1 v2 v3 v8) [v8] h)
  (Q (.tup []) h)
 | _, _, _ => False
@[simp] def zcs.cps (C : CSem) (E : z5) (C0 : CSem) (fL : Nat) (v0 v1 v2 v3 : AVal) (h : zb) (Q : AVal → zb → Prop) : Prop :=
 B.pv (V.bin .add v1 (.int .i64 1)) fun v11 =>
  zd (zcs.l3 C E C0 fL Q v0 v1 v2 v3) [v11] h
@[simp] def zbi.k1 (C : CSem) (E : z5) (C0 : CSem) (fL : Nat) (f1 f2 f3 f4 f5 f6 f7 f8 f9 : Nat) (Q : AVal → zb → Prop) (Y1 : List AVal → zb → Prop) (v0 v1 v2 v3 v4 v10 v11 v12 v13 : AVal) (h : zb) : Prop :=
 B.pv (V.bin .gtr v1 (.int .i64 0)) fun v82 =>
  B.gd h v82 true (fun K => K v0 h) fun v85 h =>
  B.gd h v82 true (fun K => K v1 h) fun v86 h =>
  B.gd h v82 true (fun K => B.pv (V.bin .sub v86 (.int .i64 1)) fun v => K v h) fun v87 h =>
  B.gd h v82 true (fun K => B.pv (V.idxS E.es v85 v87) fun v => K v h) fun v88 h =>
  B.gd h v82 true (fun K => E.ld h v88 fun v => K v h) fun v89 h =>
  B.gd h v82 true (fun K => K v0 h) fun v90 h =>
  B.gd h v82 true (fun K => K v13 h) fun v91 h =>
  B.gd h v82 true (fun K => B.pv (V.idxS E.es v90 v91) fun v => K v h) fun v92 h =>
  B.gd h v82 true (fun K => E.ld h v92 fun v => K v h) fun v93 h =>
  B.gd h v82 true (fun K => B.call C0 fL [v89, v93] h K) fun v95 h =>
  B.gd h v82 true (fun K => B.pv (V.un .not v95) fun v => K v h) fun v96 h =>
  B.pick v82 v96 (.bool false) fun v97 =>
  B.cond v97
  (B.call C f1 [v0, v1, v2, v13, v4] h fun v103 h =>
  Y1 [v103, v2, v3, v10, v11] h)
  (B.call C f2 [v0, v1, v2, v13, v4] h fun v111 h =>
  B.pv (V.ext 0 v111) fun v112 =>
  B.pv (V.ext 1 v111) fun v113 =>
  B.pv (V.bin .sub v112 v1) fun v117 =>
  B.pv (V.bin .sub v2 v112) fun v120 =>
  B.pv (V.bin .quo v12 (.int .i64 8)) fun v122 =>
  B.pv (V.bin .lss v117 v120) fun v125 =>
  B.cond v125
  (B.pv (V.bin .geq v117 v122) fun v128 =>
  B.call C f3 [v0, v1, v112, v3, v4] h fun v134 h =>
  B.pv (V.bin .add v112 (.int .i64 1)) fun v136 =>
  Y1 [v136, v2, v3, v128, v113] h)
  (B.pv (V.bin .geq v120 v122) fun v139 =>
  B.pv (V.bin .add v112 (.int .i64 1)) fun v142 =>
  B.call C f3 [v0, v142, v2, v3, v4] h fun v146 h =>
  Y1 [v1, v112, v3, v139, v113] h))
@[simp] def zbi.k2 (C : CSem) (E : z5) (C0 : CSem) (fL : Nat) (f1 f2 f3 f4 f5 f6 f7 f8 f9 : Nat) (Q : AVal → zb → Prop) (Y1 : List AVal → zb → Prop) (v0 v1 v2 v3 v4 v10 v11 v12 v13 v14 : AVal) (h : zb) : Prop :=
 B.gd h v10 true (fun K => K v11 h) fun v70 h =>
  B.pick v10 v70 (.bool false) fun v71 =>
  B.gd h v71 true (fun K => K v14 h) fun v73 h =>
  B.gd h v71 true (fun K => B.pv (V.bin .eql v73 (.int .i64 1)) fun v => K v h) fun v74 h =>
  B.pick v71 v74 (.bool false) fun v75 =>
  B.cond v75
  (B.call C f4 [v0, v1, v2, v4] h fun v80 h =>
  B.cond v80
  (Q (.tup []) h)
  (zbi.k1 C E C0 fL f1 f2 f3 f4 f5 f6 f7 f8 f9 Q Y1 v0 v1 v2 v3 v4 v10 v11 v12 v13 h))
  (zbi.k1 C E C0 fL f1 f2 f3 f4 f5 f6 f7 f8 f9 Q Y1 v0 v1 v2 v3 v4 v10 v11 v12 v13 h)
@[simp] def zbi.k3 (C : CSem) (E : z5) (C0 : CSem) (fL : Nat) (f1 f2 f3 f4 f5 f6 f7 f8 f9 : Nat) (Q : AVal → zb → Prop) (Y1 : List AVal → zb → Prop) (v0 v1 v2 v3 v4 v10 v11 v12 v13 v14 : AVal) (h : zb) : Prop :=
 B.pv (V.bin .eql v14 (.int .i64 2)) fun v56 =>
  B.cond v56
  (B.call C f5 [v0, v1, v2, v4] h fun v61 h =>
  B.pv (V.bin .sub v2 (.int .i64 1)) fun v63 =>
  B.pv (V.bin .sub v13 v1) fun v66 =>
  B.pv (V.bin .sub v63 v66) fun v67 =>
  zbi.k2 C E C0 fL f1 f2 f3 f4 f5 f6 f7 f8 f9 Q Y1 v0 v1 v2 v3 v4 v10 v11 v12 v67 (.int .i64 1) h)
  (zbi.k2 C E C0 fL f1 f2 f3 f4 f5 f6 f7 f8 f9 Q Y1 v0 v1 v2 v3 v4 v10 v11 v12 v13 v14 h)
@[simp] def zbi.k4 (C : CSem) (E : z5) (C0 : CSem) (fL : Nat) (f1 f2 f3 f4 f5 f6 f7 f8 f9 : Nat) (Q : AVal → zb → Prop) (Y1 : List AVal → zb → Prop) (v0 v1 v2 v3 v4 v10 v11 v12 : AVal) (h : zb) : Prop :=
 B.call C f6 [v0, v1, v2, v4] h fun v52 h =>
  B.pv (V.ext 0 v52) fun v53 =>
  B.pv (V.ext 1 v52) fun v54 =>
  zbi.k3 C E C0 fL f1 f2 f3 f4 f5 f6 f7 f8 f9 Q Y1 v0 v1 v2 v3 v4 v10 v11 v12 v53 v54 h
@[simp] def zbi.k5 (C : CSem) (E : z5) (C0 : CSem) (fL : Nat) (f1 f2 f3 f4 f5 f6 f7 f8 f9 : Nat) (Q : AVal → zb → Prop) (Y1 : List AVal → zb → Prop) (v0 v1 v2 v3 v4 v10 v11 v12 : AVal) (h : zb) : Prop :=
 B.pv (V.un .not v10) fun v39 =>
  B.cond v39
  (B.call C f7 [v0, v1, v2, v4] h fun v44 h =>
  B.pv (V.bin .sub v3 (.int .i64 1)) fun v46 =>
  zbi.k4 C E C0 fL f1 f2 f3 f4 f5 f6 f7 f8 f9 Q Y1 v0 v1 v2 v46 v4 v10 v11 v12 h)
  (zbi.k4 C E C0 fL f1 f2 f3 f4 f5 f6 f7 f8 f9 Q Y1 v0 v1 v2 v3 v4 v10 v11 v12 h)
@[simp] def zbi.k6 (C : CSem) (E : z5) (C0 : CSem) (fL : Nat) (f1 f2 f3 f4 f5 f6 f7 f8 f9 : Nat) (Q : AVal → zb → Prop) (Y1 : List AVal → zb → Prop) (v0 v1 v2 v3 v4 v10 v11 v12 : AVal) (h : zb) : Prop :=
 B.pv (V.bin .eql v3 (.int .i64 0)) fun v32 =>
  B.cond v32
  (B.call C f8 [v0, v1, v2, v4] h fun v37 h =>
  Q (.tup []) h)
  (zbi.k5 C E C0 fL f1 f2 f3 f4 f5 f6 f7 f8 f9 Q Y1 v0 v1 v2 v3 v4 v10 v11 v12 h)
@[simp] def zbi.k7 (C : CSem) (E : z5) (C0 : CSem) (fL : Nat) (f1 f2 f3 f4 f5 f6 f7 f8 f9 : Nat) (Q : AVal → zb → Prop) (Y1 : List AVal → zb → Prop) (v0 v1 v2 v3 v4 v10 v11 v12 : AVal) (h : zb) : Prop :=
 B.pv (V.bin .leq v12 (.int .i64 12)) fun v25 =>
  B.cond v25
  (B.call C f9 [v0, v1, v2, v4] h fun v30 h =>
  Q (.tup []) h)
  (zbi.k6 C E C0 fL f1 f2 f3 f4 f5 f6 f7 f8 f9 Q Y1 v0 v1 v2 v3 v4 v10 v11 v12 h)
@[simp] def zbi.l8 (C : CSem) (E : z5) (C0 : CSem) (fL : Nat) (f1 f2 f3 f4 f5 f6 f7 f8 f9 : Nat) (Q : AVal → zb → Prop) (v0 v4 : AVal) : List AVal → zb → (List AVal → zb → Prop) → Prop
 | [v1, v2, v3, v10, v11], h, Y1 => B.pv (V.bin .sub v2 v1) fun v23 =>
  zbi.k7 C E C0 fL f1 f2 f3 f4 f5 f6 f7 f8 f9 Q Y1 v0 v1 v2 v3 v4 v10 v11 v23 h
 | _, _, _ => False
@[simp] def zbi.cps (C : CSem) (E : z5) (C0 : CSem) (fL : Nat) (f1 f2 f3 f4 f5 f6 f7 f8 f9 : Nat) (v0 v1 v2 v3 v4 : AVal) (h : zb) (Q : AVal → zb → Prop) : Prop :=
 zd (zbi.l8 C E C0 fL f1 f2 f3 f4 f5 f6 f7 f8 f9 Q v0 v4) [v1, v2, v3, (.bool true), (.bool true)] h
@[simp] def zcz.k1 (C : CSem) (E : z5) (C0 : CSem) (fL : Nat) (f1 : Nat) (Q : AVal → zb → Prop) (Y1 : List AVal → zb → Prop) (v0 v3 v8 v9 v12 : AVal) (h : zb) : Prop :=
 B.pv (V.bin .geq v12 (.int .i64 0)) fun v33 =>
  B.cond v33
  (B.pv (V.bin .add v8 v12) fun v41 =>
  B.pv (V.bin .add v8 v12) fun v45 =>
  B.pv (V.idxS E.es v0 v45) fun v46 =>
  E.ld h v46 fun v47 =>
  B.pv (V.idxS E.es v0 v8) fun v50 =>
  E.ld h v50 fun v51 =>
  B.pv (V.idxS E.es v0 v8) fun v52 =>
  E.st h v52 v47 fun h =>
  B.pv (V.idxS E.es v0 v41) fun v53 =>
  E.st h v53 v51 fun h =>
  B.call C f1 [v0, v9, v12, v8, v3] h fun v59 h =>
  B.pv (V.bin .sub v12 (.int .i64 1)) fun v35 =>
  Y1 [v35] h)
  (Q (.tup []) h)
@[simp] def zcz.l2 (C : CSem) (E : z5) (C0 : CSem) (fL : Nat) (f1 : Nat) (Q : AVal → zb → Prop) (v0 v3 v8 v9 : AVal) : List AVal → zb → (List AVal → zb → Prop) → Prop
 | [v12], h, Y1 => zcz.k1 C E C0 fL f1 Q Y1 v0 v3 v8 v9 v12 h
 | _, _, _ => False
@[simp] def zcz.k3 (C : CSem) (E : z5) (C0 : CSem) (fL : Nat) (f1 : Nat) (Q : AVal → zb → Prop) (Y2 : List AVal → zb → Prop) (v0 v3 v8 v9 v10 v11 : AVal) (h : zb) : Prop :=
 B.pv (V.bin .geq v11 (.int .i64 0)) fun v21 =>
  B.cond v21
  (B.call C f1 [v0, v11, v10, v8, v3] h fun v29 h =>
  B.pv (V.bin .sub v11 (.int .i64 1)) fun v23 =>
  Y2 [v23] h)
  (B.pv (V.bin .sub v10 (.int .i64 1)) fun v31 =>
  zd (zcz.l2 C E C0 fL f1 Q v0 v3 v8 v9) [v31] h)
@[simp] def zcz.l4 (C : CSem) (E : z5) (C0 : CSem) (fL : Nat) (f1 : Nat) (Q : AVal → zb → Prop) (v0 v3 v8 v9 v10 : AVal) : List AVal → zb → (List AVal → zb → Prop) → Prop
 | [v11], h, Y2 => zcz.k3 C E C0 fL f1 Q Y2 v0 v3 v8 v9 v10 v11 h
 | _, _, _ => False
@[simp] def zcz.k5 (C : CSem) (E : z5) (C0 : CSem) (fL : Nat) (f1 : Nat) (Q : AVal → zb → Prop) (v0 v3 v8 v9 v10 : AVal) (h : zb) : Prop :=
 B.pv (V.bin .sub v10 (.int .i64 1)) fun v18 =>
  B.pv (V.bin .quo v18 (.int .i64 2)) fun v19 =>
  zd (zcz.l4 C E C0 fL f1 Q v0 v3 v8 v9 v10) [v19] h
@[simp] def zcz.cps (C : CSem) (E : z5) (C0 : CSem) (fL : Nat) (f1 : Nat) (v0 v1 v2 v3 : AVal) (h : zb) (Q : AVal → zb → Prop) : Prop :=
 B.pv (V.bin .sub v2 v1) fun v16 =>
  zcz.k5 C E C0 fL f1 Q v0 v3 v1 (.int .i64 0) v16 h
@[simp] def z0.k1 (C : CSem) (E : z5) (C0 : CSem) (fL : Nat) (f1 f2 : Nat) (Q : AVal → zb → Prop) (Y1 : List AVal → zb → Prop) (v0 v1 v8 v9 v10 v11 v12 : AVal) (h : zb) : Prop :=
 B.pv (V.bin .add v1 v12) fun v54 =>
  B.pv (V.bin .add v1 v12) fun v58 =>
  B.pv (V.idxS E.es v0 v58) fun v59 =>
  E.ld h v59 fun v60 =>
  B.pv (V.idxS E.es v0 v11) fun v63 =>
  E.ld h v63 fun v64 =>
  B.pv (V.idxS E.es v0 v11) fun v65 =>
  E.st h v65 v60 fun h =>
  B.pv (V.idxS E.es v0 v54) fun v66 =>
  E.st h v66 v64 fun h =>
  B.pv (V.bin .add v11 (.int .i64 1)) fun v37 =>
  Y1 [v37] h
@[simp] def z0.k2 (C : CSem) (E : z5) (C0 : CSem) (fL : Nat) (f1 f2 : Nat) (Q : AVal → zb → Prop) (Y1 : List AVal → zb → Prop) (v0 v1 v8 v9 v10 v11 v12 : AVal) (h : zb) : Prop :=
 B.pv (V.bin .geq v12 v8) fun v45 =>
  B.cond v45
  (B.pv (V.bin .sub v12 v8) fun v48 =>
  z0.k1 C E C0 fL f1 f2 Q Y1 v0 v1 v8 v9 v10 v11 v48 h)
  (z0.k1 C E C0 fL f1 f2 Q Y1 v0 v1 v8 v9 v10 v11 v12 h)
@[simp] def z0.k3 (C : CSem) (E : z5) (C0 : CSem) (fL : Nat) (f1 f2 : Nat) (Q : AVal → zb → Prop) (Y1 : List AVal → zb → Prop) (v0 v1 v8 v9 v10 v11 : AVal) (h : zb) : Prop :=
 B.call C0 f1 [v9] h fun v38 h =>
  B.pv (V.bin .sub v10 (.int .u64 1)) fun v40 =>
  B.pv (V.bin .and v38 v40) fun v41 =>
  B.pv (V.toInt .i64 v41) fun v42 =>
  z0.k2 C E C0 fL f1 f2 Q Y1 v0 v1 v8 v9 v10 v11 v42 h
@[simp] def z0.k4 (C : CSem) (E : z5) (C0 : CSem) (fL : Nat) (f1 f2 : Nat) (Q : AVal → zb → Prop) (Y1 : List AVal → zb → Prop) (v0 v1 v8 v9 v10 v11 : AVal) (h : zb) : Prop :=
 B.pv (V.bin .quo v8 (.int .i64 4)) fun v31 =>
  B.pv (V.bin .mul v31 (.int .i64 2)) fun v32 =>
  B.pv (V.bin .add v1 v32) fun v33 =>
  B.pv (V.bin .add v33 (.int .i64 1)) fun v34 =>
  B.pv (V.bin .leq v11 v34) fun v35 =>
  B.cond v35
  (z0.k3 C E C0 fL f1 f2 Q Y1 v0 v1 v8 v9 v10 v11 h)
  (Q (.tup []) h)
@[simp] def z0.l5 (C : CSem) (E : z5) (C0 : CSem) (fL : Nat) (f1 f2 : Nat) (Q : AVal → zb → Prop) (v0 v1 v8 v9 v10 : AVal) : List AVal → zb → (List AVal → zb → Prop) → Prop
 | [v11], h, Y1 => z0.k4 C E C0 fL f1 f2 Q Y1 v0 v1 v8 v9 v10 v11 h
 | _, _, _ => False
@[simp] def z0.k6 (C : CSem) (E : z5) (C0 : CSem) (fL : Nat) (f1 f2 : Nat) (Q : AVal → zb → Prop) (v0 v1 v8 v9 v10 : AVal) (h : zb) : Prop :=
 B.pv (V.bin .quo v8 (.int .i64 4)) fun v24 =>
  B.pv (V.bin .mul v24 (.int .i64 2)) fun v25 =>
  B.pv (V.bin .add v1 v25) fun v26 =>
  B.pv (V.bin .sub v26 (.int .i64 1)) fun v27 =>
  zd (z0.l5 C E C0 fL f1 f2 Q v0 v1 v8 v9 v10) [v27] h
@[simp] def z0.k7 (C : CSem) (E : z5) (C0 : CSem) (fL : Nat) (f1 f2 : Nat) (Q : AVal → zb → Prop) (v0 v1 v8 : AVal) (h : zb) : Prop :=
 B.pv (V.toInt .u64 v8) fun v19 =>
  B.newO h (some [.int .u64 0]) fun i9 h =>
  B.st h (.ptr i9 0 0) v19 fun h =>
  B.call C0 f2 [v8] h fun v21 h =>
  z0.k6 C E C0 fL f1 f2 Q v0 v1 v8 (.ptr i9 0 0) v21 h
@[simp] def z0.k8 (C : CSem) (E : z5) (C0 : CSem) (fL : Nat) (f1 f2 : Nat) (Q : AVal → zb → Prop) (v0 v1 v2 : AVal) (h : zb) : Prop :=
 B.pv (V.bin .sub v2 v1) fun v15 =>
  B.pv (V.bin .geq v15 (.int .i64 8)) fun v17 =>
  B.cond v17 (z0.k7 C E C0 fL f1 f2 Q v0 v1 v15 h) (Q (.tup []) h)
@[simp] def z0.cps (C : CSem) (E : z5) (C0 : CSem) (fL : Nat) (f1 f2 : Nat) (v0 v1 v2 v3 : AVal) (h : zb) (Q : AVal → zb → Prop) : Prop :=
 z0.k8 C E C0 fL f1 f2 Q v0 v1 v2 h
@[simp] def zbk.k1 (C : CSem) (E : z5) (C0 : CSem) (fL : Nat) (f1 f2 : Nat) (Q : AVal → zb → Prop) (v11 v13 : AVal) (h : zb) : Prop :=
 B.ld h v11 fun v55 =>
  B.pv (V.bin .eql v55 (.int .i64 0)) fun v58 =>
  B.cond v58
  (Q (.tup [v13, (.int .i64 1)]) h)
  (B.pv (V.bin .eql v55 (.int .i64 12)) fun v61 =>
  B.cond v61
  (Q (.tup [v13, (.int .i64 2)]) h)
  (Q (.tup [v13, (.int .i64 0)]) h))
@[simp] def zbk.k2 (C : CSem) (E : z5) (C0 : CSem) (fL : Nat) (f1 f2 : Nat) (Q : AVal → zb → Prop) (v0 v3 v10 v11 v12 v13 v14 : AVal) (h : zb) : Prop :=
 B.pv (V.bin .geq v10 (.int .i64 50)) fun v36 =>
  B.cond v36
  (B.call C f2 [v0, v12, v11, v3] h fun v40 h =>
  B.call C f2 [v0, v13, v11, v3] h fun v44 h =>
  B.call C f2 [v0, v14, v11, v3] h fun v48 h =>
  B.call C f1 [v0, v40, v44, v48, v11, v3] h fun v54 h =>
  zbk.k1 C E C0 fL f1 f2 Q v11 v54 h)
  (B.call C f1 [v0, v12, v13, v14, v11, v3] h fun v54 h =>
  zbk.k1 C E C0 fL f1 f2 Q v11 v54 h)
@[simp] def zbk.k3 (C : CSem) (E : z5) (C0 : CSem) (fL : Nat) (f1 f2 : Nat) (Q : AVal → zb → Prop) (v0 v3 v10 v11 v12 v13 v14 : AVal) (h : zb) : Prop :=
 B.pv (V.bin .geq v10 (.int .i64 8)) fun v34 =>
  B.cond v34 (zbk.k2 C E C0 fL f1 f2 Q v0 v3 v10 v11 v12 v13 v14 h) (zbk.k1 C E C0 fL f1 f2 Q v11 v13 h)
@[simp] def zbk.k4 (C : CSem) (E : z5) (C0 : CSem) (fL : Nat) (f1 f2 : Nat) (Q : AVal → zb → Prop) (v0 v1 v3 v10 v11 v12 v13 : AVal) (h : zb) : Prop :=
 B.pv (V.bin .quo v10 (.int .i64 4)) fun v30 =>
  B.pv (V.bin .mul v30 (.int .i64 3)) fun v31 =>
  B.pv (V.bin .add v1 v31) fun v32 =>
  zbk.k3 C E C0 fL f1 f2 Q v0 v3 v10 v11 v12 v13 v32 h
@[simp] def zbk.k5 (C : CSem) (E : z5) (C0 : CSem) (fL : Nat) (f1 f2 : Nat) (Q : AVal → zb → Prop) (v0 v1 v3 v10 v11 v12 : AVal) (h : zb) : Prop :=
 B.pv (V.bin .quo v10 (.int .i64 4)) fun v25 =>
  B.pv (V.bin .mul v25 (.int .i64 2)) fun v26 =>
  B.pv (V.bin .add v1 v26) fun v27 =>
  zbk.k4 C E C0 fL f1 f2 Q v0 v1 v3 v10 v11 v12 v27 h
@[simp] def zbk.k6 (C : CSem) (E : z5) (C0 : CSem) (fL : Nat) (f1 f2 : Nat) (Q : AVal → zb → Prop) (v0 v1 v3 v10 v11 : AVal) (h : zb) : Prop :=
 B.pv (V.bin .quo v10 (.int .i64 4)) fun v20 =>
  B.pv (V.bin .mul v20 (.int .i64 1)) fun v21 =>
  B.pv (V.bin .add v1 v21) fun v22 =>
  zbk.k5 C E C0 fL f1 f2 Q v0 v1 v3 v10 v11 v22 h
@[simp] def zbk.cps (C : CSem) (E : z5) (C0 : CSem) (fL : Nat) (f1 f2 : Nat) (v0 v1 v2 v3 : AVal) (h : zb) (Q : AVal → zb → Prop) : Prop :=
 B.pv (V.bin .sub v2 v1) fun v17 =>
  B.newO h (some [.int .i64 0]) fun i11 h =>
  zbk.k6 C E C0 fL f1 f2 Q v0 v1 v3 v17 (.ptr i11 0 0) h
@[simp] def zdu.k1 (C : CSem) (E : z5) (C0 : CSem) (fL : Nat) (Q : AVal → zb → Prop) (Y1 : List AVal → zb → Prop) (v0 v8 v9 : AVal) (h : zb) : Prop :=
 B.pv (V.bin .lss v8 v9) fun v15 =>
  B.cond v15
  (B.pv (V.idxS E.es v0 v9) fun v22 =>
  E.ld h v22 fun v23 =>
  B.pv (V.idxS E.es v0 v8) fun v26 =>
  E.ld h v26 fun v27 =>
  B.pv (V.idxS E.es v0 v8) fun v28 =>
  E.st h v28 v23 fun h =>
  B.pv (V.idxS E.es v0 v9) fun v29 =>
  E.st h v29 v27 fun h =>
  B.pv (V.bin .add v8 (.int .i64 1)) fun v31 =>
  B.pv (V.bin .sub v9 (.int .i64 1)) fun v33 =>
  Y1 [v31, v33] h)
  (Q (.tup []) h)
@[simp] def zdu.l2 (C : CSem) (E : z5) (C0 : CSem) (fL : Nat) (Q : AVal → zb → Prop) (v0 : AVal) : List AVal → zb → (List AVal → zb → Prop) → Prop
 | [v8, v9], h, Y1 => zdu.k1 C E C0 fL Q Y1 v0 v8 v9 h
 | _, _, _ => False
@[simp] def zdu.cps (C : CSem) (E : z5) (C0 : CSem) (fL : Nat) (v0 v1 v2 v3 : AVal) (h : zb) (Q : AVal → zb → Prop) : Prop :=
 B.pv (V.bin .sub v2 (.int .i64 1)) fun v12 =>
  zd (zdu.l2 C E C0 fL Q v0) [v1, v12] h
@[simp] def zh.k1 (C : CSem) (E : z5) (C0 : CSem) (fL : Nat) (Q : AVal → zb → Prop) (Y1 : List AVal → zb → Prop) (Y2 : List AVal → zb → Prop) (v0 v1 v2 v3 v9 v10 v12 : AVal) (h : zb) : Prop :=
 B.pv (V.bin .lss v12 v2) fun v109 =>
  B.cond v109
  (B.pv (V.idxS E.es v0 v12) fun v115 =>
  E.ld h v115 fun v116 =>
  B.pv (V.bin .sub v12 (.int .i64 1)) fun v119 =>
  B.pv (V.idxS E.es v0 v119) fun v120 =>
  E.ld h v120 fun v121 =>
  B.call C0 fL [v116, v121] h fun v123 h =>
  B.pv (V.un .not v123) fun v124 =>
  B.cond v124
  (B.pv (V.bin .add v10 (.int .i64 1)) fun v18 =>
  Y1 [v9, v18] h)
  (B.pv (V.bin .sub v12 (.int .i64 1)) fun v129 =>
  B.pv (V.bin .sub v12 (.int .i64 1)) fun v132 =>
  B.pv (V.idxS E.es v0 v132) fun v133 =>
  E.ld h v133 fun v134 =>
  B.pv (V.idxS E.es v0 v12) fun v137 =>
  E.ld h v137 fun v138 =>
  B.pv (V.idxS E.es v0 v12) fun v139 =>
  E.st h v139 v134 fun h =>
  B.pv (V.idxS E.es v0 v129) fun v140 =>
  E.st h v140 v138 fun h =>
  B.pv (V.bin .add v12 (.int .i64 1)) fun v111 =>
  Y2 [v111] h))
  (B.pv (V.bin .add v10 (.int .i64 1)) fun v18 =>
  Y1 [v9, v18] h)
@[simp] def zh.l2 (C : CSem) (E : z5) (C0 : CSem) (fL : Nat) (Q : AVal → zb → Prop) (Y1 : List AVal → zb → Prop) (v0 v1 v2 v3 v9 v10 : AVal) : List AVal → zb → (List AVal → zb → Prop) → Prop
 | [v12], h, Y2 => zh.k1 C E C0 fL Q Y1 Y2 v0 v1 v2 v3 v9 v10 v12 h
 | _, _, _ => False
@[simp] def zh.k3 (C : CSem) (E : z5) (C0 : CSem) (fL : Nat) (Q : AVal → zb → Prop) (Y1 : List AVal → zb → Prop) (v0 v1 v2 v3 v9 v10 : AVal) (h : zb) : Prop :=
 B.pv (V.bin .sub v2 v9) fun v103 =>
  B.pv (V.bin .geq v103 (.int .i64 2)) fun v104 =>
  B.cond v104 (B.pv (V.bin .add v9 (.int .i64 1)) fun v106 =>
  zd (zh.l2 C E C0 fL Q Y1 v0 v1 v2 v3 v9 v10) [v106] h) (B.pv (V.bin .add v10 (.int .i64 1)) fun v18 =>
  Y1 [v9, v18] h)
@[simp] def zh.k4 (C : CSem) (E : z5) (C0 : CSem) (fL : Nat) (Q : AVal → zb → Prop) (Y1 : List AVal → zb → Prop) (Y3 : List AVal → zb → Prop) (v0 v1 v2 v3 v9 v10 v11 : AVal) (h : zb) : Prop :=
 B.pv (V.bin .geq v11 (.int .i64 1)) fun v69 =>
  B.cond v69
  (B.pv (V.idxS E.es v0 v11) fun v75 =>
  E.ld h v75 fun v76 =>
  B.pv (V.bin .sub v11 (.int .i64 1)) fun v79 =>
  B.pv (V.idxS E.es v0 v79) fun v80 =>
  E.ld h v80 fun v81 =>
  B.call C0 fL [v76, v81] h fun v83 h =>
  B.pv (V.un .not v83) fun v84 =>
  B.cond v84
  (zh.k3 C E C0 fL Q Y1 v0 v1 v2 v3 v9 v10 h)
  (B.pv (V.bin .sub v11 (.int .i64 1)) fun v89 =>
  B.pv (V.bin .sub v11 (.int .i64 1)) fun v92 =>
  B.pv (V.idxS E.es v0 v92) fun v93 =>
  E.ld h v93 fun v94 =>
  B.pv (V.idxS E.es v0 v11) fun v97 =>
  E.ld h v97 fun v98 =>
  B.pv (V.idxS E.es v0 v11) fun v99 =>
  E.st h v99 v94 fun h =>
  B.pv (V.idxS E.es v0 v89) fun v100 =>
  E.st h v100 v98 fun h =>
  B.pv (V.bin .sub v11 (.int .i64 1)) fun v71 =>
  Y3 [v71] h))
  (zh.k3 C E C0 fL Q Y1 v0 v1 v2 v3 v9 v10 h)
@[simp] def zh.l5 (C : CSem) (E : z5) (C0 : CSem) (fL : Nat) (Q : AVal → zb → Prop) (Y1 : List AVal → zb → Prop) (v0 v1 v2 v3 v9 v10 : AVal) : List AVal → zb → (List AVal → zb → Prop) → Prop
 | [v11], h, Y3 => zh.k4 C E C0 fL Q Y1 Y3 v0 v1 v2 v3 v9 v10 v11 h
 | _, _, _ => False
@[simp] def zh.k6 (C : CSem) (E : z5) (C0 : CSem) (fL : Nat) (Q : AVal → zb → Prop) (Y1 : List AVal → zb → Prop) (v0 v1 v2 v3 v9 v10 : AVal) (h : zb) : Prop :=
 B.pv (V.bin .sub v9 v1) fun v64 =>
  B.pv (V.bin .geq v64 (.int .i64 2)) fun v65 =>
  B.cond v65 (B.pv (V.bin .sub v9 (.int .i64 1)) fun v67 =>
  zd (zh.l5 C E C0 fL Q Y1 v0 v1 v2 v3 v9 v10) [v67] h) (zh.k3 C E C0 fL Q Y1 v0 v1 v2 v3 v9 v10 h)
@[simp] def zh.k7 (C : CSem) (E : z5) (C0 : CSem) (fL : Nat) (Q : AVal → zb → Prop) (Y1 : List AVal → zb → Prop) (v0 v1 v2 v3 v9 v10 : AVal) (h : zb) : Prop :=
 B.pv (V.bin .sub v9 (.int .i64 1)) fun v50 =>
  B.pv (V.bin .sub v9 (.int .i64 1)) fun v53 =>
  B.pv (V.idxS E.es v0 v53) fun v54 =>
  E.ld h v54 fun v55 =>
  B.pv (V.idxS E.es v0 v9) fun v58 =>
  E.ld h v58 fun v59 =>
  B.pv (V.idxS E.es v0 v9) fun v60 =>
  E.st h v60 v55 fun h =>
  B.pv (V.idxS E.es v0 v50) fun v61 =>
  E.st h v61 v59 fun h =>
  zh.k6 C E C0 fL Q Y1 v0 v1 v2 v3 v9 v10 h
@[simp] def zh.k8 (C : CSem) (E : z5) (C0 : CSem) (fL : Nat) (Q : AVal → zb → Prop) (Y1 : List AVal → zb → Prop) (v0 v1 v2 v3 v9 v10 : AVal) (h : zb) : Prop :=
 B.pv (V.bin .sub v2 v1) fun v44 =>
  B.pv (V.bin .lss v44 (.int .i64 50)) fun v45 =>
  B.cond v45
  (Q (.bool false) h)
  (zh.k7 C E C0 fL Q Y1 v0 v1 v2 v3 v9 v10 h)
@[simp] def zh.k9 (C : CSem) (E : z5) (C0 : CSem) (fL : Nat) (Q : AVal → zb → Prop) (Y1 : List AVal → zb → Prop) (Y4 : List AVal → zb → Prop) (v0 v1 v2 v3 v9 v10 : AVal) (h : zb) : Prop :=
 B.pv (V.bin .lss v9 v2) fun v21 =>
  B.gd h v21 true (fun K => K v0 h) fun v24 h =>
  B.gd h v21 true (fun K => K v9 h) fun v25 h =>
  B.gd h v21 true (fun K => B.pv (V.idxS E.es v24 v25) fun v => K v h) fun v26 h =>
  B.gd h v21 true (fun K => E.ld h v26 fun v => K v h) fun v27 h =>
  B.gd h v21 true (fun K => K v0 h) fun v28 h =>
  B.gd h v21 true (fun K => K v9 h) fun v29 h =>
  B.gd h v21 true (fun K => B.pv (V.bin .sub v29 (.int .i64 1)) fun v => K v h) fun v30 h =>
  B.gd h v21 true (fun K => B.pv (V.idxS E.es v28 v30) fun v => K v h) fun v31 h =>
  B.gd h v21 true (fun K => E.ld h v31 fun v => K v h) fun v32 h =>
  B.gd h v21 true (fun K => B.call C0 fL [v27, v32] h K) fun v34 h =>
  B.gd h v21 true (fun K => B.pv (V.un .not v34) fun v => K v h) fun v35 h =>
  B.pick v21 v35 (.bool false) fun v36 =>
  B.cond v36
  (B.pv (V.bin .add v9 (.int .i64 1)) fun v38 =>
  Y4 [v38] h)
  (B.pv (V.bin .eql v9 v2) fun v41 =>
  B.cond v41
  (Q (.bool true) h)
  (zh.k8 C E C0 fL Q Y1 v0 v1 v2 v3 v9 v10 h))
@[simp] def zh.l10 (C : CSem) (E : z5) (C0 : CSem) (fL : Nat) (Q : AVal → zb → Prop) (Y1 : List AVal → zb → Prop) (v0 v1 v2 v3 v10 : AVal) : List AVal → zb → (List AVal → zb → Prop) → Prop
 | [v9], h, Y4 => zh.k9 C E C0 fL Q Y1 Y4 v0 v1 v2 v3 v9 v10 h
 | _, _, _ => False
@[simp] def zh.k11 (C : CSem) (E : z5) (C0 : CSem) (fL : Nat) (Q : AVal → zb → Prop) (Y1 : List AVal → zb → Prop) (v0 v1 v2 v3 v9 v10 : AVal) (h : zb) : Prop :=
 B.pv (V.bin .lss v10 (.int .i64 5)) fun v16 =>
  B.cond v16
  (zd (zh.l10 C E C0 fL Q Y1 v0 v1 v2 v3 v10) [v9] h)
  (Q (.bool false) h)
@[simp] def zh.l12 (C : CSem) (E : z5) (C0 : CSem) (fL : Nat) (Q : AVal → zb → Prop) (v0 v1 v2 v3 : AVal) : List AVal → zb → (List AVal → zb → Prop) → Prop
 | [v9, v10], h, Y1 => zh.k11 C E C0 fL Q Y1 v0 v1 v2 v3 v9 v10 h
 | _, _, _ => False
@[simp] def zh.cps (C : CSem) (E : z5) (C0 : CSem) (fL : Nat) (v0 v1 v2 v3 : AVal) (h : zb) (Q : AVal → zb → Prop) : Prop :=
 B.pv (V.bin .add v1 (.int .i64 1)) fun v14 =>
  zd (zh.l12 C E C0 fL Q v0 v1 v2 v3) [v14, (.int .i64 0)] h
@[simp] def zu.k1 (C : CSem) (E : z5) (C0 : CSem) (fL : Nat) (Q : AVal → zb → Prop) (Y1 : List AVal → zb → Prop) (v0 v1 v4 v11 v12 : AVal) (h : zb) : Prop :=
 B.pv (V.bin .gtr v11 v12) fun v70 =>
  B.cond v70
  (Q v11 h)
  (B.pv (V.idxS E.es v0 v12) fun v77 =>
  E.ld h v77 fun v78 =>
  B.pv (V.idxS E.es v0 v11) fun v81 =>
  E.ld h v81 fun v82 =>
  B.pv (V.idxS E.es v0 v11) fun v83 =>
  E.st h v83 v78 fun h =>
  B.pv (V.idxS E.es v0 v12) fun v84 =>
  E.st h v84 v82 fun h =>
  B.pv (V.bin .add v11 (.int .i64 1)) fun v86 =>
  B.pv (V.bin .sub v12 (.int .i64 1)) fun v88 =>
  Y1 [v86, v88] h)
@[simp] def zu.k2 (C : CSem) (E : z5) (C0 : CSem) (fL : Nat) (Q : AVal → zb → Prop) (Y1 : List AVal → zb → Prop) (Y2 : List AVal → zb → Prop) (v0 v1 v4 v11 v12 : AVal) (h : zb) : Prop :=
 B.pv (V.bin .leq v11 v12) fun v52 =>
  B.gd h v52 true (fun K => K v0 h) fun v55 h =>
  B.gd h v52 true (fun K => K v1 h) fun v56 h =>
  B.gd h v52 true (fun K => B.pv (V.idxS E.es v55 v56) fun v => K v h) fun v57 h =>
  B.gd h v52 true (fun K => E.ld h v57 fun v => K v h) fun v58 h =>
  B.gd h v52 true (fun K => K v0 h) fun v59 h =>
  B.gd h v52 true (fun K => K v12 h) fun v60 h =>
  B.gd h v52 true (fun K => B.pv (V.idxS E.es v59 v60) fun v => K v h) fun v61 h =>
  B.gd h v52 true (fun K => E.ld h v61 fun v => K v h) fun v62 h =>
  B.gd h v52 true (fun K => B.call C0 fL [v58, v62] h K) fun v64 h =>
  B.pick v52 v64 (.bool false) fun v65 =>
  B.cond v65
  (B.pv (V.bin .sub v12 (.int .i64 1)) fun v67 =>
  Y2 [v67] h)
  (zu.k1 C E C0 fL Q Y1 v0 v1 v4 v11 v12 h)
@[simp] def zu.l3 (C : CSem) (E : z5) (C0 : CSem) (fL : Nat) (Q : AVal → zb → Prop) (Y1 : List AVal → zb → Prop) (v0 v1 v4 v11 : AVal) : List AVal → zb → (List AVal → zb → Prop) → Prop
 | [v12], h, Y2 => zu.k2 C E C0 fL Q Y1 Y2 v0 v1 v4 v11 v12 h
 | _, _, _ => False
@[simp] def zu.k4 (C : CSem) (E : z5) (C0 : CSem) (fL : Nat) (Q : AVal → zb → Prop) (Y1 : List AVal → zb → Prop) (Y3 : List AVal → zb → Prop) (v0 v1 v4 v11 v12 : AVal) (h : zb) : Prop :=
 B.pv (V.bin .leq v11 v12) fun v33 =>
  B.gd h v33 true (fun K => K v0 h) fun v36 h =>
  B.gd h v33 true (fun K => K v1 h) fun v37 h =>
  B.gd h v33 true (fun K => B.pv (V.idxS E.es v36 v37) fun v => K v h) fun v38 h =>
  B.gd h v33 true (fun K => E.ld h v38 fun v => K v h) fun v39 h =>
  B.gd h v33 true (fun K => K v0 h) fun v40 h =>
  B.gd h v33 true (fun K => K v11 h) fun v41 h =>
  B.gd h v33 true (fun K => B.pv (V.idxS E.es v40 v41) fun v => K v h) fun v42 h =>
  B.gd h v33 true (fun K => E.ld h v42 fun v => K v h) fun v43 h =>
  B.gd h v33 true (fun K => B.call C0 fL [v39, v43] h K) fun v45 h =>
  B.gd h v33 true (fun K => B.pv (V.un .not v45) fun v => K v h) fun v46 h =>
  B.pick v33 v46 (.bool false) fun v47 =>
  B.cond v47
  (B.pv (V.bin .add v11 (.int .i64 1)) fun v49 =>
  Y3 [v49] h)
  (zd (zu.l3 C E C0 fL Q Y1 v0 v1 v4 v11) [v12] h)
@[simp] def zu.l5 (C : CSem) (E : z5) (C0 : CSem) (fL : Nat) (Q : AVal → zb → Prop) (Y1 : List AVal → zb → Prop) (v0 v1 v4 v12 : AVal) : List AVal → zb → (List AVal → zb → Prop) → Prop
 | [v11], h, Y3 => zu.k4 C E C0 fL Q Y1 Y3 v0 v1 v4 v11 v12 h
 | _, _, _ => False
@[simp] def zu.l6 (C : CSem) (E : z5) (C0 : CSem) (fL : Nat) (Q : AVal → zb → Prop) (v0 v1 v4 : AVal) : List AVal → zb → (List AVal → zb → Prop) → Prop
 | [v11, v12], h, Y1 => zd (zu.l5 C E C0 fL Q Y1 v0 v1 v4 v12) [v11] h
 | _, _, _ => False
@[simp] def zu.k7 (C : CSem) (E : z5) (C0 : CSem) (fL : Nat) (Q : AVal → zb → Prop) (v0 v1 v2 v4 : AVal) (h : zb) : Prop :=
 B.pv (V.bin .add v1 (.int .i64 1)) fun v28 =>
  B.pv (V.bin .sub v2 (.int .i64 1)) fun v30 =>
  zd (zu.l6 C E C0 fL Q v0 v1 v4) [v28, v30] h
@[simp] def zu.k8 (C : CSem) (E : z5) (C0 : CSem) (fL : Nat) (Q : AVal → zb → Prop) (v0 v1 v2 v3 v4 : AVal) (h : zb) : Prop :=
 B.pv (V.idxS E.es v0 v3) fun v19 =>
  E.ld h v19 fun v20 =>
  B.pv (V.idxS E.es v0 v1) fun v23 =>
  E.ld h v23 fun v24 =>
  B.pv (V.idxS E.es v0 v1) fun v25 =>
  E.st h v25 v20 fun h =>
  B.pv (V.idxS E.es v0 v3) fun v26 =>
  E.st h v26 v24 fun h =>
  zu.k7 C E C0 fL Q v0 v1 v2 v4 h
@[simp] def zu.cps (C : CSem) (E : z5) (C0 : CSem) (fL : Nat) (v0 v1 v2 v3 v4 : AVal) (h : zb) (Q : AVal → zb → Prop) : Prop :=
 zu.k8 C E C0 fL Q v0 v1 v2 v3 v4 h
@[simp] def zm.k1 (C : CSem) (E : z5) (C0 : CSem) (fL : Nat) (Q : AVal → zb → Prop) (v0 v1 v13 : AVal) (h : zb) : Prop :=
 B.pv (V.idxS E.es v0 v1) fun v169 =>
  E.ld h v169 fun v170 =>
  B.pv (V.idxS E.es v0 v13) fun v173 =>
  E.ld h v173 fun v174 =>
  B.pv (V.idxS E.es v0 v13) fun v175 =>
  E.st h v175 v170 fun h =>
  B.pv (V.idxS E.es v0 v1) fun v176 =>
  E.st h v176 v174 fun h =>
  Q (.tup [v13, (.bool false)]) h
@[simp] def zm.k2 (C : CSem) (E : z5) (C0 : CSem) (fL : Nat) (Q : AVal → zb → Prop) (Y1 : List AVal → zb → Prop) (v0 v1 v4 v12 v13 : AVal) (h : zb) : Prop :=
 B.pv (V.bin .gtr v12 v13) fun v144 =>
  B.cond v144
  (zm.k1 C E C0 fL Q v0 v1 v13 h)
  (B.pv (V.idxS E.es v0 v13) fun v151 =>
  E.ld h v151 fun v152 =>
  B.pv (V.idxS E.es v0 v12) fun v155 =>
  E.ld h v155 fun v156 =>
  B.pv (V.idxS E.es v0 v12) fun v157 =>
  E.st h v157 v152 fun h =>
  B.pv (V.idxS E.es v0 v13) fun v158 =>
  E.st h v158 v156 fun h =>
  B.pv (V.bin .add v12 (.int .i64 1)) fun v160 =>
  B.pv (V.bin .sub v13 (.int .i64 1)) fun v162 =>
  Y1 [v160, v162] h)
@[simp] def zm.k3 (C : CSem) (E : z5) (C0 : CSem) (fL : Nat) (Q : AVal → zb → Prop) (Y1 : List AVal → zb → Prop) (Y2 : List AVal → zb → Prop) (v0 v1 v4 v12 v13 : AVal) (h : zb) : Prop :=
 B.pv (V.bin .leq v12 v13) fun v125 =>
  B.gd h v125 true (fun K => K v0 h) fun v128 h =>
  B.gd h v125 true (fun K => K v13 h) fun v129 h =>
  B.gd h v125 true (fun K => B.pv (V.idxS E.es v128 v129) fun v => K v h) fun v130 h =>
  B.gd h v125 true (fun K => E.ld h v130 fun v => K v h) fun v131 h =>
  B.gd h v125 true (fun K => K v0 h) fun v132 h =>
  B.gd h v125 true (fun K => K v1 h) fun v133 h =>
  B.gd h v125 true (fun K => B.pv (V.idxS E.es v132 v133) fun v => K v h) fun v134 h =>
  B.gd h v125 true (fun K => E.ld h v134 fun v => K v h) fun v135 h =>
  B.gd h v125 true (fun K => B.call C0 fL [v131, v135] h K) fun v137 h =>
  B.gd h v125 true (fun K => B.pv (V.un .not v137) fun v => K v h) fun v138 h =>
  B.pick v125 v138 (.bool false) fun v139 =>
  B.cond v139
  (B.pv (V.bin .sub v13 (.int .i64 1)) fun v141 =>
  Y2 [v141] h)
  (zm.k2 C E C0 fL Q Y1 v0 v1 v4 v12 v13 h)
@[simp] def zm.l4 (C : CSem) (E : z5) (C0 : CSem) (fL : Nat) (Q : AVal → zb → Prop) (Y1 : List AVal → zb → Prop) (v0 v1 v4 v12 : AVal) : List AVal → zb → (List AVal → zb → Prop) → Prop
 | [v13], h, Y2 => zm.k3 C E C0 fL Q Y1 Y2 v0 v1 v4 v12 v13 h
 | _, _, _ => False
@[simp] def zm.k5 (C : CSem) (E : z5) (C0 : CSem) (fL : Nat) (Q : AVal → zb → Prop) (Y1 : List AVal → zb → Prop) (Y3 : List AVal → zb → Prop) (v0 v1 v4 v12 v13 : AVal) (h : zb) : Prop :=
 B.pv (V.bin .leq v12 v13) fun v107 =>
  B.gd h v107 true (fun K => K v0 h) fun v110 h =>
  B.gd h v107 true (fun K => K v12 h) fun v111 h =>
  B.gd h v107 true (fun K => B.pv (V.idxS E.es v110 v111) fun v => K v h) fun v112 h =>
  B.gd h v107 true (fun K => E.ld h v112 fun v => K v h) fun v113 h =>
  B.gd h v107 true (fun K => K v0 h) fun v114 h =>
  B.gd h v107 true (fun K => K v1 h) fun v115 h =>
  B.gd h v107 true (fun K => B.pv (V.idxS E.es v114 v115) fun v => K v h) fun v116 h =>
  B.gd h v107 true (fun K => E.ld h v116 fun v => K v h) fun v117 h =>
  B.gd h v107 true (fun K => B.call C0 fL [v113, v117] h K) fun v119 h =>
  B.pick v107 v119 (.bool false) fun v120 =>
  B.cond v120
  (B.pv (V.bin .add v12 (.int .i64 1)) fun v122 =>
  Y3 [v122] h)
  (zd (zm.l4 C E C0 fL Q Y1 v0 v1 v4 v12) [v13] h)
@[simp] def zm.l6 (C : CSem) (E : z5) (C0 : CSem) (fL : Nat) (Q : AVal → zb → Prop) (Y1 : List AVal → zb → Prop) (v0 v1 v4 v13 : AVal) : List AVal → zb → (List AVal → zb → Prop) → Prop
 | [v12], h, Y3 => zm.k5 C E C0 fL Q Y1 Y3 v0 v1 v4 v12 v13 h
 | _, _, _ => False
@[simp] def zm.l7 (C : CSem) (E : z5) (C0 : CSem) (fL : Nat) (Q : AVal → zb → Prop) (v0 v1 v4 : AVal) : List AVal → zb → (List AVal → zb → Prop) → Prop
 | [v12, v13], h, Y1 => zd (zm.l6 C E C0 fL Q Y1 v0 v1 v4 v13) [v12] h
 | _, _, _ => False
@[simp] def zm.k8 (C : CSem) (E : z5) (C0 : CSem) (fL : Nat) (Q : AVal → zb → Prop) (v0 v1 v4 v12 v13 : AVal) (h : zb) : Prop :=
 B.pv (V.bin .add v12 (.int .i64 1)) fun v102 =>
  B.pv (V.bin .sub v13 (.int .i64 1)) fun v104 =>
  zd (zm.l7 C E C0 fL Q v0 v1 v4) [v102, v104] h
@[simp] def zm.k9 (C : CSem) (E : z5) (C0 : CSem) (fL : Nat) (Q : AVal → zb → Prop) (v0 v1 v4 v12 v13 : AVal) (h : zb) : Prop :=
 B.pv (V.idxS E.es v0 v13) fun v93 =>
  E.ld h v93 fun v94 =>
  B.pv (V.idxS E.es v0 v12) fun v97 =>
  E.ld h v97 fun v98 =>
  B.pv (V.idxS E.es v0 v12) fun v99 =>
  E.st h v99 v94 fun h =>
  B.pv (V.idxS E.es v0 v13) fun v100 =>
  E.st h v100 v98 fun h =>
  zm.k8 C E C0 fL Q v0 v1 v4 v12 v13 h
@[simp] def zm.k10 (C : CSem) (E : z5) (C0 : CSem) (fL : Nat) (Q : AVal → zb → Prop) (v0 v1 v4 v12 v13 : AVal) (h : zb) : Prop :=
 B.pv (V.bin .gtr v12 v13) fun v71 =>
  B.cond v71
  (B.pv (V.idxS E.es v0 v1) fun v78 =>
  E.ld h v78 fun v79 =>
  B.pv (V.idxS E.es v0 v13) fun v82 =>
  E.ld h v82 fun v83 =>
  B.pv (V.idxS E.es v0 v13) fun v84 =>
  E.st h v84 v79 fun h =>
  B.pv (V.idxS E.es v0 v1) fun v85 =>
  E.st h v85 v83 fun h =>
  Q (.tup [v13, (.bool true)]) h)
  (zm.k9 C E C0 fL Q v0 v1 v4 v12 v13 h)
@[simp] def zm.k11 (C : CSem) (E : z5) (C0 : CSem) (fL : Nat) (Q : AVal → zb → Prop) (Y4 : List AVal → zb → Prop) (v0 v1 v4 v12 v13 : AVal) (h : zb) : Prop :=
 B.pv (V.bin .leq v12 v13) fun v52 =>
  B.gd h v52 true (fun K => K v0 h) fun v55 h =>
  B.gd h v52 true (fun K => K v13 h) fun v56 h =>
  B.gd h v52 true (fun K => B.pv (V.idxS E.es v55 v56) fun v => K v h) fun v57 h =>
  B.gd h v52 true (fun K => E.ld h v57 fun v => K v h) fun v58 h =>
  B.gd h v52 true (fun K => K v0 h) fun v59 h =>
  B.gd h v52 true (fun K => K v1 h) fun v60 h =>
  B.gd h v52 true (fun K => B.pv (V.idxS E.es v59 v60) fun v => K v h) fun v61 h =>
  B.gd h v52 true (fun K => E.ld h v61 fun v => K v h) fun v62 h =>
  B.gd h v52 true (fun K => B.call C0 fL [v58, v62] h K) fun v64 h =>
  B.gd h v52 true (fun K => B.pv (V.un .not v64) fun v => K v h) fun v65 h =>
  B.pick v52 v65 (.bool false) fun v66 =>
  B.cond v66
  (B.pv (V.bin .sub v13 (.int .i64 1)) fun v68 =>
  Y4 [v68] h)
  (zm.k10 C E C0 fL Q v0 v1 v4 v12 v13 h)
@[simp] def zm.l12 (C : CSem) (E : z5) (C0 : CSem) (fL : Nat) (Q : AVal → zb → Prop) (v0 v1 v4 v12 : AVal) : List AVal → zb → (List AVal → zb → Prop) → Prop
 | [v13], h, Y4 => zm.k11 C E C0 fL Q Y4 v0 v1 v4 v12 v13 h
 | _, _, _ => False
@[simp] def zm.k13 (C : CSem) (E : z5) (C0 : CSem) (fL : Nat) (Q : AVal → zb → Prop) (Y5 : List AVal → zb → Prop) (v0 v1 v4 v12 v13 : AVal) (h : zb) : Prop :=
 B.pv (V.bin .leq v12 v13) fun v34 =>
  B.gd h v34 true (fun K => K v0 h) fun v37 h =>
  B.gd h v34 true (fun K => K v12 h) fun v38 h =>
  B.gd h v34 true (fun K => B.pv (V.idxS E.es v37 v38) fun v => K v h) fun v39 h =>
  B.gd h v34 true (fun K => E.ld h v39 fun v => K v h) fun v40 h =>
  B.gd h v34 true (fun K => K v0 h) fun v41 h =>
  B.gd h v34 true (fun K => K v1 h) fun v42 h =>
  B.gd h v34 true (fun K => B.pv (V.idxS E.es v41 v42) fun v => K v h) fun v43 h =>
  B.gd h v34 true (fun K => E.ld h v43 fun v => K v h) fun v44 h =>
  B.gd h v34 true (fun K => B.call C0 fL [v40, v44] h K) fun v46 h =>
  B.pick v34 v46 (.bool false) fun v47 =>
  B.cond v47
  (B.pv (V.bin .add v12 (.int .i64 1)) fun v49 =>
  Y5 [v49] h)
  (zd (zm.l12 C E C0 fL Q v0 v1 v4 v12) [v13] h)
@[simp] def zm.l14 (C : CSem) (E : z5) (C0 : CSem) (fL : Nat) (Q : AVal → zb → Prop) (v0 v1 v4 v13 : AVal) : List AVal → zb → (List AVal → zb → Prop) → Prop
 | [v12], h, Y5 => zm.k13 C E C0 fL Q Y5 v0 v1 v4 v12 v13 h
 | _, _, _ => False
@[simp] def zm.k15 (C : CSem) (E : z5) (C0 : CSem) (fL : Nat) (Q : AVal → zb → Prop) (v0 v1 v2 v4 : AVal) (h : zb) : Prop :=
 B.pv (V.bin .add v1 (.int .i64 1)) fun v29 =>
  B.pv (V.bin .sub v2 (.int .i64 1)) fun v31 =>
  zd (zm.l14 C E C0 fL Q v0 v1 v4 v31) [v29] h
@[simp] def zm.k16 (C : CSem) (E : z5) (C0 : CSem) (fL : Nat) (Q : AVal → zb → Prop) (v0 v1 v2 v3 v4 : AVal) (h : zb) : Prop :=
 B.pv (V.idxS E.es v0 v3) fun v20 =>
  E.ld h v20 fun v21 =>
  B.pv (V.idxS E.es v0 v1) fun v24 =>
  E.ld h v24 fun v25 =>
  B.pv (V.idxS E.es v0 v1) fun v26 =>
  E.st h v26 v21 fun h =>
  B.pv (V.idxS E.es v0 v3) fun v27 =>
  E.st h v27 v25 fun h =>
  zm.k15 C E C0 fL Q v0 v1 v2 v4 h
@[simp] def zm.cps (C : CSem) (E : z5) (C0 : CSem) (fL : Nat) (v0 v1 v2 v3 v4 : AVal) (h : zb) (Q : AVal → zb → Prop) : Prop :=
 zm.k16 C E C0 fL Q v0 v1 v2 v3 v4 h
@[simp] def zcy.k1 (C : CSem) (E : z5) (C0 : CSem) (fL : Nat) (Q : AVal → zb → Prop) (Y1 : List AVal → zb → Prop) (v0 v2 v3 v4 v10 v11 : AVal) (h : zb) : Prop :=
 B.pv (V.bin .add v3 v10) fun v47 =>
  B.pv (V.idxS E.es v0 v47) fun v48 =>
  E.ld h v48 fun v49 =>
  B.pv (V.bin .add v3 v11) fun v53 =>
  B.pv (V.idxS E.es v0 v53) fun v54 =>
  E.ld h v54 fun v55 =>
  B.call C0 fL [v49, v55] h fun v57 h =>
  B.pv (V.un .not v57) fun v58 =>
  B.cond v58
  (Q (.tup []) h)
  (B.pv (V.bin .add v3 v10) fun v62 =>
  B.pv (V.bin .add v3 v11) fun v66 =>
  B.pv (V.bin .add v3 v11) fun v70 =>
  B.pv (V.idxS E.es v0 v70) fun v71 =>
  E.ld h v71 fun v72 =>
  B.pv (V.bin .add v3 v10) fun v76 =>
  B.pv (V.idxS E.es v0 v76) fun v77 =>
  E.ld h v77 fun v78 =>
  B.pv (V.idxS E.es v0 v62) fun v79 =>
  E.st h v79 v72 fun h =>
  B.pv (V.idxS E.es v0 v66) fun v80 =>
  E.st h v80 v78 fun h =>
  Y1 [v11] h)
@[simp] def zcy.k2 (C : CSem) (E : z5) (C0 : CSem) (fL : Nat) (Q : AVal → zb → Prop) (Y1 : List AVal → zb → Prop) (v0 v2 v3 v4 v10 v11 : AVal) (h : zb) : Prop :=
 B.pv (V.bin .add v11 (.int .i64 1)) fun v20 =>
  B.pv (V.bin .lss v20 v2) fun v22 =>
  B.gd h v22 true (fun K => K v0 h) fun v25 h =>
  B.gd h v22 true (fun K => K v3 h) fun v26 h =>
  B.gd h v22 true (fun K => K v11 h) fun v27 h =>
  B.gd h v22 true (fun K => B.pv (V.bin .add v26 v27) fun v => K v h) fun v28 h =>
  B.gd h v22 true (fun K => B.pv (V.idxS E.es v25 v28) fun v => K v h) fun v29 h =>
  B.gd h v22 true (fun K => E.ld h v29 fun v => K v h) fun v30 h =>
  B.gd h v22 true (fun K => K v0 h) fun v31 h =>
  B.gd h v22 true (fun K => K v3 h) fun v32 h =>
  B.gd h v22 true (fun K => K v11 h) fun v33 h =>
  B.gd h v22 true (fun K => B.pv (V.bin .add v32 v33) fun v => K v h) fun v34 h =>
  B.gd h v22 true (fun K => B.pv (V.bin .add v34 (.int .i64 1)) fun v => K v h) fun v35 h =>
  B.gd h v22 true (fun K => B.pv (V.idxS E.es v31 v35) fun v => K v h) fun v36 h =>
  B.gd h v22 true (fun K => E.ld h v36 fun v => K v h) fun v37 h =>
  B.gd h v22 true (fun K => B.call C0 fL [v30, v37] h K) fun v39 h =>
  B.pick v22 v39 (.bool false) fun v40 =>
  B.cond v40
  (B.pv (V.bin .add v11 (.int .i64 1)) fun v42 =>
  zcy.k1 C E C0 fL Q Y1 v0 v2 v3 v4 v10 v42 h)
  (zcy.k1 C E C0 fL Q Y1 v0 v2 v3 v4 v10 v11 h)
@[simp] def zcy.k3 (C : CSem) (E : z5) (C0 : CSem) (fL : Nat) (Q : AVal → zb → Prop) (Y1 : List AVal → zb → Prop) (v0 v2 v3 v4 v10 : AVal) (h : zb) : Prop :=
 B.pv (V.bin .mul (.int .i64 2) v10) fun v14 =>
  B.pv (V.bin .add v14 (.int .i64 1)) fun v15 =>
  B.pv (V.bin .geq v15 v2) fun v18 =>
  B.cond v18
  (Q (.tup []) h)
  (zcy.k2 C E C0 fL Q Y1 v0 v2 v3 v4 v10 v15 h)
@[simp] def zcy.l4 (C : CSem) (E : z5) (C0 : CSem) (fL : Nat) (Q : AVal → zb → Prop) (v0 v2 v3 v4 : AVal) : List AVal → zb → (List AVal → zb → Prop) → Prop
 | [v10], h, Y1 => zcy.k3 C E C0 fL Q Y1 v0 v2 v3 v4 v10 h
 | _, _, _ => False
@[simp] def zcy.cps (C : CSem) (E : z5) (C0 : CSem) (fL : Nat) (v0 v1 v2 v3 v4 : AVal) (h : zb) (Q : AVal → zb → Prop) : Prop :=
 zd (zcy.l4 C E C0 fL Q v0 v2 v3 v4) [v1] h
@[simp] def zeb.k1 (C : CSem) (E : z5) (C0 : CSem) (fL : Nat) (f1 : Nat) (Q : AVal → zb → Prop) (v0 v1 v2 v3 : AVal) (h : zb) : Prop :=
 B.pv (V.bin .sub v1 (.int .i64 1)) fun v11 =>
  B.pv (V.bin .add v1 (.int .i64 1)) fun v14 =>
  B.call C f1 [v0, v11, v1, v14, v2, v3] h fun v17 h =>
  Q v17 h
@[simp] def zeb.cps (C : CSem) (E : z5) (C0 : CSem) (fL : Nat) (f1 : Nat) (v0 v1 v2 v3 : AVal) (h : zb) (Q : AVal → zb → Prop) : Prop :=
 zeb.k1 C E C0 fL f1 Q v0 v1 v2 v3 h
@[simp] def zfp.k1 (C : CSem) (E : z5) (C0 : CSem) (fL : Nat) (f1 : Nat) (Q : AVal → zb → Prop) (v0 v1 v2 v3 v4 v5 : AVal) (h : zb) : Prop :=
 B.call C f1 [v0, v1, v2, v4, v5] h fun v19 h =>
  B.pv (V.ext 0 v19) fun v20 =>
  B.pv (V.ext 1 v19) fun v21 =>
  B.call C f1 [v0, v21, v3, v4, v5] h fun v28 h =>
  B.pv (V.ext 0 v28) fun v29 =>
  B.pv (V.ext 1 v28) fun v30 =>
  B.call C f1 [v0, v20, v29, v4, v5] h fun v37 h =>
  B.pv (V.ext 0 v37) fun v38 =>
  B.pv (V.ext 1 v37) fun v39 =>
  Q v39 h
@[simp] def zfp.cps (C : CSem) (E : z5) (C0 : CSem) (fL : Nat) (f1 : Nat) (v0 v1 v2 v3 v4 v5 : AVal) (h : zb) (Q : AVal → zb → Prop) : Prop :=
 zfp.k1 C E C0 fL f1 Q v0 v1 v2 v3 v4 v5 h
@[simp] def zfo.k1 (C : CSem) (E : z5) (C0 : CSem) (fL : Nat) (Q : AVal → zb → Prop) (v0 v1 v2 v3 v4 : AVal) (h : zb) : Prop :=
 B.pv (V.idxS E.es v0 v2) fun v15 =>
  E.ld h v15 fun v16 =>
  B.pv (V.idxS E.es v0 v1) fun v19 =>
  E.ld h v19 fun v20 =>
  B.call C0 fL [v16, v20] h fun v22 h =>
  B.cond v22
  (B.nilCheck v3 fun v24 =>
  B.ld h v24 fun v25 =>
  B.pv (V.bin .add v25 (.int .i64 1)) fun v26 =>
  B.nilCheck v3 fun v27 =>
  B.st h v27 v26 fun h =>
  Q (.tup [v2, v1]) h)
  (Q (.tup [v1, v2]) h)
@[simp] def zfo.cps (C : CSem) (E : z5) (C0 : CSem) (fL : Nat) (v0 v1 v2 v3 v4 : AVal) (h : zb) (Q : AVal → zb → Prop) : Prop :=
 zfo.k1 C E C0 fL Q v0 v1 v2 v3 v4 h
structure PInv {X : Type} (c : X → X → Int) (a b : Nat) (G : List X) (i j : Nat) : Prop where
 hb : b ≤ G.length
 hi : a < i
 hj : j < b
 hij : i ≤ j + 1
 lo : ∀ k (h : k < G.length) (ha : a < G.length), a < k → k < i → c G[k] G[a] < 0
 hi2 : ∀ k (h : k < G.length) (ha : a < G.length), j < k → k < b → ¬ c G[k] G[a] < 0
structure zjd {X : Type} (c : X → X → Int) (a b m : Nat) (G : List X) : Prop where
 ge : a ≤ m
 lt : m < b
 hb : b ≤ G.length
 lo : ∀ k (h : k < G.length) (hm : m < G.length), a ≤ k → k < m → c G[k] G[m] < 0
 hi : ∀ k (h : k < G.length) (hm : m < G.length), m < k → k < b → ¬ c G[k] G[m] < 0
section
variable {E : z5} {X : Type} {cs : X → List AVal} {v : X → AVal} {h0 h : zb} {x f : AVal} {G : List X} {R : List (List AVal)} {c : X → X → Int} {Q : AVal → zb → Prop} {Y1 : List AVal → zb → Prop} {a b i j : Nat}
theorem zgh {X : Type} {G : List X} {i j : Nat} (hi : i < G.length) (hj : j < G.length) {k : Nat} (hk : k < (swp G i j hi hj).length) (hk' : k < G.length) : (swp G i j hi hj)[k] = if k = j then G[i] else if k = i then G[j] else G[k] := by
 have := swp_get hi hj k
 rw [List.getElem?_eq_getElem hk] at this
 split at this
 ·rename_i e; rw [if_pos e]; exact Option.some.inj this
 ·rename_i e; rw [if_neg e]
  split at this
  ·rename_i e2; rw [if_pos e2]; exact Option.some.inj this
  ·rename_i e2; rw [if_neg e2, List.getElem?_eq_getElem hk'] at *; exact Option.some.inj this
theorem zje {X : Type} {G : List X} {i j : Nat} (hi : i < G.length) (hj : j < G.length) : (swp G i j hi hj).length = G.length := by simp [swp]
theorem PInv.done (p : PInv c a b G i j) (hab : a < b) (hc : j < i) (hj : j < G.length) (ha : a < G.length) : zjd c a b j (swp G j a hj ha) := by
 have h1 := p.hi; have h2 := p.hij; have h3 := p.hj; have h4 := p.hb
 have hl := zje hj ha
 have pj : ∀ (hm : j < (swp G j a hj ha).length), (swp G j a hj ha)[j] = G[a] := fun hm => by
  rw [zgh hj ha hm hj]
  by_cases e : j = a
  ·subst e; simp
  ·rw [if_neg e, if_pos rfl]
 refine ⟨by omega, h3, by omega, fun k hk hm k1 k2 => ?_, fun k hk hm k1 k2 => ?_⟩
 ·rw [pj, zgh hj ha hk (by omega)]
  by_cases e : k = a
  ·rw [if_pos e]; exact p.lo j hj ha (by omega) (by omega)
  ·rw [if_neg e, if_neg (by omega)]; exact p.lo k (by omega) ha (by omega) (by omega)
 ·rw [pj, zgh hj ha hk (by omega), if_neg (by omega), if_neg (by omega)]
  exact p.hi2 k (by omega) ha k1 k2
theorem PInv.swap (p : PInv c a b G i j) (hc : i ≤ j) (hi : i < G.length) (hj : j < G.length) (ha : a < G.length) (h1 : ¬ c G[i] G[a] < 0) (h2 : c G[j] G[a] < 0) : PInv c a b (swp G i j hi hj) (i + 1) (j - 1) := by
 have k1 := p.hi; have k2 := p.hij; have k3 := p.hj; have k4 := p.hb
 have hne : i ≠ j := fun e => by subst e; exact h1 h2
 have hl := zje hi hj
 have pa : ∀ (hm : a < (swp G i j hi hj).length), (swp G i j hi hj)[a] = G[a] := fun hm => by rw [zgh hi hj hm ha, if_neg (by omega), if_neg (by omega)]
 refine ⟨by omega, by omega, by omega, by omega, fun k hk hm q1 q2 => ?_, fun k hk hm q1 q2 => ?_⟩
 ·rw [pa, zgh hi hj hk (by omega), if_neg (by omega)]
  by_cases e : k = i
  ·rw [if_pos e]; exact h2
  ·rw [if_neg e]; exact p.lo k (by omega) ha q1 (by omega)
 ·rw [pa, zgh hi hj hk (by omega)]
  by_cases e : k = j
  ·rw [if_pos e]; exact h1
  ·rw [if_neg e, if_neg (by omega)]; exact p.hi2 k (by omega) ha (by omega) q2
end
section
variable {E : z5} {X : Type} {cs : X → List AVal} {v : X → AVal} {h0 h : zb} {x f : AVal} {G : List X} {R : List (List AVal)} {c : X → X → Int} {Q : AVal → zb → Prop} {a b i j : Nat}
abbrev PartQ (E : z5) {X : Type} (cs : X → List AVal) (h0 : zb) (x : AVal) (c : X → X → Int) (a b : Nat) (R : List (List AVal)) (G : List X) (Q : AVal → zb → Prop) : Prop := ∀ h' m G' t, zjd c a b m G' → zda a b G G' → Rw E cs h0 h' x G' R → Q (.tup [.int .i64 (m : Int), .bool t]) h'
end
structure EInv {X : Type} (c : X → X → Int) (a b : Nat) (G : List X) (i j : Nat) : Prop where
 hb : b ≤ G.length
 hi : a < i
 hj : j < b
 hij : i ≤ j + 1
 lo : ∀ k (h : k < G.length) (ha : a < G.length), a < k → k < i → ¬ c G[a] G[k] < 0
 hi2 : ∀ k (h : k < G.length) (ha : a < G.length), j < k → k < b → c G[a] G[k] < 0
theorem EInv.swap {X : Type} {c : X → X → Int} {a b i j : Nat} {G : List X} (p : EInv c a b G i j) (hc : i ≤ j) (hi : i < G.length) (hj : j < G.length) (ha : a < G.length) (h1 : c G[a] G[i] < 0) (h2 : ¬ c G[a] G[j] < 0) : EInv c a b (swp G i j hi hj) (i + 1) (j - 1) := by
 have k1 := p.hi; have k2 := p.hij; have k3 := p.hj; have k4 := p.hb
 have hne : i ≠ j := fun e => by subst e; exact h2 h1
 have hl := zje hi hj
 have pa : ∀ (hm : a < (swp G i j hi hj).length), (swp G i j hi hj)[a] = G[a] := fun hm => by rw [zgh hi hj hm ha, if_neg (by omega), if_neg (by omega)]
 refine ⟨by omega, by omega, by omega, by omega, fun k hk hm q1 q2 => ?_, fun k hk hm q1 q2 => ?_⟩
 ·rw [pa, zgh hi hj hk (by omega), if_neg (by omega)]
  by_cases e : k = i
  ·rw [if_pos e]; exact h2
  ·rw [if_neg e]; exact p.lo k (by omega) ha q1 (by omega)
 ·rw [pa, zgh hi hj hk (by omega)]
  by_cases e : k = j
  ·rw [if_pos e]; exact h1
  ·rw [if_neg e, if_neg (by omega)]; exact p.hi2 k (by omega) ha (by omega) q2
section
variable {E : z5} {X : Type} {cs : X → List AVal} {v : X → AVal} {h0 h : zb} {x f : AVal} {G : List X} {R : List (List AVal)} {c : X → X → Int} {Q : AVal → zb → Prop} {Y1 : List AVal → zb → Prop} {a b i j : Nat}
end
structure SInv {X : Type} (c : X → X → Int) (a n lo r : Nat) (G : List X) : Prop where
 len : a + n ≤ G.length
 heap : ∀ k, 0 < k → (hk : k < n) → lo ≤ (k - 1) / 2 → (k - 1) / 2 ≠ r → (h1 : a + (k - 1) / 2 < G.length) → (h2 : a + k < G.length) → ¬ c G[a + (k - 1) / 2] G[a + k] < 0
 grand : lo ≤ (r - 1) / 2 → 0 < r → ∀ k, 0 < k → (hk : k < n) → (k - 1) / 2 = r → (h1 : a + (r - 1) / 2 < G.length) → (h2 : a + k < G.length) → ¬ c G[a + (r - 1) / 2] G[a + k] < 0
def Heap {X : Type} (c : X → X → Int) (a n lo : Nat) (G : List X) : Prop := ∀ k, 0 < k → (hk : k < n) → lo ≤ (k - 1) / 2 → (h1 : a + (k - 1) / 2 < G.length) → (h2 : a + k < G.length) → ¬ c G[a + (k - 1) / 2] G[a + k] < 0
section
variable {X : Type} {c : X → X → Int} {a n lo r ch : Nat} {G : List X}
theorem SInv.done (p : SInv c a n lo r G) (hr : ∀ k, 0 < k → k < n → (k - 1) / 2 = r → (h1 : a + r < G.length) → (h2 : a + k < G.length) → ¬ c G[a + r] G[a + k] < 0) : Heap c a n lo G := fun k h0 hk hl h1 h2 => by
 by_cases e : (k - 1) / 2 = r
 ·have := hr k h0 hk e (by rw [← e]; exact h1) h2
  simp only [e]; exact this
 ·exact p.heap k h0 hk hl e h1 h2
theorem SInv.step (W : Weak (zey c)) (p : SInv c a n lo r G) (hlo : lo ≤ r) (hch : ch < n) (hp : (ch - 1) / 2 = r) (h0 : 0 < ch) (hr : a + r < G.length) (hc : a + ch < G.length) (hlt : c G[a + r] G[a + ch] < 0)
  (hmax : ∀ k, 0 < k → k < n → (k - 1) / 2 = r → (h2 : a + k < G.length) → ¬ c G[a + ch] G[a + k] < 0) : SInv c a n lo ch (swp G (a + r) (a + ch) hr hc) := by
 have hl := zje hr hc
 have hrc : r < ch := by omega
 have asym : ¬ c G[a + ch] G[a + r] < 0 := by
  have := W.asym (a := G[a + r]) (b := G[a + ch]) (by unfold zey; exact decide_eq_true hlt)
  unfold zey at this; exact of_decide_eq_false this
 refine ⟨by rw [hl]; exact p.len, fun k k0 hk hlk hne h1 h2 => ?_, fun _ _ k k0 hk hkp h1 h2 => ?_⟩
 ·have g1 : a + (k - 1) / 2 < G.length := by omega
  have g2 : a + k < G.length := by omega
  rw [zgh hr hc h1 g1, zgh hr hc h2 g2, if_neg (by omega : ¬ a + (k - 1) / 2 = a + ch)]
  by_cases e1 : (k - 1) / 2 = r
  ·rw [if_pos (by omega)]
   by_cases e2 : k = ch
   ·rw [if_pos (by omega)]; exact asym
   ·rw [if_neg (by omega), if_neg (by omega)]; exact hmax k k0 hk e1 g2
  ·rw [if_neg (by omega)]
   by_cases e2 : k = r
   ·rw [if_neg (by omega), if_pos (by omega)]
    subst e2
    exact p.grand hlk k0 ch h0 hch hp g1 hc
   ·rw [if_neg (by omega), if_neg (by omega)]; exact p.heap k k0 hk hlk e1 g1 g2
 ·have g1 : a + (ch - 1) / 2 < G.length := by omega
  have g2 : a + k < G.length := by omega
  rw [zgh hr hc h1 g1, zgh hr hc h2 g2, if_neg (by omega), if_pos (by omega), if_neg (by omega), if_neg (by omega)]
  have := p.heap k k0 hk (by omega) (by omega) (by omega) g2
  simp only [hkp] at this
  exact this
end
end Go.Ab
namespace Go.Ab
section
variable {X : Type} {c : X → X → Int} {a b n lo : Nat} {G G' : List X}
theorem Heap.sinv {X : Type} {c : X → X → Int} {a n lo : Nat} {G : List X} (p : Heap c a n (lo + 1) G) (hl : a + n ≤ G.length) : SInv c a n lo lo G :=
 ⟨hl, fun k k0 hk h1 hne h2 h3 => p k k0 hk (by omega) h2 h3, fun h1 h0 => by omega⟩
theorem Heap.none_ {X : Type} {c : X → X → Int} {a n lo : Nat} {G : List X} (h : n ≤ 2 * lo + 1) : Heap c a n lo G := fun k k0 hk h1 _ _ => by omega
theorem Heap.root (W : Weak (zey c)) (p : Heap c a n 0 G) (hl : a + n ≤ G.length) : ∀ (k : Nat) (hk : k < n), ¬ c (G[a]'(by omega)) (G[a + k]'(by omega)) < 0 := by
 intro k
 induction k using Nat.strongRecOn with
 | ind k ih =>
  intro hk
  by_cases e : k = 0
  ·subst e
   have := W.irr (G[a]'(by omega)); unfold zey at this; simpa using this
  ·have h1 := ih ((k - 1) / 2) (by omega) (by omega)
   have h2 := p k (by omega) hk (by omega) (by omega) (by omega)
   have := W.zo3 (a := G[a]'(by omega)) (b := G[a + (k - 1) / 2]'(by omega)) (c := G[a + k]'(by omega)) (by unfold zey; exact decide_eq_false h1) (by unfold zey; exact decide_eq_false h2)
   unfold zey at this; exact of_decide_eq_false this
theorem zda.take (w : zda a b G G') : G'.take a = G.take a := List.ext_getElem? fun i => by
 rw [List.getElem?_take, List.getElem?_take]
 split
 ·rename_i h; exact w.out i (.inl h)
 ·rfl
theorem zda.drop (w : zda a b G G') : G'.drop b = G.drop b := List.ext_getElem? fun i => by
 rw [List.getElem?_drop, List.getElem?_drop]; exact w.out (b + i) (.inr (by omega))
theorem split3 (hab : a ≤ b) (G : List X) : G = G.take a ++ ((G.take b).drop a ++ G.drop b) := by
 have h1 : G.take a = (G.take b).take a := by rw [List.take_take, Nat.min_eq_left hab]
 rw [h1, ← List.append_assoc, List.take_append_drop, List.take_append_drop]
theorem zda.mid (w : zda a b G G') (hab : a ≤ b) : ((G'.take b).drop a).Perm ((G.take b).drop a) := by
 have h := w.perm
 rw [split3 hab G, split3 hab G', w.take, w.drop] at h
 exact (List.perm_append_right_iff _).1 ((List.perm_append_left_iff _).1 h)
theorem zda.mem (w : zda a b G G') {k : Nat} (h1 : a ≤ k) (h2 : k < b) (hk : k < G'.length) : ∃ k', a ≤ k' ∧ k' < b ∧ ∃ h' : k' < G.length, G'[k] = G[k'] := by
 have hm : G'[k] ∈ (G'.take b).drop a := by
  rw [List.mem_iff_getElem?]
  refine ⟨k - a, ?_⟩
  rw [List.getElem?_drop, List.getElem?_take, if_pos (by omega), Nat.add_sub_cancel' h1, List.getElem?_eq_getElem hk]
 have := (w.mid (by omega)).mem_iff.1 hm
 rw [List.mem_iff_getElem?] at this
 obtain ⟨i, hi⟩ := this
 rw [List.getElem?_drop, List.getElem?_take] at hi
 split at hi
 ·rename_i hlt
  obtain ⟨hb, e⟩ := List.getElem?_eq_some_iff.1 hi
  exact ⟨a + i, by omega, hlt, hb, e.symm⟩
 ·cases hi
def Cut {X : Type} (c : X → X → Int) (A B a b : Nat) (G : List X) : Prop := ∀ p q, A ≤ p → p < q → q < B → p < a ∨ b ≤ q → ∀ (h1 : p < G.length) (h2 : q < G.length), ¬ c G[q] G[p] < 0
def Srt {X : Type} (c : X → X → Int) (A B : Nat) (G : List X) : Prop := ∀ p q, A ≤ p → p < q → q < B → ∀ (h1 : p < G.length) (h2 : q < G.length), ¬ c G[q] G[p] < 0
theorem Cut.within {A B : Nat} (x : Cut c A B a b G) (w : zda a b G G') (ha : A ≤ a) (hb : b ≤ B) : Cut c A B a b G' := fun p q hp hpq hq h h1 h2 => by
 have hl := w.len
 rcases h with h | h
 ·rw [w.same (.inl h) h1 (by omega)]
  by_cases hq2 : a ≤ q ∧ q < b
  ·obtain ⟨q', h3, h4, h5, e⟩ := w.mem hq2.1 hq2.2 h2
   rw [e]; exact x p q' hp (by omega) (by omega) (.inl h) (by omega) h5
  ·rw [w.same (by omega) h2 (by omega)]; exact x p q hp hpq hq (.inl h) _ _
 ·rw [w.same (k := q) (.inr h) h2 (by omega)]
  by_cases hp2 : a ≤ p ∧ p < b
  ·obtain ⟨p', h3, h4, h5, e⟩ := w.mem hp2.1 hp2.2 h1
   rw [e]; exact x p' q (by omega) (by omega) hq (.inr h) h5 (by omega)
  ·rw [w.same (k := p) (by omega) h1 (by omega)]; exact x p q hp hpq hq (.inr h) _ _
theorem Cut.join {A B : Nat} (x : Cut c A B a b G) (s : Srt c a b G) : Srt c A B G := fun p q hp hpq hq h1 h2 => by
 by_cases h : p < a ∨ b ≤ q
 ·exact x p q hp hpq hq h h1 h2
 ·exact s p q (by omega) hpq (by omega) h1 h2
theorem Cut.small {A B : Nat} (x : Cut c A B a b G) (s : b ≤ a + 1) : Srt c A B G := x.join fun p q _ _ _ _ _ => by omega
theorem within_mid {M : List X} (hab : a ≤ b) (hb : b ≤ G.length) (hp : M.Perm ((G.take b).drop a)) : zda a b G (G.take a ++ (M ++ G.drop b)) := by
 have hl := hp.length_eq
 simp only [List.length_drop, List.length_take] at hl
 refine ⟨?_, fun i hi => ?_⟩
 ·have := (hp.append_right (G.drop b)).append_left (G.take a)
  rw [← split3 hab G] at this; exact this
 ·rcases hi with hi | hi
  ·rw [List.getElem?_append_left (by rw [List.length_take]; omega), List.getElem?_take, if_pos hi]
  ·rw [List.getElem?_append_right (by rw [List.length_take]; omega), List.getElem?_append_right (by rw [List.length_take]; omega), List.getElem?_drop, List.length_take]
   congr 1; omega
theorem srt_mid {M : List X} (hab : a ≤ b) (hb : b ≤ G.length) (hl : M.length = b - a) (hp : M.Pairwise fun x y => ¬ c y x < 0) : Srt c a b (G.take a ++ (M ++ G.drop b)) := fun p q hp1 hpq hq h1 h2 => by
 have e : ∀ k (h1 : a ≤ k) (h2 : k < b) (hk : k < (G.take a ++ (M ++ G.drop b)).length), (G.take a ++ (M ++ G.drop b))[k] = M[k - a]'(by omega) := fun k h1 h2 hk => by
  rw [List.getElem_append_right (by rw [List.length_take]; omega), List.getElem_append_left (by rw [List.length_take]; omega)]
  congr 1; rw [List.length_take]; omega
 rw [e p hp1 (by omega), e q (by omega) hq]
 exact List.pairwise_iff_getElem.1 hp _ _ _ _ (by omega)
end
variable {C : CSem}
section
variable {E : z5} {X : Type} {cs : X → List AVal} {v : X → AVal} {h0 h : zb} {x f : AVal} {G : List X} {R : List (List AVal)} {c : X → X → Int} {Q : AVal → zb → Prop} {a b : Nat}
end
def Pre {X : Type} (c : X → X → Int) (a b : Nat) (G : List X) : Prop := 0 < a → ∀ i, a ≤ i → i < b → ∀ (h1 : i < G.length) (h2 : a - 1 < G.length), ¬ c G[i] G[a - 1] < 0
theorem Pre.within {X : Type} {c : X → X → Int} {a b : Nat} {G G' : List X} (p : Pre c a b G) (w : zda a b G G') : Pre c a b G' := fun h0 i h1 h2 h3 h4 => by
 have hl := w.len
 obtain ⟨k, k1, k2, k3, e⟩ := w.mem h1 h2 h3
 rw [e, w.same (k := a - 1) (.inl (by omega)) h4 (by omega)]
 exact p h0 k k1 k2 _ _
def But1 {X : Type} (c : X → X → Int) (A B j : Nat) (G : List X) : Prop := ∀ p q, A ≤ p → p < q → q < B → q ≠ j → ∀ (h1 : p < G.length) (h2 : q < G.length), ¬ c G[q] G[p] < 0
section
variable {X : Type} {c : X → X → Int} {A B j : Nat} {G : List X}
theorem But1.done (W : Weak (zey c)) (x : But1 c A B j G) (hj : j < G.length) (h : j ≤ A ∨ ∀ (h1 : j - 1 < G.length), ¬ c G[j] G[j - 1] < 0) : Srt c A B G := fun p q h1 h2 h3 h4 h5 => by
 by_cases e : q = j
 ·subst e
  have h := h.resolve_left (by omega)
  by_cases e2 : p = q - 1
  ·subst e2; exact h _
  ·have k1 := x p (q - 1) h1 (by omega) (by omega) (by omega) h4 (by omega)
   have := W.zo3 (a := G[q]) (b := G[q - 1]'(by omega)) (c := G[p]) (by unfold zey; exact decide_eq_false (h _)) (by unfold zey; exact decide_eq_false k1)
   unfold zey at this; exact of_decide_eq_false this
 ·exact x p q h1 h2 h3 e h4 h5
theorem But1.step (W : Weak (zey c)) (x : But1 c A B j G) (hA : A < j) (hj : j < G.length) (hj1 : j - 1 < G.length) (hlt : c G[j] G[j - 1] < 0) : But1 c A B (j - 1) (swp G j (j - 1) hj hj1) := fun p q h1 h2 h3 h4 h5 h6 => by
 have hl := zje hj hj1
 rw [zgh hj hj1 h6 (by omega), if_neg h4, zgh hj hj1 h5 (by omega)]
 by_cases e : q = j
 ·rw [if_pos e]
  split
  ·have := W.asym (a := G[j]) (b := G[j - 1]) (by unfold zey; exact decide_eq_true hlt)
   unfold zey at this; exact of_decide_eq_false this
  ·rw [if_neg (by omega)]; exact x p (j - 1) h1 (by omega) (by omega) (by omega) (by omega) hj1
 ·rw [if_neg e]
  split
  ·exact x j q (by omega) (by omega) h3 e hj (by omega)
  ·split
   ·exact x (j - 1) q (by omega) (by omega) h3 e hj1 (by omega)
   ·exact x p q h1 h2 h3 e (by omega) (by omega)
end
section
variable {E : z5} {X : Type} {cs : X → List AVal} {v : X → AVal} {h0 h : zb} {x f : AVal} {G : List X} {R : List (List AVal)} {c : X → X → Int} {Q : AVal → zb → Prop} {Y1 : List AVal → zb → Prop} {a b i s : Nat}
end
variable {C : CSem} {N : Nat → Nat}
def be (n : Int) : Nat → List UInt8
 | 0 => []
 | k + 1 => byt (n.fdiv (2 ^ (8 * k))) :: be n k
@[simp] theorem be_len (n : Int) : ∀ k, (be n k).length = k
 | 0 => rfl
 | k + 1 => by simp [be, be_len n k]
theorem bin_shl {k j : IntKind} {a b : Int} (h0 : 0 ≤ b) (h1 : b < k.bits) : V.bin .shl (.int k a) (.int j b) = some (.int k (k.wrap (a * 2 ^ b.toNat))) := by
 simp only [V.bin, V.shift]
 rw [if_neg (by omega), Nat.min_eq_left (by omega)]
theorem V.bin_xor (k : IntKind) (a b : Int) : V.bin .xor (.int k a) (.int k b) = some (.int k (k.wrap (BitVec.ofInt k.bits a ^^^ BitVec.ofInt k.bits b).toNat)) := by simp [V.bin, V.arith]
theorem V.bin_and (k : IntKind) (a b : Int) : V.bin .and (.int k a) (.int k b) = some (.int k (k.wrap (BitVec.ofInt k.bits a &&& BitVec.ofInt k.bits b).toNat)) := by simp [V.bin, V.arith]
theorem wrapU {n : Nat} (h : n < 18446744073709551616) : IntKind.u64.wrap (n : Int) = n := by rw [wrap_u64]; omega
theorem toUN {n : Nat} (h : n < 18446744073709551616) : V.toInt .u64 (.int .i64 (n : Int)) = some (.int .u64 (n : Int)) := by rw [V.toInt_int, wrapU h]
theorem toIN {k : IntKind} {n : Nat} (h : n < 4611686018427387904) : V.toInt .i64 (.int k (n : Int)) = some (.int .i64 (n : Int)) := by rw [V.toInt_int, wrap_i64 (by omega) (by omega)]
theorem and_le {z : Int} {m : Nat} (h : m < 4611686018427387904) : ∃ o : Nat, o ≤ m ∧ V.bin .and (.int .u64 z) (.int .u64 (m : Int)) = some (.int .u64 (o : Int)) := by
 refine ⟨(BitVec.ofInt 64 z &&& BitVec.ofInt 64 (m : Int)).toNat, ?_, ?_⟩
 ·rw [BitVec.toNat_and]
  refine Nat.le_trans Nat.and_le_right ?_
  rw [BitVec.toNat_ofInt]; omega
 ·rw [V.bin_and]
  show some (AVal.int .u64 (IntKind.u64.wrap ((BitVec.ofInt 64 z &&& BitVec.ofInt 64 (m : Int)).toNat : Int))) = _
  rw [wrapU (BitVec.isLt _)]
def lenT : List UInt8 := [0, 1, 2, 2, 3, 3, 3, 3, 4, 4, 4, 4, 4, 4, 4, 4, 5, 5, 5, 5, 5, 5, 5, 5, 5, 5, 5, 5, 5, 5, 5, 5, 6, 6, 6, 6, 6, 6, 6, 6, 6, 6, 6, 6, 6, 6, 6, 6, 6, 6, 6, 6, 6, 6, 6, 6, 6, 6, 6, 6, 6, 6, 6, 6, 7, 7, 7, 7, 7, 7, 7, 7, 7, 7, 7, 7, 7, 7, 7, 7, 7, 7, 7, 7, 7, 7, 7, 7, 7, 7, 7, 7, 7, 7, 7, 7, 7, 7, 7, 7, 7, 7, 7, 7, 7, 7, 7, 7, 7, 7, 7, 7, 7, 7, 7, 7, 7, 7, 7, 7, 7, 7, 7, 7, 7, 7, 7, 7, 8, 8, 8, 8, 8, 8, 8, 8, 8, 8, 8, 8, 8, 8, 8, 8, 8, 8, 8, 8, 8, 8, 8, 8, 8, 8, 8, 8, 8, 8, 8, 8, 8, 8, 8, 8, 8, 8, 8, 8, 8, 8, 8, 8, 8, 8, 8, 8, 8, 8, 8, 8, 8, 8, 8, 8, 8, 8, 8, 8, 8, 8, 8, 8, 8, 8, 8, 8, 8, 8, 8, 8, 8, 8, 8, 8, 8, 8, 8, 8, 8, 8, 8, 8, 8, 8, 8, 8, 8, 8, 8, 8, 8, 8, 8, 8, 8, 8, 8, 8, 8, 8, 8, 8, 8, 8, 8, 8, 8, 8, 8, 8, 8, 8, 8, 8, 8, 8, 8, 8, 8, 8, 8, 8, 8, 8, 8, 8]
theorem idxStr_u8 {s : List UInt8} {k : Nat} {b : UInt8} (hb : s[k]? = some b) : V.zh6 (.str s) (.int .u8 (k : Int)) = some (.int .u8 b.toNat) := by
 simp [V.zh6, hb]
theorem lenT_all : ∀ k : Fin 256, ∃ b : Fin 9, lenT[k.val]? = some (UInt8.ofNat b.val) ∧ (0 < k.val → 2 ^ b.val ≤ 2 * k.val) := by decide +kernel
theorem lenTab {k : Nat} (h : k < 256) : ∃ b : Nat, V.zh6 (.str lenT) (.int .u8 (k : Int)) = some (.int .u8 (b : Int)) ∧ b ≤ 8 ∧ (0 < k → 2 ^ b ≤ 2 * k) := by
 obtain ⟨b, e, hb⟩ := lenT_all ⟨k, h⟩
 have hb9 := b.isLt
 refine ⟨b.val, ?_, by omega, hb⟩
 rw [idxStr_u8 e]
 congr 2
 rw [UInt8.toNat_ofNat', Nat.mod_eq_of_lt (by omega)]
theorem Len64_k1 {Q : AVal → zb → Prop} {v0 v2 : AVal} {h : zb} : zbr.k1 C N Q v0 v2 h = (B.pv (V.toInt .u8 v0) fun v21 =>
  B.pv (V.zh6 (.str lenT) v21) fun v22 =>
  B.pv (V.toInt .i64 v22) fun v23 =>
  B.pv (V.bin .add v2 v23) fun v24 =>
  Q v24 h) := rfl
theorem Len64_spec {x : Nat} (hx : x ≤ 100000000) {h : zb} {Q : AVal → zb → Prop} (hq : ∀ r : Nat, r ≤ 32 → (0 < x → 2 ^ r ≤ 2 * x) → Q (.int .i64 (r : Int)) h) : zbr.cps C N (.int .u64 (x : Int)) h Q := by
 have fin : ∀ (y s : Nat), y < 256 → s ≤ 24 → (0 < x → 0 < y) → 2 ^ s * y ≤ x → zbr.k1 C N Q (.int .u64 (y : Int)) (.int .i64 (s : Int)) h := fun y s hy hs h0 hle => by
  obtain ⟨b, e, hb, hp⟩ := lenTab hy
  have e1 : V.toInt .u8 (.int .u64 (y : Int)) = some (.int .u8 (y : Int)) := by rw [V.toInt_int, wrap_u8]; congr 2; omega
  rw [Len64_k1]
  simp -dsimp only [e1, B.zg, e, toIN (show b < 4611686018427387904 by omega), zke (show s + b < 4611686018427387904 by omega)]
  refine hq (s + b) (by omega) fun hx0 => ?_
  have h1 := hp (h0 hx0)
  have h2 : 2 ^ s * 2 ^ b ≤ 2 ^ s * (2 * y) := Nat.mul_le_mul_left _ h1
  rw [Nat.pow_add]
  have h3 : 2 ^ s * (2 * y) = 2 * (2 ^ s * y) := by rw [Nat.mul_left_comm]
  omega
 have sh : ∀ (y j : Nat), j < 64 → V.bin .shr (.int .u64 (y : Int)) (.int .u64 (j : Int)) = some (.int .u64 ((y / 2 ^ j : Nat) : Int)) := fun y j hj => by
  rw [bin_shr (by omega) (by simp [IntKind.bits]; omega), Int.toNat_natCast]
  congr 2
  rw [Int.fdiv_eq_ediv_of_nonneg _ (by exact_mod_cast Nat.zero_le (2 ^ j))]
  simp
 have g3 : V.bin .geq (.int .u64 (x : Int)) (.int .u64 4294967296) = some (.bool false) := by rw [V.zk1]; simp; omega
 have gk : ∀ y m : Nat, V.bin .geq (.int .u64 (y : Int)) (.int .u64 (m : Int)) = some (.bool (decide (m ≤ y))) := fun y m => by rw [V.zk1]; congr 3; exact propext (by omega)
 have low : ∀ (y s : Nat), y < 65536 → s ≤ 16 → (0 < x → 0 < y) → 2 ^ s * y ≤ x → zbr.k2 C N Q (.int .u64 (y : Int)) (.int .i64 (s : Int)) h := fun y s hy hs h0 hle => by
  have g1 : V.bin .geq (.int .u64 (y : Int)) (.int .u64 256) = some (.bool (decide (256 ≤ y))) := gk y 256
  have s1 : V.bin .shr (.int .u64 (y : Int)) (.int .u64 8) = some (.int .u64 ((y / 2 ^ 8 : Nat) : Int)) := sh y 8 (by omega)
  have a1 : V.bin .add (.int .i64 (s : Int)) (.int .i64 8) = some (.int .i64 ((s + 8 : Nat) : Int)) := zke (a := s) (b := 8) (by omega)
  simp -dsimp only [zbr.k2, g1, B.zg]
  refine B.zn (fun hd => ?_) (fun hd => ?_)
  ·rw [decide_eq_true_eq] at hd
   simp -dsimp only [s1, a1, B.zg]
   refine fin (y / 2 ^ 8) (s + 8) (by omega) (by omega) (fun _ => by omega) ?_
   rw [Nat.pow_add, Nat.mul_assoc]
   refine Nat.le_trans (Nat.mul_le_mul_left _ ?_) hle
   omega
  ·rw [decide_eq_false_iff_not] at hd
   exact fin y s (by omega) (by omega) h0 hle
 have g2 : V.bin .geq (.int .u64 (x : Int)) (.int .u64 65536) = some (.bool (decide (65536 ≤ x))) := gk x 65536
 have s2 : V.bin .shr (.int .u64 (x : Int)) (.int .u64 16) = some (.int .u64 ((x / 2 ^ 16 : Nat) : Int)) := sh x 16 (by omega)
 simp -dsimp only [zbr.cps, zbr.k4, zbr.k3, g3, g2, s2, B.zg, B.cond_false]
 refine B.zn (fun hd => ?_) (fun hd => ?_)
 ·rw [decide_eq_true_eq] at hd
  simp -dsimp only [s2, show V.bin .add (.int .i64 0) (.int .i64 16) = some (.int .i64 ((16 : Nat) : Int)) from rfl, B.zg]
  exact low (x / 2 ^ 16) 16 (by omega) (by omega) (fun _ => by omega) (by omega)
 ·rw [decide_eq_false_iff_not] at hd
  exact low x 0 (by omega) (by omega) id (by simp)
theorem Len_spec (i : zbr.Imp C N) {x : Nat} (hx : x ≤ 100000000) {h : zb} {Q : AVal → zb → Prop} (hq : ∀ r : Nat, r ≤ 32 → (0 < x → 2 ^ r ≤ 2 * x) → Q (.int .i64 (r : Int)) h) : zds.cps C N (.int .u64 (x : Int)) h Q := by
 simp -dsimp only [zds.cps, zds.k1, B.cond_false]
 exact i _ _ _ (Len64_spec hx fun r h1 h2 => zbj (hq r h1 h2))
def LenI (C : CSem) (f : Nat) : Prop := ∀ (x : Nat) (h : zb) (Q : AVal → zb → Prop), x ≤ 100000000 → (∀ r : Nat, r ≤ 32 → (0 < x → 2 ^ r ≤ 2 * x) → Q (.int .i64 (r : Int)) h) → C f [.int .u64 (x : Int)] h Q
theorem zds.spec (i : zds.Imp C N) (i2 : zbr.Imp C N) : LenI C (N 287) := fun x h Q hx hq => i _ _ _ (Len_spec i2 hx fun r h1 h2 => zbj (hq r h1 h2))
def PowI (C : CSem) (f : Nat) : Prop := ∀ (n : Nat) (h : zb) (Q : AVal → zb → Prop), 0 < n → n ≤ 100000000 → (∀ m : Nat, 0 < m → m ≤ 2 * n → Q (.int .u64 (m : Int)) h) → C f [.int .i64 (n : Int)] h Q
theorem zcv.spec (i : zcv.Imp C N) (hl : LenI C (N 287)) : PowI C (N 299) := fun n h Q h0 hn hq => by
 apply i
 simp -dsimp only [zcv.cps, toUN (show n < 18446744073709551616 by omega), B.zg]
 refine hl n h _ hn fun r hr hp => ?_
 have e : V.bin .shl (.int .u64 1) (.int .i64 (r : Int)) = some (.int .u64 ((2 ^ r : Nat) : Int)) := by
  rw [bin_shl (by omega) (by simp [IntKind.bits]; omega), Int.toNat_natCast]
  have : (1 : Int) * 2 ^ r = ((2 ^ r : Nat) : Int) := by simp
  rw [this, wrapU]
  have := hp h0
  omega
 simp -dsimp only [e, B.zg]
 exact zbj (hq (2 ^ r) (Nat.pos_of_ne_zero (by simp)) (hp h0))
def NextI (C : CSem) (f : Nat) : Prop := ∀ (h0 h : zb) (p : AVal) (n : Int) (Q : AVal → zb → Prop), Owns h0 h [.box p [.int .u64 n]] → (∀ m m' h', Owns h0 h' [.box p [.int .u64 m']] → Q (.int .u64 m) h') → C f [p] h Q
theorem zcm.spec (i : zcm.Imp C N) : NextI C (N 298) := fun h0 h p n Q ho hq => by
 have key : ∀ {h : zb} {n : Int}, Owns h0 h [.box p [.int .u64 n]] → ∃ id, p = .ptr id 0 0 ∧ A.ldv h (.ptr id 0 0) = some (.int .u64 n) := fun {h n} ho => by
  obtain ⟨id, rfl, hb⟩ := ho.zrq 0 rfl
  exact ⟨id, rfl, by rw [zjr hb]; rfl⟩
 apply i
 obtain ⟨id, rfl, ld⟩ := key ho
 simp -dsimp only [zcm.cps, zcm.k1, B.zhr, B.zg9, ld, B.zg, bin_shl (k := .u64) (j := .u64) (b := 13) (by omega) (by simp [IntKind.bits]), V.bin_xor]
 refine ho.boxSt 0 (off := 0) rfl rfl (by simp) fun h1 o1 _ => ?_
 simp only [List.set_cons_zero] at o1
 obtain ⟨id1, e, ld1⟩ := key o1
 cases e
 simp -dsimp only [B.zhr, B.zg9, ld1, B.zg, bin_shr (k := .u64) (j := .u64) (b := 7) (by omega) (by simp [IntKind.bits]), V.bin_xor]
 refine o1.boxSt 0 (off := 0) rfl rfl (by simp) fun h2 o2 _ => ?_
 simp only [List.set_cons_zero] at o2
 obtain ⟨id2, e, ld2⟩ := key o2
 cases e
 simp -dsimp only [B.zhr, B.zg9, ld2, B.zg, bin_shl (k := .u64) (j := .u64) (b := 17) (by omega) (by simp [IntKind.bits]), V.bin_xor]
 refine o2.boxSt 0 (off := 0) rfl rfl (by simp) fun h3 o3 _ => ?_
 simp only [List.set_cons_zero] at o3
 obtain ⟨id3, e, ld3⟩ := key o3
 cases e
 simp -dsimp only [B.zhr, B.zg9, ld3, B.zg]
 exact zbj (hq _ _ _ o3)
section
variable {E : z5} {X : Type} {cs : X → List AVal} {v : X → AVal} {h0 h : zb} {x f : AVal} {G : List X} {R : List (List AVal)} {Q : AVal → zb → Prop} {a b : Nat}
end
section
variable {X : Type} {c : X → X → Int} {a b m A0 Z0 : Nat} {G G' : List X}
theorem le_of (W : Weak (zey c)) {x y z : X} (h1 : ¬ c x y < 0) (h2 : ¬ c y z < 0) : ¬ c x z < 0 := by
 have := W.zo3 (a := x) (b := y) (c := z) (by unfold zey; exact decide_eq_false h1) (by unfold zey; exact decide_eq_false h2)
 unfold zey at this; exact of_decide_eq_false this
theorem nlt_of (W : Weak (zey c)) {x y : X} (h : c x y < 0) : ¬ c y x < 0 := by
 have := W.asym (a := x) (b := y) (by unfold zey; exact decide_eq_true h)
 unfold zey at this; exact of_decide_eq_false this
theorem le_self (W : Weak (zey c)) (x : X) : ¬ c x x < 0 := by
 have := W.irr x; unfold zey at this; exact of_decide_eq_false this
theorem zjd.pair (W : Weak (zey c)) (x : zjd c a b m G) {p q : Nat} (h1 : a ≤ p) (h2 : p < q) (h3 : q < b) (h4 : p ≤ m) (h5 : m ≤ q) (hp : p < G.length) (hq : q < G.length) : ¬ c G[q] G[p] < 0 := by
 have hm : m < G.length := by omega
 have e1 : p < m → ¬ c G[m] G[p] < 0 := fun k => nlt_of W (x.lo p hp hm h1 k)
 have e2 : m < q → ¬ c G[q] G[m] < 0 := fun k => x.hi q hq hm k h3
 by_cases k1 : p = m
 ·subst k1; exact e2 (by omega)
 ·by_cases k2 : q = m
  ·subst k2; exact e1 (by omega)
  ·exact le_of W (e2 (by omega)) (e1 (by omega))
theorem zjd.left (W : Weak (zey c)) (x : zjd c a b m G) (w : zda a m G G') : zjd c a b m G' := by
 have hl := w.len
 refine ⟨x.ge, x.lt, by have := x.hb; omega, fun k h hm h1 h2 => ?_, fun k h hm h1 h2 => ?_⟩
 ·obtain ⟨k', k1, k2, k3, e⟩ := w.mem h1 h2 h
  rw [e, w.same (k := m) (.inr (by omega)) hm (by omega)]
  exact x.lo k' k3 _ k1 k2
 ·rw [w.same (k := m) (.inr (by omega)) hm (by omega), w.same (k := k) (.inr (by omega)) h (by omega)]
  exact x.hi k _ _ h1 h2
theorem zjd.right (W : Weak (zey c)) (x : zjd c a b m G) (w : zda (m + 1) b G G') : zjd c a b m G' := by
 have hl := w.len
 refine ⟨x.ge, x.lt, by have := x.hb; omega, fun k h hm h1 h2 => ?_, fun k h hm h1 h2 => ?_⟩
 ·rw [w.same (k := m) (.inl (by omega)) hm (by omega), w.same (k := k) (.inl (by omega)) h (by omega)]
  exact x.lo k _ _ h1 h2
 ·obtain ⟨k', k1, k2, k3, e⟩ := w.mem (k := k) (by omega) h2 h
  rw [e, w.same (k := m) (.inl (by omega)) hm (by omega)]
  exact x.hi k' k3 _ (by omega) k2
theorem Cut.left (W : Weak (zey c)) (x : Cut c A0 Z0 a b G) (p : zjd c a b m G) (s : Srt c a m G) : Cut c A0 Z0 (m + 1) b G := fun i j h1 h2 h3 h4 h5 h6 => by
 by_cases k : i < a ∨ b ≤ j
 ·exact x i j h1 h2 h3 k h5 h6
 ·by_cases k2 : j < m
  ·exact s i j (by omega) h2 k2 h5 h6
  ·exact p.pair W (by omega) h2 (by omega) (by omega) (by omega) h5 h6
theorem Cut.right (W : Weak (zey c)) (x : Cut c A0 Z0 a b G) (p : zjd c a b m G) (s : Srt c (m + 1) b G) : Cut c A0 Z0 a m G := fun i j h1 h2 h3 h4 h5 h6 => by
 by_cases k : i < a ∨ b ≤ j
 ·exact x i j h1 h2 h3 k h5 h6
 ·by_cases k2 : m < i
  ·exact s i j (by omega) h2 (by omega) h5 h6
  ·exact p.pair W (by omega) h2 (by omega) (by omega) (by omega) h5 h6
theorem Cut.pre (x : Cut c A0 Z0 a b G) (h : A0 < a) (hb : b ≤ Z0) : Pre c a b G := fun h0 i h1 h2 h3 h4 => x (a - 1) i (by omega) (by omega) (by omega) (.inl (by omega)) h4 h3
theorem Pre.sub (x : Pre c a b G) (h : m ≤ b) : Pre c a m G := fun h0 i h1 h2 h3 h4 => x h0 i h1 (by omega) h3 h4
theorem Cut.equal (W : Weak (zey c)) {i j : Nat} (x : Cut c A0 Z0 a b G) (p : EInv c a b G i j) (hji : j < i) (ha : 0 < a) (hp : Pre c a b G) (hlt : a < b) (hd : ∀ (h1 : a - 1 < G.length) (h2 : a < G.length), ¬ c G[a - 1] G[a] < 0) : Cut c A0 Z0 i b G := fun s t h1 h2 h3 h4 h5 h6 => by
 have e := p.hij
 have e3 := p.hi
 by_cases k : s < a ∨ b ≤ t
 ·exact x s t h1 h2 h3 k h5 h6
 ·have la : a < G.length := by omega
  have sp : ¬ c G[a] G[s] < 0 := by
   by_cases k3 : s = a
   ·subst k3; exact le_self W _
   ·exact p.lo s h5 la (by omega) (by omega)
  by_cases k2 : t < i
  ·have t1 := hp ha t (by omega) (by omega) h6 (by omega)
   exact le_of W (le_of W t1 (hd (by omega) la)) sp
  ·exact le_of W (nlt_of W (p.hi2 t h6 la (by omega) (by omega))) sp
end
abbrev I5 (F : AVal → AVal → AVal → AVal → AVal → zb → (AVal → zb → Prop) → Prop) (C : CSem) (n : Nat) : Prop := ∀ (v0 v1 v2 v3 v4 : AVal) (h : zb) (Q : AVal → zb → Prop), F v0 v1 v2 v3 v4 h (dn Q) → C n [v0, v1, v2, v3, v4] h Q
abbrev I4 (F : AVal → AVal → AVal → AVal → zb → (AVal → zb → Prop) → Prop) (C : CSem) (n : Nat) : Prop := ∀ (v0 v1 v2 v3 : AVal) (h : zb) (Q : AVal → zb → Prop), F v0 v1 v2 v3 h (dn Q) → C n [v0, v1, v2, v3] h Q
section
variable {E : z5} {X : Type} {cs : X → List AVal} {v : X → AVal} {h0 h : zb} {x f : AVal} {G : List X} {R : List (List AVal)} {c : X → X → Int} {Q : AVal → zb → Prop} {Y : List AVal → zb → Prop} {f1 f2 f3 f4 f5 f6 f7 f8 f9 g1 g2 g3 g4 g5 g6 : Nat}
structure PS (E : z5) {X : Type} (cs : X → List AVal) (h0 : zb) (x : AVal) (R : List (List AVal)) (c : X → X → Int) (A0 Z0 : Nat) (G0 : List X) (a b : Nat) (G : List X) (h : zb) : Prop where
 hA : A0 ≤ a
 hab : a ≤ b
 hB : b ≤ Z0
 W : zda A0 Z0 G0 G
 cut : Cut c A0 Z0 a b G
 pre : Pre c a b G
 o : Rw E cs h0 h x G R
theorem PS.turn {A0 Z0 a b : Nat} {G0 G' : List X} {h' : zb} (p : PS E cs h0 x R c A0 Z0 G0 a b G h) (w : zda a b G G') (o : Rw E cs h0 h' x G' R) : PS E cs h0 x R c A0 Z0 G0 a b G' h' :=
 ⟨p.hA, p.hab, p.hB, p.W.trans (w.mono p.hA p.hB), p.cut.within w p.hA p.hB, p.pre.within w, o⟩
abbrev Go1 (E : z5) {X : Type} (cs : X → List AVal) (h0 : zb) (x : AVal) (R : List (List AVal)) (c : X → X → Int) (A0 Z0 : Nat) (G0 : List X) (n : Nat) (Y : List AVal → zb → Prop) : Prop :=
 ∀ a b (lim : Int) w1 w2 G h, b - a < n → PS E cs h0 x R c A0 Z0 G0 a b G h → Y [.int .i64 (a : Int), .int .i64 (b : Int), .int .i64 lim, .bool w1, .bool w2] h
end
end Go.Ab
