/- What is proved: a part of the way to the statement: Ctell. No conditions. -/
import Derived.Test.YtljejbplojnnpaaGreatQ6
import Derived.Test.YtljejbplojnnpaaGreatQ7
import Derived.Test.YtljejbplojnnpaaGreatQ3
import Derived.KernelRfl
set_option linter.unusedVariables false
set_option linter.unusedSimpArgs false
namespace Go.Ab
variable {C : CSem} {N : Nat → Nat}
def zfm (l : Lot) : Bool := decide (0 < l.Id) && zbb l.Item && zmx.right ⟨l.From, l.zog⟩ && decide (l.From < l.zog) && decide (0 < l.Qty) && decide (l.Qty ≤ 1073741824)
def zp0 (u : Use) : Bool := decide (0 ≤ u.Want) && decide (1 ≤ u.Lot) && decide (1 ≤ u.Qty)
def zew.Spec (C : CSem) (N : Nat → Nat) : Prop := ∀ (l : Lot) (h : za) (Q : AVal → za → Prop), Q (.bool (zfm l)) h → C (N 52) [.agg l.cs] h Q
theorem zew.spec (i : zew.Imp C N) (s1 : zb3.Spec C N) (s2 : zdf.Spec C N) : zew.Spec C N := by
 intro l h Q hq
 apply i
 simp +contextual -dsimp
 refine B.zea (fun _ _ hq => s1 _ _ _ hq) ?_
 simp +contextual -dsimp
 refine B.zea (fun _ _ hq => s2 _ _ _ _ hq) ?_
 simp +contextual -dsimp
 simp only [zfm, Bool.and_assoc] at hq
 simp only [Bool.and_assoc]
 exact zj hq
def zd3.Spec (C : CSem) (N : Nat → Nat) : Prop := ∀ (l : Lot) (h : za) (Q : AVal → za → Prop), Q (.bool (zfm l)) h → C (N 60) [.agg l.cs] h Q
theorem zd3.spec (i : zd3.Imp C N) (s1 : zbu.Spec C N) : zd3.Spec C N := by
 intro l h Q hq
 apply i
 simp +contextual -dsimp
 refine B.zea (fun _ _ hq => s1 _ _ _ hq) ?_
 simp +contextual -dsimp
 refine zj ?_
 have : ∀ a b : Bool, a = b → Q (.bool b) h → Q (.bool a) h := fun a b e => by rw [e]; exact id
 refine this _ _ ?_ hq
 rw [Bool.eq_iff_iff]
 cases hc : zbb l.Item <;> simp [zfm, zmx.right, hc]
 omega
def be (n : Int) : Nat → List UInt8
 | 0 => []
 | k + 1 => byt (n.fdiv (2 ^ (8 * k))) :: be n k
@[simp] theorem zg5 (n : Int) : ∀ k, (be n k).length = k
 | 0 => rfl
 | k + 1 => by simp [be, zg5 n k]
def zey.Spec (C : CSem) (N : Nat → Nat) : Prop := ∀ (h0 h : za) (x : AVal) (D : List UInt8) (n : Int) (k : Nat) (Q : AVal → za → Prop), Owns h0 h [.sl 1 x (D.map bc) []] → k ≤ 8 → D.length ≤ 100000000 →
 (∀ x' h', Owns h0 h' [.sl 1 x' ((D ++ be n k).map bc) []] → Q x' h') → C (N 50) [x, .int .i64 n, .int .i64 (k : Int)] h Q
theorem zey.spec (i : zey.Imp C N) : zey.Spec C N := by
 intro h0 h x D n k Q ho hk hD hq
 apply i
 have e0 : IntKind.i64.wrap ((k : Int) - 1) = (k : Int) - 1 := wrap_i64 (by omega) (by omega)
 simp +contextual -dsimp [e0]
 refine zg.intro (fun t vs hh => ∃ (x : AVal) (pre : List UInt8), t ≤ k ∧ vs = [x, .int .i64 ((t : Int) - 1)] ∧ pre ++ be n t = be n k ∧ Owns h0 hh [.sl 1 x ((D ++ pre).map bc) []]) k ?_ ⟨x, [], Nat.le_refl _, rfl, rfl, by simpa using ho⟩
 rintro Y t vs hh ⟨x, pre, ht, rfl, he, ho⟩ hY
 simp +contextual -dsimp
 have hpl := congrArg List.length he
 simp only [List.length_append, zg5] at hpl
 refine B.ze (fun hb => ?_) (fun hb => ?_) <;> simp at hb
 ·obtain ⟨t, rfl⟩ : ∃ u, t = u + 1 := ⟨t - 1, by omega⟩
  have e1 : ((t + 1 : Nat) : Int) - 1 = (t : Int) := by omega
  have e2 : IntKind.i64.wrap (8 * (t : Int)) = 8 * (t : Int) := wrap_i64 (by omega) (by omega)
  have e3 : V.bin .shr (.int .i64 n) (.int .i64 (8 * (t : Int))) = some (.int .i64 (n.fdiv (2 ^ (8 * t)))) := by
   rw [zrs (by omega) (by simp [IntKind.bits]; omega)]
   congr 4
  have e4 : IntKind.i64.wrap ((t : Int) - 1) = (t : Int) - 1 := wrap_i64 (by omega) (by omega)
  rw [e1]
  simp +contextual -dsimp [e2, e3, zke]
  refine ho.push 0 rfl rfl (by omega) (by simp; omega) (by simp [maxLen]; omega) fun x' h' ho' _ => ?_
  simp +contextual -dsimp [e4]
  refine hY t _ _ (by omega) ⟨x', pre ++ [byt (n.fdiv (2 ^ (8 * t)))], by omega, rfl, ?_, ?_⟩
  ·rw [← he, be, List.append_assoc]; rfl
  ·rw [← List.append_assoc, List.map_append]; exact ho'
 ·have : t = 0 := by omega
  subst this
  rw [be, List.append_nil] at he
  subst he
  exact zj (hq _ _ ho)
theorem fdiv_u64 (n : Int) : ∀ t : Nat, t < 8 → ((n % 18446744073709551616).fdiv (2 ^ (8 * t))) % 256 = (n.fdiv (2 ^ (8 * t))) % 256
 | 0, _ => by rw [Int.fdiv_eq_ediv_of_nonneg _ (by omega), Int.fdiv_eq_ediv_of_nonneg _ (by omega)]; omega
 | 1, _ => by rw [Int.fdiv_eq_ediv_of_nonneg _ (by omega), Int.fdiv_eq_ediv_of_nonneg _ (by omega)]; omega
 | 2, _ => by rw [Int.fdiv_eq_ediv_of_nonneg _ (by omega), Int.fdiv_eq_ediv_of_nonneg _ (by omega)]; omega
 | 3, _ => by rw [Int.fdiv_eq_ediv_of_nonneg _ (by omega), Int.fdiv_eq_ediv_of_nonneg _ (by omega)]; omega
 | 4, _ => by rw [Int.fdiv_eq_ediv_of_nonneg _ (by omega), Int.fdiv_eq_ediv_of_nonneg _ (by omega)]; omega
 | 5, _ => by rw [Int.fdiv_eq_ediv_of_nonneg _ (by omega), Int.fdiv_eq_ediv_of_nonneg _ (by omega)]; omega
 | 6, _ => by rw [Int.fdiv_eq_ediv_of_nonneg _ (by omega), Int.fdiv_eq_ediv_of_nonneg _ (by omega)]; omega
 | 7, _ => by rw [Int.fdiv_eq_ediv_of_nonneg _ (by omega), Int.fdiv_eq_ediv_of_nonneg _ (by omega)]; omega
 | t + 8, h => by omega
theorem zqx {f : Nat} {args : List AVal} {h0 h : za} {out : AVal} {D M : List UInt8} {K : AVal → za → Prop} (s : ∀ Q : AVal → za → Prop, (∀ x' h', Owns h h' [.sl 1 x' (M.map bc) []] → Q x' h') → C f args h Q)
  (ho : Owns h0 h [.sl 1 out (D.map bc) []]) (hl : D.length + M.length ≤ 100000000) (hK : ∀ out' h', Owns h0 h' [.sl 1 out' ((D ++ M).map bc) []] → K out' h') : C f args h (fun v h => B.appW h 1 1 out v K) := by
 refine s _ fun x' h' hn => ?_
 refine (ho.join hn).appW 0 rfl (hn.slAt 0 rfl) (by omega) (by simp; omega) (by simp [maxLen]; omega) fun out' h2 ho2 _ => hK out' h2 ?_
 rw [List.map_append]
 exact ho2.sub (by simp)
theorem byteLit {h0 h : za} {out : AVal} {D : List UInt8} {b : UInt8} {K : AVal → za → Prop} (ho : Owns h0 h [.sl 1 out (D.map bc) []]) (hl : D.length ≤ 100000000) (hK : ∀ out' h', Owns h0 h' [.sl 1 out' ((D ++ [b]).map bc) []] → K out' h') :
  B.newO h (some [.int .u8 (b.toNat : Int)]) fun i h => B.appW h 1 1 out (.sl i 0 0 1 1 1) K := by
 refine ho.push 0 rfl rfl (by omega) (by simp; omega) (by simp [maxLen]; omega) fun x' h' ho' _ => hK x' h' ?_
 rw [List.map_append]; exact ho'
def zf3.bare (t : zf3) : Bool := decide (t.Id = 0) && decide (t.Day = 0) && decide (t.Code = []) && decide (t.State = 0) && decide (t.Lots = []) && decide (t.Uses = [])
def zf3.head (t : zf3) : Bool := !(decide (t.Id < 0) || decide (t.Day < -1) || decide (4000 < t.Day) || !decide (t.Code = []) && !zbb t.Code || decide (3 < (t.State.toNat : Int)) || decide (300 < (t.Lots.length : Int)) || decide (2000 < (t.Uses.length : Int)))
def zf3.full (t : zf3) : Bool := t.head && t.Lots.all zfm && t.Uses.all zp0
def zf7 (t : zf3) : Bool := decide (0 ≤ t.Err) && decide (t.Err ≤ 999) && if 0 < t.Err then t.bare else t.full
theorem u8_zero (b : UInt8) : decide ((b.toNat : Int) = 0) = decide (b = 0) := u8_eq b 0
theorem zs9 {T : Type} {p : T → Bool} {L : List T} {k : Nat} {w : T} (h : (L.take k).all p = true) (hw : L[k]? = some w) (hp : p w = true) : (L.take (k + 1)).all p = true := by
 rw [take_succ hw, List.all_append, h]; simp [hp]
theorem all_bad {T : Type} {p : T → Bool} {L : List T} {k : Nat} {w : T} (hw : L[k]? = some w) (hp : p w = false) : L.all p = false := by
 rw [← Bool.not_eq_true, List.all_eq_true]
 intro h
 rw [h w (List.mem_of_getElem? hw)] at hp; cases hp
def zbp.Spec (C : CSem) (N : Nat → Nat) : Prop := ∀ (t : zf3) (x y : AVal) (h : za) (Q : AVal → za → Prop), zut h t x y → t.Lots.length ≤ 100000000 → t.Uses.length ≤ 100000000 → Q (.bool (zf7 t)) h → C (N 29) [.agg (t.cs x y)] h Q
theorem zbp.spec (i : zbp.Imp C N) (s1 : zew.Spec C N) (s2 : zb3.Spec C N) : zbp.Spec C N := by
 intro t x y h Q ht hl1 hl2 hq
 obtain ⟨⟨R, hx⟩, ⟨S, hy⟩⟩ := ht
 apply i
 have hlx := hx.zi
 have hly := hy.zi
 rw [List.length_map] at hlx hly
 have hw : IntKind.i64.wrap ((t.Lots.length : Int) + t.Uses.length) = (t.Lots.length : Int) + t.Uses.length := wrap_i64 (by omega) (by omega)
 simp +contextual -dsimp [hlx, hly, hw]
 refine B.ze (fun h1 => ?_) (fun h1 => ?_)
 ·have : zf7 t = false := by simp at h1; simp [zf7]; omega
  rw [this] at hq
  exact zj hq
 ·simp +contextual -dsimp
  refine B.ze (fun h2 => ?_) (fun h2 => ?_)
  ·have : ∀ a : Bool, zf7 t = a → dn Q (.bool a) h := fun a e => by rw [← e]; exact zj hq
   refine this _ ?_
   simp at h1 h2
   simp only [zf7, h2, if_true, zf3.bare, decide_eq_true h1.1, decide_eq_true h1.2, Bool.true_and]
   rw [Bool.eq_iff_iff]
   simp [← u8_zero]
   have e : (t.Lots = [] ∧ t.Uses = []) ↔ ((t.Lots.length : Int) + t.Uses.length = 0) := by rw [← List.length_eq_zero_iff, ← List.length_eq_zero_iff]; omega
   rw [and_assoc, e]
  ·simp +contextual -dsimp
   refine B.zea (fun _ _ hq => s2 _ _ _ hq) ?_
   simp +contextual -dsimp [hlx, hly]
   have hfull : zf7 t = t.full := by
    simp at h1 h2
    simp only [zf7]
    rw [if_neg (by omega), decide_eq_true h1.1, decide_eq_true h1.2]; rfl
   rw [hfull] at hq
   refine B.ze (fun h3 => ?_) (fun h3 => ?_)
   ·rw [show t.full = false by simp only [zf3.full, zf3.head, h3]; rfl] at hq
    exact zj hq
   ·have hhead : t.head = true := by simp only [zf3.head, h3]; rfl
    simp +contextual -dsimp [hlx, hly]
    refine zg.intro (fun n vs hh => ∃ k : Nat, k + n = t.Lots.length ∧ vs = [.int .i64 k] ∧ hh = h ∧ (t.Lots.take k).all zfm = true) t.Lots.length ?_ ⟨0, by simp, by simp, rfl, by simp⟩
    rintro Y n vs hh ⟨k, hn, rfl, rfl, hall⟩ hY
    simp +contextual -dsimp
    refine B.ze (fun h4 => ?_) (fun h4 => ?_) <;> simp at h4
    ·obtain ⟨w, hw⟩ := zc6 h4
     have hk : k < (t.Lots.map Lot.cs).length := by simpa using h4
     simp +contextual -dsimp [hx.idxN hk, hx.elem (get_map hw)]
     refine s1 w _ _ ?_
     simp +contextual -dsimp
     refine B.ze (fun h5 => ?_) (fun h5 => ?_)
     ·rw [show t.full = false by simp only [zf3.full, all_bad hw (show zfm w = false by simpa using h5), Bool.and_false, Bool.false_and]] at hq
      exact zj hq
     ·simp +contextual -dsimp [zhg (n := k) (by omega)]
      exact hY (n - 1) _ _ (by omega) ⟨k + 1, by omega, by simp, rfl, zs9 hall hw (by simpa using h5)⟩
    ·have hkl : k = t.Lots.length := by omega
     subst hkl
     rw [List.take_length] at hall
     simp +contextual -dsimp [hlx, hly]
     refine zg.intro (fun n vs h2 => ∃ k : Nat, k + n = t.Uses.length ∧ vs = [.int .i64 k] ∧ h2 = hh ∧ (t.Uses.take k).all zp0 = true) t.Uses.length ?_ ⟨0, by simp, by simp, rfl, by simp⟩
     rintro Z n vs h2 ⟨k, hn, rfl, rfl, hall2⟩ hZ
     simp +contextual -dsimp
     refine B.ze (fun h4 => ?_) (fun h4 => ?_) <;> simp at h4
     ·obtain ⟨w, hw⟩ := zc6 h4
      have hk : k < (t.Uses.map Use.cs).length := by simpa using h4
      simp +contextual -dsimp [hy.idxN hk, hy.elem (get_map hw)]
      refine B.ze (fun h5 => ?_) (fun h5 => ?_)
      ·rw [show t.full = false by simp only [zf3.full, all_bad hw (show zp0 w = false by simp at h5; simp [zp0]; omega), Bool.and_false]] at hq
       exact zj hq
      ·simp +contextual -dsimp [zhg (n := k) (by omega)]
       exact hZ (n - 1) _ _ (by omega) ⟨k + 1, by omega, by simp, rfl, zs9 hall2 hw (by simp at h5; simp [zp0]; omega)⟩
     ·have hkl : k = t.Uses.length := by omega
      subst hkl
      rw [List.take_length] at hall2
      rw [show t.full = true by simp only [zf3.full, hhead, hall, hall2]; rfl] at hq
      exact zj hq
def zlg (l : Lot) : List UInt8 := be l.Id 8 ++ zdq l.Item ++ be l.From 2 ++ be l.zog 2 ++ be l.Qty 8 ++ be (bif l.zj7 then 1 else 0) 1
def zm0 (u : Use) : List UInt8 := be u.Want 8 ++ be u.Lot 8 ++ be u.Qty 8
def zp2 (t : zf3) : List UInt8 := be t.Err 2 ++ be t.Id 8 ++ be (t.Day + 1) 2 ++ zdq t.Code ++ [t.State] ++ be t.Lots.length 2 ++ t.Lots.flatMap zlg ++ be t.Uses.length 2 ++ t.Uses.flatMap zm0
def zga (t : zf3) : List UInt8 × Int := if zf7 t = false then ([], 2) else if 0 < t.Err then (be t.Err 2, 0) else (zp2 t, 0)
theorem lotBytes_len (l : Lot) : (zlg l).length ≤ 34 := by
 have := zdp l.Item
 simp [zlg]; omega
theorem useBytes_len (u : Use) : (zm0 u).length = 24 := by simp [zm0]
theorem zgn {T : Type} {f : T → List UInt8} {m : Nat} (hf : ∀ x, (f x).length ≤ m) : ∀ L : List T, (L.flatMap f).length ≤ L.length * m
 | [] => by simp
 | a :: r => by
  have := zgn hf r
  have := hf a
  simp only [List.flatMap_cons, List.length_append, List.length_cons, Nat.add_mul, Nat.one_mul]; omega
theorem lots_len (L : List Lot) (k : Nat) (h : L.length ≤ 300) : ((L.take k).flatMap zlg).length ≤ 10200 := by
 have h1 := zgn lotBytes_len (L.take k)
 have h2 : (L.take k).length ≤ 300 := by simp; omega
 have := Nat.mul_le_mul_right 34 h2
 omega
theorem uses_len (L : List Use) (k : Nat) (h : L.length ≤ 2000) : ((L.take k).flatMap zm0).length ≤ 48000 := by
 have h1 := zgn (fun u => Nat.le_of_eq (useBytes_len u)) (L.take k)
 have h2 : (L.take k).length ≤ 2000 := by simp; omega
 have := Nat.mul_le_mul_right 24 h2
 omega
theorem flat_succ {T : Type} {f : T → List UInt8} {L : List T} {k : Nat} {w : T} (hw : L[k]? = some w) : (L.take (k + 1)).flatMap f = (L.take k).flatMap f ++ f w := by
 rw [take_succ hw, List.flatMap_append]; simp
theorem zl9 {t : zf3} (h : zf7 t = true) : 0 ≤ t.Err ∧ t.Err ≤ 999 ∧ (¬ 0 < t.Err → t.head = true ∧ t.Lots.length ≤ 300 ∧ t.Uses.length ≤ 2000 ∧ -1 ≤ t.Day ∧ t.Day ≤ 4000) := by
 simp only [zf7, Bool.and_eq_true, decide_eq_true_eq] at h
 refine ⟨h.1.1, h.1.2, fun h2 => ?_⟩
 have h3 := h.2
 rw [if_neg h2] at h3
 simp only [zf3.full, Bool.and_eq_true] at h3
 have h4 := h3.1.1
 refine ⟨h4, ?_⟩
 simp [zf3.head] at h4
 omega
def zbx.Spec (C : CSem) (N : Nat → Nat) : Prop := ∀ (t : zf3) (x y : AVal) (h : za) (Q : AVal → za → Prop), zut h t x y → t.Lots.length ≤ 100000000 → t.Uses.length ≤ 100000000 →
 (∀ x' h', Owns h h' [.sl 1 x' ((zga t).1.map bc) []] → Q (.tup [x', .int .i64 (zga t).2]) h') → C (N 28) [.agg (t.cs x y)] h Q
theorem zbx.spec (i : zbx.Imp C N) (s1 : zbp.Spec C N) (s2 : zey.Spec C N) (s3 : ze4.Spec C N) : zbx.Spec C N := by
 intro t x y h Q ht hl1 hl2 hq
 apply i
 simp +contextual -dsimp
 refine s1 t x y _ _ ht hl1 hl2 ?_
 simp +contextual -dsimp
 refine B.ze (fun hr => ?_) (fun hr => ?_) <;> simp at hr
 ·rw [show zga t = ([], 2) by simp [zga, hr]] at hq
  exact zj (hq _ _ ((Owns.start h).nils 1))
 ·obtain ⟨f1, f2, f3⟩ := zl9 hr
  have hc := zdp t.Code
  simp +contextual -dsimp
  refine s2 h h _ [] t.Err 2 _ ((Owns.start h).nils 1) (by omega) (by simp) fun o1 h1 ho1 => ?_
  simp +contextual -dsimp
  refine B.ze (fun he => ?_) (fun he => ?_) <;> simp at he
  ·rw [show zga t = (be t.Err 2, 0) by simp [zga, hr, he]] at hq
   exact zj (hq _ _ ho1)
  ·obtain ⟨f4, f5, f6, f7, f8⟩ := f3 (by omega)
   rw [show zga t = (zp2 t, 0) by simp [zga, hr]; omega] at hq
   have ed : IntKind.i64.wrap (t.Day + 1) = t.Day + 1 := wrap_i64 (by omega) (by omega)
   simp +contextual -dsimp
   refine s2 h h1 _ _ t.Id 8 _ ho1 (by omega) (by simp) fun o2 h2 ho2 => ?_
   simp +contextual -dsimp [ed]
   refine s2 h h2 _ _ (t.Day + 1) 2 _ ho2 (by omega) (by simp) fun o3 h3 ho3 => ?_
   simp +contextual -dsimp
   refine zqx (s3 t.Code h3) ho3 (by simp only [List.length_append, zg5, List.length_cons, List.length_nil]; omega) fun o4 h4 ho4 => ?_
   simp +contextual -dsimp
   refine byteLit ho4 (by simp only [List.length_append, zg5, List.length_cons, List.length_nil]; omega) fun o5 h5 ho5 => ?_
   obtain ⟨⟨R, hx⟩, ⟨S, hy⟩⟩ := ht.mono ho5.le
   have hlx := hx.zi
   rw [List.length_map] at hlx
   simp +contextual -dsimp [hlx]
   refine s2 h h5 _ _ t.Lots.length 2 _ ho5 (by omega) (by simp only [List.length_append, zg5, List.length_cons, List.length_nil]; omega) fun o6 h6 ho6 => ?_
   simp +contextual -dsimp [hlx]
   simp only [List.nil_append, List.append_assoc] at ho6
   refine zg.intro (fun n vs hh => ∃ (k : Nat) (o : AVal), k + n = t.Lots.length ∧ vs = [o, .int .i64 k] ∧ Owns h hh [.sl 1 o ((be t.Err 2 ++ (be t.Id 8 ++ (be (t.Day + 1) 2 ++ (zdq t.Code ++ ([t.State] ++ (be t.Lots.length 2 ++ (t.Lots.take k).flatMap zlg)))))).map bc) []]) t.Lots.length ?_ ⟨0, o6, by simp, by simp, by simpa using ho6⟩
   rintro Y n vs hh ⟨k, o, hn, rfl, ho⟩ hY
   obtain ⟨⟨R, hx⟩, ⟨S, hy⟩⟩ := ht.mono ho.le
   have hlx := hx.zi
   have hly := hy.zi
   rw [List.length_map] at hlx hly
   have hll := lots_len t.Lots k f5
   simp +contextual -dsimp
   refine B.ze (fun hb => ?_) (fun hb => ?_) <;> simp at hb
   ·obtain ⟨w, hw⟩ := zc6 hb
    have hk : k < (t.Lots.map Lot.cs).length := by simpa using hb
    have hcw := zdp w.Item
    simp +contextual -dsimp [hx.idxN hk, hx.elem (get_map hw)]
    refine s2 h hh _ _ w.Id 8 _ ho (by omega) (by simp only [List.length_append, zg5, List.length_cons, List.length_nil]; omega) fun o1 h1 ho1 => ?_
    simp +contextual -dsimp
    refine zqx (s3 w.Item h1) ho1 (by simp only [List.length_append, zg5, List.length_cons, List.length_nil]; omega) fun o2 h2 ho2 => ?_
    simp +contextual -dsimp
    refine s2 h h2 _ _ w.From 2 _ ho2 (by omega) (by simp only [List.length_append, zg5, List.length_cons, List.length_nil]; omega) fun o3 h3 ho3 => ?_
    simp +contextual -dsimp
    refine s2 h h3 _ _ w.zog 2 _ ho3 (by omega) (by simp only [List.length_append, zg5, List.length_cons, List.length_nil]; omega) fun o4 h4 ho4 => ?_
    simp +contextual -dsimp
    refine s2 h h4 _ _ w.Qty 8 _ ho4 (by omega) (by simp only [List.length_append, zg5, List.length_cons, List.length_nil]; omega) fun o5 h5 ho5 => ?_
    simp +contextual -dsimp
    have fin : ∀ v : Int, v = (bif w.zj7 then 1 else 0) → C (N 50) [o5, .int .i64 v, .int .i64 1] h5 fun v78 h => B.pv (V.bin .add (.int .i64 (k : Int)) (.int .i64 1)) fun v79 => Y [v78, v79] h := fun v hv => by
     refine s2 h h5 _ _ v 1 _ ho5 (by omega) (by simp only [List.length_append, zg5, List.length_cons, List.length_nil]; omega) fun o6 h6 ho6 => ?_
     simp +contextual -dsimp [zhg (n := k) (by omega)]
     refine hY (n - 1) _ _ (by omega) ⟨k + 1, o6, by omega, by simp, ?_⟩
     rw [flat_succ hw]
     simp only [zlg, ← hv, List.append_assoc] at ho6 ⊢
     exact ho6
    refine B.ze (fun ha => ?_) (fun ha => ?_)
    ·exact fin 1 (by rw [ha]; rfl)
    ·exact fin 0 (by rw [ha]; rfl)
   ·have hkl : k = t.Lots.length := by omega
    subst hkl
    rw [List.take_length] at ho hll
    simp +contextual -dsimp [hly]
    refine s2 h hh _ _ t.Uses.length 2 _ ho (by omega) (by simp only [List.length_append, zg5, List.length_cons, List.length_nil]; omega) fun o1 h1 ho1 => ?_
    simp +contextual -dsimp [hly]
    simp only [List.append_assoc] at ho1
    refine zg.intro (fun n vs hh => ∃ (k : Nat) (o : AVal), k + n = t.Uses.length ∧ vs = [o, .int .i64 k] ∧ Owns h hh [.sl 1 o ((be t.Err 2 ++ (be t.Id 8 ++ (be (t.Day + 1) 2 ++ (zdq t.Code ++ ([t.State] ++ (be t.Lots.length 2 ++ (t.Lots.flatMap zlg ++ (be t.Uses.length 2 ++ (t.Uses.take k).flatMap zm0)))))))).map bc) []]) t.Uses.length ?_ ⟨0, o1, by simp, by simp, by simpa using ho1⟩
    rintro Z n vs h2 ⟨k, o, hn, rfl, ho⟩ hZ
    obtain ⟨⟨R, hx⟩, ⟨S, hy⟩⟩ := ht.mono ho.le
    have hul := uses_len t.Uses k f6
    simp +contextual -dsimp
    refine B.ze (fun hb => ?_) (fun hb => ?_) <;> simp at hb
    ·obtain ⟨w, hw⟩ := zc6 hb
     have hk : k < (t.Uses.map Use.cs).length := by simpa using hb
     simp +contextual -dsimp [hy.idxN hk, hy.elem (get_map hw)]
     refine s2 h h2 _ _ w.Want 8 _ ho (by omega) (by simp only [List.length_append, zg5, List.length_cons, List.length_nil]; omega) fun o1 h1 ho1 => ?_
     simp +contextual -dsimp
     refine s2 h h1 _ _ w.Lot 8 _ ho1 (by omega) (by simp only [List.length_append, zg5, List.length_cons, List.length_nil]; omega) fun o2 h2 ho2 => ?_
     simp +contextual -dsimp
     refine s2 h h2 _ _ w.Qty 8 _ ho2 (by omega) (by simp only [List.length_append, zg5, List.length_cons, List.length_nil]; omega) fun o3 h3 ho3 => ?_
     simp +contextual -dsimp [zhg (n := k) (by omega)]
     refine hZ (n - 1) _ _ (by omega) ⟨k + 1, o3, by omega, by simp, ?_⟩
     rw [flat_succ hw]
     simp only [zm0, List.append_assoc] at ho3 ⊢
     exact ho3
    ·have hkl : k = t.Uses.length := by omega
     subst hkl
     rw [List.take_length] at ho
     refine zj (hq _ _ ?_)
     simp only [zp2, List.append_assoc]
     exact ho
theorem add1 {a : Nat} (h : a < 4611686018427387904) : V.bin .add (.int .i64 (a : Int)) (.int .i64 1) = some (.int .i64 ((a + 1 : Nat) : Int)) := by
 rw [V.zet, wrap_i64 (by omega) (by omega)]; simp
theorem sub1 {a : Nat} (h : 1 ≤ a) (ha : a < 4611686018427387904) : V.bin .sub (.int .i64 (a : Int)) (.int .i64 1) = some (.int .i64 ((a - 1 : Nat) : Int)) := by
 rw [V.zi5, wrap_i64 (by omega) (by omega)]; congr 2; omega
theorem lssN {a b : Nat} : V.bin .lss (.int .i64 (a : Int)) (.int .i64 (b : Int)) = some (.bool (decide (a < b))) := by rw [V.zrt]; congr 3; exact propext (by omega)
theorem leqN {a b : Nat} : V.bin .leq (.int .i64 (a : Int)) (.int .i64 (b : Int)) = some (.bool (decide (a ≤ b))) := by rw [V.bin_leq]; congr 3; exact propext (by omega)
section
variable {E : zf0} {X : Type} {cs : X → List AVal} {v : X → AVal} {h0 h : za} {x : AVal} {G : List X} {R : List (List AVal)}
end
section
variable {E : zf0} {T : Type} {cs : T → List AVal} {v : T → AVal} {c : T → T → Int} {h0 h : za} {x f : AVal} {R : List (List AVal)} {Q : AVal → za → Prop}
end
theorem flat_take {α : Type} {n : Nat} : ∀ {css : List (List α)}, (∀ cs ∈ css, cs.length = n) → ∀ k : Nat, (css.take k).flatten = css.flatten.take (k * n)
 | [], _, k => by simp
 | c :: css, hl, 0 => by simp
 | c :: css, hl, k + 1 => by
  have hc : c.length = n := hl c (by simp)
  rw [List.take_succ_cons, List.flatten_cons, List.flatten_cons, flat_take (fun p hp => hl p (by simp [hp])) k, Nat.add_mul, Nat.one_mul, show k * n + n = c.length + k * n by omega, List.take_length_add_append]
theorem flat_drop {α : Type} {n : Nat} : ∀ {css : List (List α)}, (∀ cs ∈ css, cs.length = n) → ∀ k : Nat, (css.drop k).flatten = css.flatten.drop (k * n)
 | [], _, k => by simp
 | c :: css, hl, 0 => by simp
 | c :: css, hl, k + 1 => by
  have hc : c.length = n := hl c (by simp)
  rw [List.drop_succ_cons, List.flatten_cons, flat_drop (fun p hp => hl p (by simp [hp])) k, Nat.add_mul, Nat.one_mul, show k * n + n = c.length + k * n by omega, List.drop_length_add_append]
section
variable {h h0 : za} {es : Nat} {x : AVal} {L R : List (List AVal)} {l : List Ob}
end
def zem (l : Line) : Bool :=
 decide (0 < l.Id) && zbb l.Item && decide (0 < l.Qty ∧ l.Qty ≤ 1073741824 ∧ 0 ≤ l.zu1 ∧ l.zu1 ≤ 4000 ∧ 0 ≤ l.Rank ∧ l.Rank ≤ 99 ∧ (1 : Int) ≤ l.State.toNat ∧ (l.State.toNat : Int) ≤ 3) &&
 bif decide (l.Day = -1) then decide (l.Code = []) && !decide ((l.State.toNat : Int) = 2) else decide (0 ≤ l.Day ∧ l.Day ≤ 4000) && zbb l.Code && !decide ((l.State.toNat : Int) = 3)
def zeg.Spec (C : CSem) (N : Nat → Nat) : Prop := ∀ (l : Line) (h : za) (Q : AVal → za → Prop), Q (.bool (zem l)) h → C (N 179) [.agg l.cs] h Q
theorem zeg.spec (i : zeg.Imp C N) (s1 : zb3.Spec C N) : zeg.Spec C N := by
 intro l h Q hq
 apply i
 have e : ∀ b, zem l = b → dn Q (.bool b) h := fun b hb => by rw [← hb]; exact zj hq
 simp +contextual -dsimp
 refine B.zea (fun _ _ hq => s1 _ _ _ hq) ?_
 simp +contextual -dsimp
 refine B.ze (fun h1 => ?_) (fun h1 => ?_)
 ·refine e _ ?_
  simp at h1
  unfold zem
  cases hc : zbb l.Item
  ·simp
  ·simp [hc] at h1 ⊢; omega
 simp +contextual -dsimp
 refine B.ze (fun h2 => ?_) (fun h2 => ?_)
 ·refine e _ ?_
  simp at h2
  unfold zem
  simp; omega
 simp +contextual -dsimp
 have e2 : ∀ b, (bif decide (l.Day = -1) then decide (l.Code = []) && !decide ((l.State.toNat : Int) = 2) else decide (0 ≤ l.Day ∧ l.Day ≤ 4000) && zbb l.Code && !decide ((l.State.toNat : Int) = 3)) = b → dn Q (.bool b) h := fun b hb => by
  refine e _ ?_
  rw [← hb]
  unfold zem
  simp at h1 h2
  cases hc : zbb l.Item
  ·simp [hc] at h1
  ·simp [hc] at h1 ⊢
   intro
   omega
 refine B.ze (fun h3 => ?_) (fun h3 => ?_)
 ·simp +contextual -dsimp
  refine e2 _ ?_
  rw [h3]; simp
 ·have h3' : decide (l.Day = -1) = false := h3
  simp +contextual -dsimp
  refine B.zea (fun _ _ hq => s1 _ _ _ hq) ?_
  simp +contextual -dsimp
  refine e2 _ ?_
  rw [h3']
  simp [Bool.decide_and, Bool.and_assoc]
def zd2.Spec (C : CSem) (N : Nat → Nat) : Prop := ∀ (l : Line) (h : za) (Q : AVal → za → Prop), Q (.bool (zem l)) h → C (N 180) [.agg l.cs] h Q
theorem zd2.spec (i : zd2.Imp C N) (s1 : zbu.Spec C N) : zd2.Spec C N := by
 intro l h Q hq
 apply i
 have e : ∀ b, zem l = b → dn Q (.bool b) h := fun b hb => by rw [← hb]; exact zj hq
 simp +contextual -dsimp
 refine B.zea (fun _ _ hq => s1 _ _ _ hq) ?_
 simp +contextual -dsimp
 refine B.ze (fun h1 => ?_) (fun h1 => ?_)
 ·refine e _ ?_
  simp at h1
  unfold zem
  cases hc : zbb l.Item
  ·simp
  ·simp [hc] at h1 ⊢; omega
 simp +contextual -dsimp
 refine B.zea (fun _ _ hq => s1 _ _ _ hq) ?_
 simp +contextual -dsimp
 have e2 : ∀ b, (decide ((1 : Int) ≤ l.State.toNat ∧ (l.State.toNat : Int) ≤ 3) && bif decide (l.Day = -1) then decide (l.Code = []) && !decide ((l.State.toNat : Int) = 2) else decide (0 ≤ l.Day ∧ l.Day ≤ 4000) && zbb l.Code && !decide ((l.State.toNat : Int) = 3)) = b → dn Q (.bool b) h := fun b hb => by
  refine e _ ?_
  rw [← hb]
  unfold zem
  simp at h1
  cases hc : zbb l.Item
  ·simp [hc] at h1
  ·simp [hc] at h1
   have a1 : decide (0 < l.Id) = true := by rw [decide_eq_true_eq]; omega
   have a3 : decide (0 < l.Qty ∧ l.Qty ≤ 1073741824 ∧ 0 ≤ l.zu1 ∧ l.zu1 ≤ 4000 ∧ 0 ≤ l.Rank ∧ l.Rank ≤ 99 ∧ (1 : Int) ≤ l.State.toNat ∧ (l.State.toNat : Int) ≤ 3) = decide ((1 : Int) ≤ l.State.toNat ∧ (l.State.toNat : Int) ≤ 3) := by
    rw [decide_eq_decide]; omega
   rw [a1, a3]; rfl
 have cn : l.Code = [] → zbb l.Code = false := fun e => by rw [e]; rfl
 refine B.ze (fun h3 => ?_) (fun h3 => ?_)
 ·simp +contextual -dsimp
  refine e2 _ ?_
  simp at h3
  by_cases hd : l.Day = -1 <;> by_cases hc : l.Code = [] <;> simp [h3, hd, hc, cn, Bool.decide_and]
 simp +contextual -dsimp
 simp at h3
 refine B.ze (fun h4 => ?_) (fun h4 => ?_)
 ·simp +contextual -dsimp
  refine e2 _ ?_
  simp at h4
  by_cases hd : l.Day = -1 <;> by_cases hc : l.Code = [] <;> simp [h4, hd, hc, cn, Bool.decide_and]
 simp +contextual -dsimp
 simp at h4
 refine B.ze (fun h5 => ?_) (fun h5 => ?_)
 ·simp +contextual -dsimp
  refine e2 _ ?_
  simp at h5
  by_cases hd : l.Day = -1 <;> by_cases hc : l.Code = [] <;> simp [h5, hd, hc, cn, Bool.decide_and]
 ·simp at h5
  refine e2 _ ?_
  have : decide ((1 : Int) ≤ l.State.toNat ∧ (l.State.toNat : Int) ≤ 3) = false := by rw [decide_eq_false_iff_not]; omega
  rw [this]; rfl
structure Sta where
 Now : Int
 zhx : Int
 zgq : Int
 zd9 : List Itm
 Lots : List Lot
 zd8 : List Line
 deriving DecidableEq
def zk8 (most : Nat) (l : List (List UInt8)) : Bool := l.all zbb && (decide l.Nodup && decide (l.length ≤ most))
def qtyB (x : Itm) : Bool := x.zdd.all fun p => decide (1 ≤ p.Qty) && decide (p.Qty ≤ 1073741824)
def zia (x : Itm) : Bool := zk8 5 (x.Code :: x.zck) && bif decide (x.zdd = []) then decide (0 < x.Life) && decide (x.Life ≤ 2000) else qtyB x && (decide (x.Life = 0) && zk8 8 (ztx x))
def zje {T : Type} (lt : T → T → Bool) (x : T) : Option T → Bool
 | some y => lt y x
 | none => true
def ordB {T : Type} (ok : T → Bool) (lt : T → T → Bool) : Option T → List T → Bool
 | _, [] => true
 | p, x :: r => (ok x && zje lt x p) && ordB ok lt (some x) r
def zue (l : List Itm) : Bool := ordB zia (fun a b => zrj a.Code b.Code) none l
def lotsB (l : List Lot) : Bool := ordB zfm (fun a b => decide (a.Id < b.Id)) none l
def linesB (l : List Line) : Bool := ordB zem (fun a b => decide (a.Id < b.Id)) none l
def numsB (s : Sta) : Bool := (((((decide (0 ≤ s.Now) && decide (s.Now ≤ 4000)) && decide (0 < s.zhx)) && decide (s.zhx ≤ 4611686018427387904)) && decide (0 < s.zgq)) && decide (s.zgq ≤ 4611686018427387904))
def zgx (s : Sta) : Bool := numsB s && (zue s.zd9 && (lotsB s.Lots && linesB s.zd8))
def zlk (x : Itm) : List UInt8 := be x.Life 2 ++ (byt x.zdd.length :: ((x.zdd.flatMap fun p => zdq p.Item ++ be p.Qty 4) ++ (byt x.zck.length :: x.zck.flatMap zdq)))
def lotVal (l : Lot) : List UInt8 := zdq l.Item ++ (be l.From 2 ++ (be l.zog 2 ++ (be l.Qty 4 ++ [bif l.zj7 then 1 else 0])))
def lineVal (l : Line) : List UInt8 := zdq l.Item ++ (be l.Qty 4 ++ (be l.zu1 2 ++ ([byt l.Rank, l.State] ++ (be (l.Day + 1) 2 ++ zdq l.Code))))
def zll (x : Itm) : Row := ⟨105 :: x.Code, zlk x⟩
def zlt (l : Lot) : Row := ⟨108 :: be l.Id 8, lotVal l⟩
def zi4 (l : Line) : Row := ⟨111 :: be l.Id 8, lineVal l⟩
def zid (s : Sta) : List Row := [⟨[42, 100, 97, 121], be s.Now 2⟩, ⟨[42, 108, 105, 110, 101], be s.zgq 8⟩, ⟨[42, 108, 111, 116], be s.zhx 8⟩]
def zq3 (s : Sta) : List Row := zid s ++ (s.zd9.map zll ++ (s.Lots.map zlt ++ s.zd8.map zi4))
def allRows (s : Sta) : List Row := bif zgx s then zq3 s else []
variable {C : CSem}
section
variable {E : zf0} {X : Type} {cs : X → List AVal} {v : X → AVal} {h0 h : za} {x f : AVal} {G : List X} {R : List (List AVal)} {c : X → X → Int}
theorem addNN {a b : Nat} (h : a + b < 4611686018427387904) : V.bin .add (.int .i64 (a : Int)) (.int .i64 (b : Int)) = some (.int .i64 ((a + b : Nat) : Int)) := by
 rw [V.zet, show (a : Int) + (b : Int) = ((a + b : Nat) : Int) by simp, wrap_i64 (by omega) (by omega)]
theorem subNN {a b : Nat} (h : b ≤ a) (h2 : a < 4611686018427387904) : V.bin .sub (.int .i64 (a : Int)) (.int .i64 (b : Int)) = some (.int .i64 ((a - b : Nat) : Int)) := by
 rw [V.zi5, show (a : Int) - (b : Int) = ((a - b : Nat) : Int) by omega, wrap_i64 (by omega) (by omega)]
end
structure Rdr where
 at_ : Nat
 bad : Bool
def zsv (l : List UInt8) : Nat := l.foldl (fun n c => 256 * n + c.toNat) 0
theorem zrw (l : List UInt8) (c : UInt8) : zsv (l ++ [c]) = 256 * zsv l + c.toNat := by simp [zsv]
def rNum (b : List UInt8) (k : Nat) (r : Rdr) : Int × Rdr := if r.bad = true ∨ b.length - r.at_ < k then (0, ⟨r.at_, true⟩) else (IntKind.i64.wrap (zsv ((b.drop r.at_).take k)), ⟨r.at_ + k, false⟩)
def zgv (b : List UInt8) (r : Rdr) : List UInt8 × Rdr := if r.bad then ([], r) else ((zgg (b.drop r.at_)).1, ⟨r.at_ + (zgg (b.drop r.at_)).2.1, !(zgg (b.drop r.at_)).2.2⟩)
theorem zgb {b : List UInt8} {k : Nat} {r : Rdr} (h : r.at_ ≤ b.length) : (rNum b k r).2.at_ ≤ b.length := by
 unfold rNum; split
 ·exact h
 ·rename_i hh; simp only [not_or] at hh; simp only; omega
theorem zrq : ∀ b : List UInt8, (zgg b).2.1 ≤ b.length
 | [] => by simp [zgg]
 | c :: r => by rw [zkm]; split <;> simp; rename_i hh; simp only [not_or] at hh; omega
theorem rCode_le {b : List UInt8} {r : Rdr} (h : r.at_ ≤ b.length) : (zgv b r).2.at_ ≤ b.length := by
 unfold zgv; split
 ·exact h
 ·have := zrq (b.drop r.at_); simp at this ⊢; omega
abbrev RdAt (h0 h : za) (p x : AVal) (r : Rdr) : Prop := Owns h0 h [.box p [x, .int .i64 (r.at_ : Int), .bool r.bad]]
theorem or_add (n c : Int) (hc0 : 0 ≤ c) (hc : c < 256) : V.bin .or (.int .i64 (IntKind.i64.wrap (n * 256))) (.int .i64 c) = some (.int .i64 (IntKind.i64.wrap (256 * n + c))) := by
 have key : (BitVec.ofInt 64 (IntKind.i64.wrap (n * 256)) ||| BitVec.ofInt 64 c) = BitVec.ofInt 64 (256 * n + c) := by
  have e1 : BitVec.ofInt 64 (IntKind.i64.wrap (n * 256)) = BitVec.ofInt 64 n <<< 8 := by
   apply BitVec.eq_of_toInt_eq
   rw [IntKind.wrap_i64, BitVec.toInt_shiftLeft, BitVec.toInt_ofInt, BitVec.toNat_ofInt]
   simp only [Int.bmod, Nat.shiftLeft_eq]
   omega
  have e2 : BitVec.ofInt 64 (256 * n + c) = (BitVec.ofInt 64 n <<< 8) + BitVec.ofInt 64 c := by
   apply BitVec.eq_of_toInt_eq
   rw [BitVec.toInt_add, BitVec.toInt_shiftLeft, BitVec.toInt_ofInt, BitVec.toInt_ofInt, BitVec.toNat_ofInt]
   simp only [Int.bmod, Nat.shiftLeft_eq]
   omega
  rw [e1, e2]
  symm
  apply BitVec.add_eq_or_of_and_eq_zero
  apply BitVec.eq_of_getLsbD_eq
  intro i hi
  simp only [BitVec.getLsbD_and, BitVec.getLsbD_shiftLeft, BitVec.getLsbD_zero]
  by_cases h8 : i < 8
  ·simp [h8]
  ·have : (BitVec.ofInt 64 c).getLsbD i = false := by
    rw [BitVec.getLsbD, BitVec.toNat_ofInt]
    apply Nat.testBit_lt_two_pow
    have h1 : (c % ((2 ^ 64 : Nat) : Int)).toNat = c.toNat := by omega
    rw [h1]
    have h2 : 2 ^ 8 ≤ 2 ^ i := Nat.pow_le_pow_right (by omega) (by omega)
    omega
   rw [this, Bool.and_false]
 simp only [V.bin, V.arith, if_true]
 show some (AVal.int .i64 (IntKind.i64.wrap ((BitVec.ofInt 64 (IntKind.i64.wrap (n * 256)) ||| BitVec.ofInt 64 c).toNat : Int))) = _
 rw [key]
 congr 2
 rw [IntKind.wrap_i64, IntKind.wrap_i64, BitVec.toNat_ofInt]
 omega
theorem bin_shl {k j : IntKind} {a b : Int} (h0 : 0 ≤ b) (h1 : b < k.bits) : V.bin .shl (.int k a) (.int j b) = some (.int k (k.wrap (a * 2 ^ b.toNat))) := by
 simp only [V.bin, V.shift]
 rw [if_neg (by omega), Nat.min_eq_left (by omega)]
theorem wrap_wrap (n c : Int) : IntKind.i64.wrap (256 * IntKind.i64.wrap n + c) = IntKind.i64.wrap (256 * n + c) := by
 simp only [IntKind.wrap_i64]; omega
def zm.Spec (C : CSem) (N : Nat → Nat) : Prop := ∀ (h0 h : za) (p x : AVal) (b : List UInt8) (R : List (List AVal)) (r : Rdr) (k : Nat) (Q : AVal → za → Prop), SlX h0 1 x (b.map bc) R → b.length < 4611686018427387904 → r.at_ ≤ b.length → k ≤ 8 → RdAt h0 h p x r →
 (∀ h', RdAt h0 h' p x (rNum b k r).2 → Q (.int .i64 (rNum b k r).1) h') → C (N 65) [p, .int .i64 (k : Int)] h Q
theorem zm.spec (i : zm.Imp C N) : zm.Spec C N := by
 intro h0 h p x b R r k Q hx hb hr hk ho hq
 apply i
 obtain ⟨id, rfl, hbx⟩ := ho.zhi 0 rfl
 have hx1 := hx.mono ho.le
 have hlx := hx1.zi
 rw [List.length_map] at hlx
 have ew : IntKind.i64.wrap ((b.length : Int) - r.at_) = (b.length : Int) - r.at_ := wrap_i64 (by omega) (by omega)
 simp +contextual -dsimp [zeu hbx, hlx, ew]
 refine ho.zrr 0 rfl rfl (by simp) fun h1 ho1 _ => ?_
 obtain ⟨id', e, hbx1⟩ := ho1.zhi 0 rfl
 cases e
 have hx2 := hx.mono ho1.le
 simp +contextual -dsimp [zeu hbx1]
 refine B.ze (fun h2 => ?_) (fun h2 => ?_)
 ·have e1 : rNum b k r = (0, ⟨r.at_, true⟩) := by unfold rNum; rw [if_pos]; cases hbad : r.bad <;> simp [hbad] at h2 ⊢; omega
  rw [e1] at hq
  refine zj (hq _ ?_)
  simpa [h2] using ho1
 ·have hbad : r.bad = false := by cases hbad : r.bad <;> simp [hbad] at h2 ⊢
  have hlt : r.at_ + k ≤ b.length := by simp [hbad] at h2; omega
  have e1 : rNum b k r = (IntKind.i64.wrap (zsv ((b.drop r.at_).take k)), ⟨r.at_ + k, false⟩) := by unfold rNum; rw [if_neg]; simp [hbad]; omega
  rw [e1] at hq
  have ea : IntKind.i64.wrap ((r.at_ : Int) + k) = ((r.at_ + k : Nat) : Int) := by rw [wrap_i64 (by omega) (by omega)]; omega
  obtain ⟨z, R', e2, e3, _⟩ := hx2.zjq (by omega) (lo := r.at_) (hi := r.at_ + k) (a := some (.int .i64 (r.at_ : Int))) (b := some (.int .i64 ((r.at_ + k : Nat) : Int))) (.inr ⟨_, rfl⟩) (.inr ⟨_, rfl⟩) (by omega) (by omega)
  have e4 : (b.take (r.at_ + k)).drop r.at_ = (b.drop r.at_).take k := by rw [List.drop_take]; congr 1; omega
  rw [e4] at e3
  have hlz := e3.zi
  have hln : ((b.drop r.at_).take k).length = k := by simp; omega
  rw [List.length_map, hln] at hlz
  simp -dsimp only [zm.k4, B.zg3, V.zgp, B.zf, B.zh0, zeu hbx1, Nat.zero_add, List.getElem?_cons_zero, List.set, List.getElem?_cons_succ, V.zet, ea, e2, hlz]
  refine zg.intro (fun n vs hh => ∃ j : Nat, j + n = k ∧ vs = [.int .i64 (IntKind.i64.wrap (zsv (((b.drop r.at_).take k).take j))), .int .i64 j] ∧ hh = h1) k ?_ ⟨0, by simp, by simp [zsv]; rfl, rfl⟩
  rintro Y n vs hh ⟨j, hn, rfl, rfl⟩ hY
  simp +contextual -dsimp
  refine B.ze (fun h3 => ?_) (fun h3 => ?_) <;> simp at h3
  ·obtain ⟨c, hc⟩ := zc6 (L := (b.drop r.at_).take k) (k := j) (by omega)
   have hj : j < (((b.drop r.at_).take k).map bc).length := by rw [List.length_map]; omega
   have hcl := u8_lt c
   have ec : IntKind.i64.wrap (c.toNat : Int) = c.toNat := wrap_i64 (by omega) (by omega)
   have e5 := e3.cell (get_map hc)
   have e6 : bS.c c = .int .u8 c.toNat := rfl
   simp +contextual -dsimp [e3.idxN hj, e5, e6, bin_shl (k := .i64) (j := .u64) (b := 8) (by omega) (by simp [IntKind.bits]), ec]
   rw [or_add _ _ (by omega) (by omega)]
   simp +contextual -dsimp [zhg (n := j) (by omega)]
   refine hY (n - 1) _ _ (by omega) ⟨j + 1, by omega, ?_, rfl⟩
   rw [take_succ hc, zrw, wrap_wrap]
   simp
  ·have hjk : j = k := by omega
   subst hjk
   rw [List.take_take, Nat.min_self]
   simp -dsimp only [zm.k1, B.zg3, V.zgp, B.zf, B.zh0, zeu hbx1, Nat.zero_add, List.getElem?_cons_zero, List.set, List.getElem?_cons_succ, V.zet, ea]
   refine ho1.zrr 0 rfl rfl (by simp) fun h4 ho4 _ => zj (hq _ ?_)
   show Owns h0 h4 [.box _ [x, .int .i64 ((r.at_ + j : Nat) : Int), .bool false]]
   simpa [h2] using ho4
def zbs.Spec (C : CSem) (N : Nat → Nat) : Prop := ∀ (h0 h : za) (p x : AVal) (b : List UInt8) (R : List (List AVal)) (r : Rdr) (Q : AVal → za → Prop), SlX h0 1 x (b.map bc) R → b.length < 4611686018427387904 → r.at_ ≤ b.length → RdAt h0 h p x r →
 (∀ h', RdAt h0 h' p x (zgv b r).2 → Q (.str (zgv b r).1) h') → C (N 66) [p] h Q
theorem zbs.spec (i : zbs.Imp C N) (s1 : zfn.Spec C N) : zbs.Spec C N := by
 intro h0 h p x b R r Q hx hb hr ho hq
 apply i
 obtain ⟨id, rfl, hbx⟩ := ho.zhi 0 rfl
 have hx1 := hx.mono ho.le
 simp +contextual -dsimp [zeu hbx]
 refine B.ze (fun h2 => ?_) (fun h2 => ?_)
 ·rw [show zgv b r = ([], r) by simp [zgv, h2]] at hq
  exact zj (hq _ ho)
 ·rw [show zgv b r = ((zgg (b.drop r.at_)).1, ⟨r.at_ + (zgg (b.drop r.at_)).2.1, !(zgg (b.drop r.at_)).2.2⟩) by simp [zgv, h2]] at hq
  obtain ⟨z, R', e2, e3, _⟩ := hx1.zjq (by omega) (lo := r.at_) (hi := b.length) (a := some (.int .i64 (r.at_ : Int))) (b := none) (.inr ⟨_, rfl⟩) (.inl ⟨rfl, rfl⟩) (by omega) (by omega)
  rw [List.take_length] at e3
  have hle := zrq (b.drop r.at_)
  rw [List.length_drop] at hle
  simp +contextual -dsimp [zeu hbx, e2]
  refine s1 z _ _ _ _ e3 (by simp; omega) ?_
  simp +contextual -dsimp
  refine ho.zrr 0 rfl rfl (by simp) fun h1 ho1 _ => ?_
  obtain ⟨id', e, hbx1⟩ := ho1.zhi 0 rfl
  cases e
  have ea : IntKind.i64.wrap ((r.at_ : Int) + (zgg (b.drop r.at_)).2.1) = ((r.at_ + (zgg (b.drop r.at_)).2.1 : Nat) : Int) := by rw [wrap_i64 (by omega) (by omega)]; omega
  simp -dsimp only [B.zg3, V.zgp, B.zf, B.zh0, zeu hbx1, Nat.zero_add, List.getElem?_cons_zero, List.getElem?_cons_succ, List.set, V.zet, ea]
  exact ho1.zrr 0 rfl rfl (by simp) fun h4 ho4 _ => zj (hq _ ho4)
def rLot (b : List UInt8) (r : Rdr) : Lot × Rdr :=
 let a := rNum b 8 r
 let c := zgv b a.2
 let f := rNum b 2 c.2
 let u := rNum b 2 f.2
 let q := rNum b 8 u.2
 let e := rNum b 1 q.2
 (⟨a.1, c.1, f.1, u.1, q.1, decide (e.1 = 1)⟩, ⟨e.2.at_, e.2.bad || decide (1 < e.1)⟩)
theorem rLot_le {b : List UInt8} {r : Rdr} (h : r.at_ ≤ b.length) : (rLot b r).2.at_ ≤ b.length :=
 zgb (zgb (zgb (zgb (rCode_le (zgb h)))))
def rUse (b : List UInt8) (r : Rdr) : Use × Rdr :=
 let a := rNum b 8 r
 let c := rNum b 8 a.2
 let f := rNum b 8 c.2
 (⟨a.1, c.1, f.1⟩, f.2)
theorem rUse_le {b : List UInt8} {r : Rdr} (h : r.at_ ≤ b.length) : (rUse b r).2.at_ ≤ b.length := zgb (zgb (zgb h))
def zb6.Spec (C : CSem) (N : Nat → Nat) : Prop := ∀ (h0 h : za) (p x : AVal) (b : List UInt8) (R : List (List AVal)) (r : Rdr) (Q : AVal → za → Prop), SlX h0 1 x (b.map bc) R → b.length < 4611686018427387904 → r.at_ ≤ b.length → RdAt h0 h p x r →
 (∀ h', RdAt h0 h' p x (rLot b r).2 → Q (.agg (rLot b r).1.cs) h') → C (N 67) [p] h Q
theorem zb6.spec (i : zb6.Imp C N) (s1 : zm.Spec C N) (s2 : zbs.Spec C N) : zb6.Spec C N := by
 intro h0 h p x b R r Q hx hb hr ho hq
 apply i
 simp +contextual -dsimp
 refine s1 h0 h p x b R r 8 _ hx hb hr (by omega) ho fun h1 ho1 => ?_
 have l1 := zgb (k := 8) hr
 refine s2 h0 h1 p x b R _ _ hx hb l1 ho1 fun h2 ho2 => ?_
 have l2 := rCode_le l1
 simp +contextual -dsimp
 refine s1 h0 h2 p x b R _ 2 _ hx hb l2 (by omega) ho2 fun h3 ho3 => ?_
 have l3 := zgb (k := 2) l2
 refine s1 h0 h3 p x b R _ 2 _ hx hb l3 (by omega) ho3 fun h4 ho4 => ?_
 have l4 := zgb (k := 2) l3
 simp +contextual -dsimp
 refine s1 h0 h4 p x b R _ 8 _ hx hb l4 (by omega) ho4 fun h5 ho5 => ?_
 have l5 := zgb (k := 8) l4
 simp +contextual -dsimp
 refine s1 h0 h5 p x b R _ 1 _ hx hb l5 (by omega) ho5 fun h6 ho6 => ?_
 obtain ⟨id, rfl, hbx⟩ := ho6.zhi 0 rfl
 simp +contextual -dsimp [zeu hbx]
 refine ho6.zrr 0 rfl rfl (by simp) fun h7 ho7 _ => ?_
 simp +contextual -dsimp
 exact zj (hq _ ho7)
def zb5.Spec (C : CSem) (N : Nat → Nat) : Prop := ∀ (h0 h : za) (p x : AVal) (b : List UInt8) (R : List (List AVal)) (r : Rdr) (Q : AVal → za → Prop), SlX h0 1 x (b.map bc) R → b.length < 4611686018427387904 → r.at_ ≤ b.length → RdAt h0 h p x r →
 (∀ h', RdAt h0 h' p x (rUse b r).2 → Q (.agg (rUse b r).1.cs) h') → C (N 69) [p] h Q
theorem zb5.spec (i : zb5.Imp C N) (s1 : zm.Spec C N) : zb5.Spec C N := by
 intro h0 h p x b R r Q hx hb hr ho hq
 apply i
 simp +contextual -dsimp
 refine s1 h0 h p x b R r 8 _ hx hb hr (by omega) ho fun h1 ho1 => ?_
 have l1 := zgb (k := 8) hr
 refine s1 h0 h1 p x b R _ 8 _ hx hb l1 (by omega) ho1 fun h2 ho2 => ?_
 have l2 := zgb (k := 8) l1
 refine s1 h0 h2 p x b R _ 8 _ hx hb l2 (by omega) ho2 fun h3 ho3 => ?_
 simp +contextual -dsimp
 exact zj (hq _ ho3)
section
variable {X : Type} {c : X → X → Int} {a b m A0 Z0 : Nat} {G G' : List X}
end
abbrev I5 (F : AVal → AVal → AVal → AVal → AVal → za → (AVal → za → Prop) → Prop) (C : CSem) (n : Nat) : Prop := ∀ (v0 v1 v2 v3 v4 : AVal) (h : za) (Q : AVal → za → Prop), F v0 v1 v2 v3 v4 h (dn Q) → C n [v0, v1, v2, v3, v4] h Q
abbrev I4 (F : AVal → AVal → AVal → AVal → za → (AVal → za → Prop) → Prop) (C : CSem) (n : Nat) : Prop := ∀ (v0 v1 v2 v3 : AVal) (h : za) (Q : AVal → za → Prop), F v0 v1 v2 v3 h (dn Q) → C n [v0, v1, v2, v3] h Q
section
variable {E : zf0} {X : Type} {cs : X → List AVal} {v : X → AVal} {h0 h : za} {x f : AVal} {G : List X} {R : List (List AVal)} {c : X → X → Int} {Q : AVal → za → Prop} {Y : List AVal → za → Prop} {f1 f2 f3 f4 f5 f6 f7 f8 f9 g1 g2 g3 g4 g5 g6 : Nat}
end
end Go.Ab
set_option maxRecDepth 100000
namespace Go.Ab
def Cst (C : CSem) : CSem := fun f args h Q => C f args.dropLast h Q
abbrev J4 (F : AVal → AVal → AVal → AVal → za → (AVal → za → Prop) → Prop) (C : CSem) (n : Nat) : Prop := ∀ (v0 v1 v2 v3 : AVal) (h : za) (Q : AVal → za → Prop), F v0 v1 v2 v3 h (dn Q) → C n [v0, v1, v2, v3] h Q
abbrev J3 (F : AVal → AVal → AVal → za → (AVal → za → Prop) → Prop) (C : CSem) (n : Nat) : Prop := ∀ (v0 v1 v2 : AVal) (h : za) (Q : AVal → za → Prop), F v0 v1 v2 h (dn Q) → C n [v0, v1, v2] h Q
theorem e4 {F : AVal → AVal → AVal → AVal → AVal → za → (AVal → za → Prop) → Prop} {G : AVal → AVal → AVal → AVal → za → (AVal → za → Prop) → Prop} {C : CSem} {f : Nat} (i : J4 G C f) (e : ∀ v0 v1 v2 v3 v4 h Q, F v0 v1 v2 v3 v4 h Q = G v0 v1 v2 v3 h Q) : I5 F (Cst C) f :=
 fun v0 v1 v2 v3 v4 h Q x => i v0 v1 v2 v3 h Q (by rw [← e v0 v1 v2 v3 v4]; exact x)
theorem e3 {F : AVal → AVal → AVal → AVal → za → (AVal → za → Prop) → Prop} {G : AVal → AVal → AVal → za → (AVal → za → Prop) → Prop} {C : CSem} {f : Nat} (i : J3 G C f) (e : ∀ v0 v1 v2 v3 h Q, F v0 v1 v2 v3 h Q = G v0 v1 v2 h Q) : I4 F (Cst C) f :=
 fun v0 v1 v2 v3 h Q x => i v0 v1 v2 h Q (by rw [← e v0 v1 v2 v3]; exact x)
section
variable {C : CSem} {E : zf0} {fL e p q s r v b k n ad md o2 sd nx pw : Nat}
end
variable {C : CSem}
def Iter (C : CSem) (g : Nat) (first caps : List AVal) (D : za → Prop) (xs : List (List AVal)) : Prop :=
 ∀ (id : Nat) (I : Nat → za → Prop) (Z : za → Prop) (h : za) (Q : AVal → za → Prop), (∀ k h, I k h → D h) →
  (∀ k x h, xs[k]? = some x → I k h → C zoh (mkY id :: x) h fun v h' => (v = .bool true ∧ I (k + 1) h') ∨ (v = .bool false ∧ Z h')) →
  I 0 h → (∀ h, I xs.length h → Q (.tup []) h) → (∀ h, Z h → Q (.tup []) h) → C g (first ++ [.yld id] ++ caps) h Q
theorem range_iter {g : Nat} {first caps : List AVal} {D : za → Prop} {xs : List (List AVal)} {W : List AVal → za → (Nat → za → Prop) → Prop} {h : za} {K : Nat → za → Prop} (hi : Iter C g first caps D xs) (hD : ∀ h h', h.le h' → D h → D h')
  (J X : Nat → za → Prop) (hJ : ∀ k h, J k h → D h) (round : ∀ k x h E, xs[k]? = some x → J k h → (∀ h', J (k + 1) h' → E 0 h') → (∀ j h', X j h' → E (j + 1) h') → W x h E)
  (h0 : J 0 h) (hend : ∀ h, J xs.length h → K 0 h) (hX : ∀ j h, X j h → K (j + 1) h) : zvt C (.fn g first caps) W h K := by
 intro mk _ id hid hround
 refine hi id (fun k h2 => ∃ h1 : za, h1 id = none ∧ h2 = upd h1 id (mk 0) ∧ J k h1) (fun h2 => ∃ (j : Nat) (h1 : za), h1 id = none ∧ h2 = upd h1 id (mk (j + 1)) ∧ X j h1) _ _ ?_ ?_ ⟨h, hid, rfl, h0⟩ ?_ ?_
 ·rintro k _ ⟨h1, e, rfl, hj⟩
  exact hD _ _ (zha _ e) (hJ k h1 hj)
 ·rintro k x _ hx ⟨h1, e, rfl, hj⟩
  exact hround x h1 _ e (round k x h1 _ hx hj (fun h' hj' => ⟨h', za.le_refl h', fun e' => .inl ⟨rfl, h', e', rfl, hj'⟩⟩) fun j h' hx' => ⟨h', za.le_refl h', fun e' => .inr ⟨rfl, j, h', e', rfl, hx'⟩⟩)
 ·rintro _ ⟨h1, e, rfl, hj⟩
  exact ⟨0, h1, e, za.le_refl _, hend h1 hj⟩
 ·rintro _ ⟨j, h1, e, rfl, hx⟩
  exact ⟨j + 1, h1, e, za.le_refl _, hX j h1 hx⟩
theorem RK.here {k : Nat} {p : za → Prop} {r : List (Nat × (za → Prop))} {h : za} (x : p h) : RK ((k, p) :: r) k h := .inl ⟨rfl, x⟩
theorem B.callv_yld {id : Nat} {args : List AVal} {h : za} {K : AVal → za → Prop} : B.zj3 h C (.yld id) args K = C zoh (mkY id :: args) h K := rfl
variable {C : CSem} {N : Nat → Nat}
theorem Owns.cutTo {h0 h : za} {es : Nat} {x : AVal} {L R : List (List AVal)} (ho : Owns h0 h [.sl es x L R]) (hes : 0 < es) {k : Nat} (hk : k ≤ L.length) : ∃ y, V.zfs es x none (some (.int .i64 (k : Int))) = some y ∧ Owns h0 h [.sl es y (L.take k) (L.drop k ++ R)] := by
 obtain ⟨y, h1, h2, h3⟩ := (ho.slAt 0 rfl).slice hes (a := none) (b := some (.int .i64 (k : Int))) (lo := 0) (hi := k) (.inl ⟨rfl, rfl⟩) (.inr ⟨_, rfl⟩) (by omega) (by omega)
 rw [List.drop_zero, List.take_append_of_le_length hk, List.drop_append_of_le_length hk] at h2
 refine ⟨y, h1, ?_⟩
 have := ho.turn (h' := h) 0 rfl (o' := .sl es y (L.take k) (L.drop k ++ R)) h2 (fun id b hf hb => ho.zod 0 rfl id b (by rw [show Ob.foot (.sl es x L R) = foot x from rfl, ← h3]; exact hf) hb) (fun _ _ h _ => h) (.inl (by rw [show Ob.foot (.sl es y _ _) = foot y from rfl, h3]; rfl))
 simpa using this
theorem V.bin_slss (a b : List UInt8) : V.bin .lss (.str a) (.str b) = some (.bool (zrj a b)) := rfl
theorem repL_one : ∀ (n : Nat) (v : AVal), repL n [v] = List.replicate n v
 | 0, _ => rfl
 | n + 1, v => (congrArg (v :: ·) (repL_one n v)).trans rfl
theorem zoy {α : Type} {L : List (List α)} {k : Nat} (hk : k < L.length) : ((L.take (k + 1)).flatten).length = (L.take k).flatten.length + L[k].length := by
 rw [List.take_add_one, List.getElem?_eq_getElem hk]; simp only [Option.toList_some, List.flatten_append, List.length_append, List.flatten_singleton]
theorem zte {α : Type} (L : List (List α)) (k : Nat) : ((L.take k).flatten).length ≤ L.flatten.length := by
 conv => rhs; rw [← List.take_append_drop k L]
 simp only [List.flatten_append, List.length_append]; omega
def zce.Spec (C : CSem) (N : Nat → Nat) : Prop := ∀ (n : Int) (k : Nat) (h : za) (Q : AVal → za → Prop), k ≤ 8 →
 (∀ x' h', Owns h h' [.sl 1 x' ((be n k).map bc) []] → Q x' h') → C (N 423) [.int .i64 n, .int .i64 (k : Int)] h Q
theorem zce.spec (i : zce.Imp C N) : zce.Spec C N := by
 intro n k h Q hk hq
 apply i
 simp -dsimp only [zce.cps]
 refine ⟨by omega, ?_⟩
 refine (Owns.start h).mks (bytes := 1) (es := 1) rfl (by omega) (by omega) (by omega) (by omega) fun x h1 o1 => ?_
 simp only [Int.toNat_natCast, Nat.sub_self, zvj] at o1
 have hx1 := o1.slAt 0 rfl
 have hlx : V.zi x = some (.int .i64 (k : Int)) := by simpa using hx1.zi
 simp -dsimp only [hlx, B.zf]
 refine zg.intro (fun t vs hh => ∃ (j : Nat) (pre : List UInt8) (z : List (List AVal)), j + t = k ∧ vs = [.int .i64 (j : Int)] ∧ pre.length = j ∧ z.length = t ∧ pre ++ be n t = be n k ∧ Owns h hh [.sl 1 x (pre.map bc ++ z) []]) k ?_ ⟨0, [], _, by omega, rfl, rfl, by simp, rfl, o1⟩
 rintro Y t vs hh ⟨j, pre, z, ht, rfl, hpl, hzl, hpe, o⟩ hY
 simp -dsimp only [zce.l2, zce.k1, lssN, B.zf]
 refine B.ze (fun hb => ?_) (fun hb => ?_)
 ·rw [decide_eq_true_eq] at hb
  obtain ⟨t, rfl⟩ : ∃ u, t = u + 1 := ⟨t - 1, by omega⟩
  have e1 : V.bin .sub (.int .i64 (k : Int)) (.int .i64 1) = some (.int .i64 ((k - 1 : Nat) : Int)) := subNN (b := 1) (by omega) (by omega)
  have e2 : V.bin .sub (.int .i64 ((k - 1 : Nat) : Int)) (.int .i64 (j : Int)) = some (.int .i64 (t : Int)) := by
   rw [subNN (by omega) (by omega)]; congr 3; omega
  have e3 : V.bin .mul (.int .i64 8) (.int .i64 (t : Int)) = some (.int .i64 (8 * (t : Int))) := by rw [V.bin_mul, wrap_i64 (by omega) (by omega)]
  have e4 : V.bin .shr (.int .i64 n) (.int .i64 (8 * (t : Int))) = some (.int .i64 (n.fdiv (2 ^ (8 * t)))) := by
   rw [zrs (by omega) (by simp [IntKind.bits]; omega)]
   congr 4
  have e5 : V.toInt .u8 (.int .i64 (n.fdiv (2 ^ (8 * t)))) = some (.int .u8 ((byt (n.fdiv (2 ^ (8 * t)))).toNat : Int)) := by
   simp -dsimp [zke]
  obtain ⟨c, z', rfl⟩ : ∃ c z', z = c :: z' := by
   cases z with
   | nil => simp at hzl
   | cons c z' => exact ⟨c, z', rfl⟩
  have hxo := o.slAt 0 rfl
  have hjl : j < (pre.map bc ++ c :: z').length := by simp; omega
  have hidx : V.idxS 1 x (.int .i64 (j : Int)) = some (elp 1 x j 0) := hxo.idxN hjl
  have hg : (pre.map bc ++ c :: z')[j]? = some c := by
   rw [List.getElem?_append_right (by simp; omega)]; simp [hpl]
  have hcl : c.length = 1 := hxo.len c (by simp)
  obtain ⟨u, rfl⟩ := List.length_eq_one_iff.1 hcl
  simp -dsimp only [e1, e2, e3, e4, e5, hidx, B.zf]
  refine o.st 0 rfl hg (by omega) rfl fun h3 o3 _ => ?_
  simp -dsimp only [add1 (show j < 4611686018427387904 by omega), B.zf]
  refine hY t _ _ (by omega) ⟨j + 1, pre ++ [byt (n.fdiv (2 ^ (8 * t)))], z', by omega, rfl, by simp [hpl], by simpa using hzl, ?_, ?_⟩
  ·rw [← hpe, be, List.append_assoc]; rfl
  ·have e : (pre.map bc ++ [u] :: z').set j (([u] : List AVal).set 0 (.int .u8 ((byt (n.fdiv (2 ^ (8 * t)))).toNat : Int))) = (pre ++ [byt (n.fdiv (2 ^ (8 * t)))]).map bc ++ z' := by
    rw [List.set_append_right _ _ (by simp; omega)]
    simp [hpl]
    rfl
   rw [← e]; exact o3
 ·rw [decide_eq_false_iff_not] at hb
  have : t = 0 := by omega
  subst this
  rw [be, List.append_nil] at hpe
  have hz : z = [] := List.length_eq_zero_iff.1 hzl
  subst hz hpe
  rw [List.append_nil] at o
  exact zj (hq _ _ o)
def zfy {T : Type} (one : Rdr → T × Rdr) : Nat → Rdr → List T × Rdr
 | 0, r => ([], r)
 | n + 1, r => if r.bad then ([], r) else ((one r).1 :: (zfy one n (one r).2).1, (zfy one n (one r).2).2)
theorem rList_le {T : Type} {one : Rdr → T × Rdr} {m : Nat} (h1 : ∀ r : Rdr, r.at_ ≤ m → (one r).2.at_ ≤ m) : ∀ (n : Nat) (r : Rdr), r.at_ ≤ m → (zfy one n r).2.at_ ≤ m
 | 0, _, h => h
 | n + 1, r, h => by
  rw [zfy]; split
  ·exact h
  ·exact rList_le h1 n _ (h1 r h)
theorem zp7 {T : Type} (one : Rdr → T × Rdr) : ∀ (n : Nat) (r : Rdr), (zfy one n r).1.length ≤ n
 | 0, _ => by simp [zfy]
 | n + 1, r => by
  rw [zfy]; split
  ·simp
  ·have := zp7 one n (one r).2; simp; omega
theorem beVal_lt : ∀ (n : Nat) (l : List UInt8), l.length = n → zsv l < 256 ^ n
 | 0, l, h => by rw [List.length_eq_zero_iff.1 h]; simp [zsv]
 | n + 1, l, h => by
  have hne : l ≠ [] := fun e => by rw [e] at h; cases h
  obtain ⟨a, c, rfl⟩ : ∃ a c, l = a ++ [c] := ⟨l.dropLast, l.getLast hne, (List.dropLast_concat_getLast hne).symm⟩
  rw [zrw]
  have h1 := beVal_lt n a (by simp at h; exact h)
  have h2 := u8_lt c
  rw [Nat.pow_succ]
  omega
theorem rNum_2 (b : List UInt8) (r : Rdr) : 0 ≤ (rNum b 2 r).1 ∧ (rNum b 2 r).1 ≤ 65535 := by
 unfold rNum
 split
 ·simp
 ·rename_i h
  simp only [not_or] at h
  have := beVal_lt 2 ((b.drop r.at_).take 2) (by simp; omega)
  rw [wrap_i64 (by omega) (by omega)]
  omega
structure zpw (h0 : za) (x : AVal) (b : List UInt8) : Prop where
 is : ∃ R, SlX h0 1 x (b.map bc) R
 lt : b.length < 4611686018427387904
theorem zpw.mono {h0 h : za} {x : AVal} {b : List UInt8} (hr : zpw h0 x b) (hle : h0.le h) : zpw h x b := by
 obtain ⟨⟨R, a⟩, c⟩ := hr; exact ⟨⟨R, a.mono hle⟩, c⟩
def zbd.Spec (C : CSem) (N : Nat → Nat) : Prop := ∀ (h0 h : za) (p x : AVal) (b : List UInt8) (r : Rdr) (Q : AVal → za → Prop), zpw h0 x b → r.at_ ≤ b.length → RdAt h0 h p x r →
 (∀ y h', Owns h0 h' [.sl 6 y ((zfy (rLot b) (rNum b 2 r).1.toNat (rNum b 2 r).2).1.map Lot.cs) [], .box p [x, .int .i64 ((zfy (rLot b) (rNum b 2 r).1.toNat (rNum b 2 r).2).2.at_ : Int), .bool (zfy (rLot b) (rNum b 2 r).1.toNat (rNum b 2 r).2).2.bad]] → Q y h') → C (N 68) [p, .fn (N 67) [p] []] h Q
theorem zbd.spec (i : zbd.Imp C N) (s1 : zm.Spec C N) (s2 : zb6.Spec C N) : zbd.Spec C N := by
 intro h0 h p x b r Q hx hr ho hq
 apply i
 obtain ⟨⟨R, hxx⟩, hb⟩ := hx
 try simp +contextual -dsimp
 refine s1 h0 h p x b R r 2 _ hxx hb hr (by omega) ho fun h1 ho1 => ?_
 have l1 := zgb (k := 2) hr
 obtain ⟨n1, n2⟩ := rNum_2 b r
 generalize rNum b 2 r = a at *
 obtain ⟨z, r1⟩ := a
 simp only at n1 n2 l1 hq ho1 ⊢
 refine zg.intro (fun t vs hh => ∃ (o : AVal) (acc : List Lot) (r : Rdr), vs = [o, .int .i64 (t : Int)] ∧ t ≤ 65535 ∧ acc.length + t ≤ 65535 ∧ r.at_ ≤ b.length ∧ acc ++ (zfy (rLot b) t r).1 = (zfy (rLot b) z.toNat r1).1 ∧ (zfy (rLot b) t r).2 = (zfy (rLot b) z.toNat r1).2 ∧
   Owns h0 hh [.sl 6 o (acc.map Lot.cs) [], .box p [x, .int .i64 (r.at_ : Int), .bool r.bad]]) z.toNat ?_ ⟨.nils, [], r1, by rw [Int.toNat_of_nonneg n1], by omega, by simp; omega, l1, rfl, rfl, (ho1.nils 6).perm (List.Perm.swap ..)⟩
 rintro Y t vs hh ⟨o, acc, r, rfl, ht, hal, hr, e1, e2, ho⟩ hY
 obtain ⟨id, rfl, hbx⟩ := ho.zhi 1 rfl
 simp +contextual -dsimp [zeu hbx]
 refine B.ze (fun h2 => ?_) (fun h2 => ?_) <;> simp at h2
 ·obtain ⟨t, rfl⟩ : ∃ u, t = u + 1 := ⟨t - 1, by omega⟩
  simp only [zfy, h2.2, Bool.false_eq_true, if_false] at e1 e2
  obtain ⟨q1, q2⟩ := ho.out (l1 := [_]) (l2 := [_])
  try simp +contextual -dsimp
  refine s2 _ hh _ x b R r _ (hxx.mono q1.le) hb hr q2 fun h3 ho3 => ?_
  have ho4 := q1.join ho3
  try simp +contextual -dsimp
  refine ho4.push 0 rfl rfl (by omega) (by simp; omega) (by simp [maxLen]; omega) fun o' h5 ho5 _ => ?_
  have e4 : IntKind.i64.wrap (((t + 1 : Nat) : Int) - 1) = (t : Int) := by rw [wrap_i64 (by omega) (by omega)]; omega
  simp -dsimp only [V.zi5, e4, B.zf]
  refine hY t _ _ (by omega) ⟨o', acc ++ [(rLot b r).1], (rLot b r).2, rfl, by omega, by simp; omega, rLot_le hr, ?_, e2, ?_⟩
  ·rw [← e1, List.append_assoc]; rfl
  ·rw [List.map_append]; exact ho5
 ·have : (zfy (rLot b) t r) = ([], r) := by
   cases t with
   | zero => rfl
   | succ t => simp [zfy, h2 (by omega)]
  rw [this, List.append_nil] at e1
  rw [this] at e2
  subst e1
  rw [← e2] at hq
  exact zj (hq _ _ ho)
def zbc.Spec (C : CSem) (N : Nat → Nat) : Prop := ∀ (h0 h : za) (p x : AVal) (b : List UInt8) (r : Rdr) (Q : AVal → za → Prop), zpw h0 x b → r.at_ ≤ b.length → RdAt h0 h p x r →
 (∀ y h', Owns h0 h' [.sl 3 y ((zfy (rUse b) (rNum b 2 r).1.toNat (rNum b 2 r).2).1.map Use.cs) [], .box p [x, .int .i64 ((zfy (rUse b) (rNum b 2 r).1.toNat (rNum b 2 r).2).2.at_ : Int), .bool (zfy (rUse b) (rNum b 2 r).1.toNat (rNum b 2 r).2).2.bad]] → Q y h') → C (N 70) [p, .fn (N 69) [p] []] h Q
theorem zbc.spec (i : zbc.Imp C N) (s1 : zm.Spec C N) (s2 : zb5.Spec C N) : zbc.Spec C N := by
 intro h0 h p x b r Q hx hr ho hq
 apply i
 obtain ⟨⟨R, hxx⟩, hb⟩ := hx
 try simp +contextual -dsimp
 refine s1 h0 h p x b R r 2 _ hxx hb hr (by omega) ho fun h1 ho1 => ?_
 have l1 := zgb (k := 2) hr
 obtain ⟨n1, n2⟩ := rNum_2 b r
 generalize rNum b 2 r = a at *
 obtain ⟨z, r1⟩ := a
 simp only at n1 n2 l1 hq ho1 ⊢
 refine zg.intro (fun t vs hh => ∃ (o : AVal) (acc : List Use) (r : Rdr), vs = [o, .int .i64 (t : Int)] ∧ t ≤ 65535 ∧ acc.length + t ≤ 65535 ∧ r.at_ ≤ b.length ∧ acc ++ (zfy (rUse b) t r).1 = (zfy (rUse b) z.toNat r1).1 ∧ (zfy (rUse b) t r).2 = (zfy (rUse b) z.toNat r1).2 ∧
   Owns h0 hh [.sl 3 o (acc.map Use.cs) [], .box p [x, .int .i64 (r.at_ : Int), .bool r.bad]]) z.toNat ?_ ⟨.nils, [], r1, by rw [Int.toNat_of_nonneg n1], by omega, by simp; omega, l1, rfl, rfl, (ho1.nils 3).perm (List.Perm.swap ..)⟩
 rintro Y t vs hh ⟨o, acc, r, rfl, ht, hal, hr, e1, e2, ho⟩ hY
 obtain ⟨id, rfl, hbx⟩ := ho.zhi 1 rfl
 simp +contextual -dsimp [zeu hbx]
 refine B.ze (fun h2 => ?_) (fun h2 => ?_) <;> simp at h2
 ·obtain ⟨t, rfl⟩ : ∃ u, t = u + 1 := ⟨t - 1, by omega⟩
  simp only [zfy, h2.2, Bool.false_eq_true, if_false] at e1 e2
  obtain ⟨q1, q2⟩ := ho.out (l1 := [_]) (l2 := [_])
  try simp +contextual -dsimp
  refine s2 _ hh _ x b R r _ (hxx.mono q1.le) hb hr q2 fun h3 ho3 => ?_
  have ho4 := q1.join ho3
  try simp +contextual -dsimp
  refine ho4.push 0 rfl rfl (by omega) (by simp; omega) (by simp [maxLen]; omega) fun o' h5 ho5 _ => ?_
  have e4 : IntKind.i64.wrap (((t + 1 : Nat) : Int) - 1) = (t : Int) := by rw [wrap_i64 (by omega) (by omega)]; omega
  simp -dsimp only [V.zi5, e4, B.zf]
  refine hY t _ _ (by omega) ⟨o', acc ++ [(rUse b r).1], (rUse b r).2, rfl, by omega, by simp; omega, rUse_le hr, ?_, e2, ?_⟩
  ·rw [← e1, List.append_assoc]; rfl
  ·rw [List.map_append]; exact ho5
 ·have : (zfy (rUse b) t r) = ([], r) := by
   cases t with
   | zero => rfl
   | succ t => simp [zfy, h2 (by omega)]
  rw [this, List.append_nil] at e1
  rw [this] at e2
  subst e1
  rw [← e2] at hq
  exact zj (hq _ _ ho)
def zm3 (b : List UInt8) (e : Int) (r : Rdr) : zf3 × Rdr :=
 let i := rNum b 8 r
 let d := rNum b 2 i.2
 let c := zgv b d.2
 let s := rNum b 1 c.2
 let nl := rNum b 2 s.2
 let ls := zfy (rLot b) nl.1.toNat nl.2
 let nu := rNum b 2 ls.2
 let us := zfy (rUse b) nu.1.toNat nu.2
 (⟨e, i.1, d.1 - 1, c.1, byt s.1, ls.1, us.1⟩, us.2)
def zis (b : List UInt8) : zf3 × Rdr := if (rNum b 2 ⟨0, false⟩).1 = 0 then zm3 b (rNum b 2 ⟨0, false⟩).1 (rNum b 2 ⟨0, false⟩).2 else (⟨(rNum b 2 ⟨0, false⟩).1, 0, 0, [], 0, [], []⟩, (rNum b 2 ⟨0, false⟩).2)
def zm2 : zf3 := ⟨0, 0, 0, [], 0, [], []⟩
def zjp (b : List UInt8) : zf3 × Nat × Int := if (zis b).2.bad || !zf7 (zis b).1 then (zm2, 0, 4) else ((zis b).1, (zis b).2.at_, 0)
theorem Owns.boxStn {h0 h : za} {l : List Ob} (ho : Owns h0 h l) (k : Nat) {id n : Nat} {cs xs : List AVal} {K : za → Prop} (hk : l[k]? = some (.box (.ptr id 0 0) cs)) (hn : xs.length = n) (hc : cs.length = n)
  (hK : ∀ h', Owns h0 h' (l.set k (.box (.ptr id 0 0) xs)) → But (.ptr id 0 0) h h' → K h') : A.stn h (.ptr id 0 0) n (.agg xs) K := by
 obtain ⟨id', e, hb⟩ := ho.zhi k hk
 cases e
 rw [stn_at hb hn (by omega)]
 have e1 : cs.take 0 ++ xs ++ cs.drop (0 + n) = xs := by simp [← hc]
 rw [e1]
 have hbut : But (.ptr id 0 0) h (upd h id (zel xs)) := fun j b e1 e2 => by rw [zk]; exact e1; intro e; subst e; exact e2 rfl
 exact hK _ (ho.turn k hk ⟨id, rfl, z7 ..⟩ (fun j b hj hb' => by cases hj; rw [z7] at hb'; cases hb'; rfl) hbut (.inl rfl)) hbut
def zma (t : zf3) (r : Rdr) : zf3 × Nat × Int := if r.bad || !zf7 t then (zm2, 0, 4) else (t, r.at_, 0)
theorem tellGet_eq (b : List UInt8) : zjp b = zma (zis b).1 (zis b).2 := rfl
@[simp] def zf3.val (g : zf3 × Nat × Int) (x y : AVal) : AVal := .tup [.agg (g.1.cs x y), .int .i64 (g.2.1 : Int), .int .i64 g.2.2]
theorem zdr.fin (s : zbp.Spec C N) {h hh : za} {i2 : Nat} {p x : AVal} {cs2 : List AVal} {t : zf3} {r : Rdr} {lx ly : AVal} {Q : AVal → za → Prop} (ho : Owns h hh [.box (.ptr i2 0 0) cs2, .box p [x, .int .i64 (r.at_ : Int), .bool r.bad], .sl 6 lx (t.Lots.map Lot.cs) [], .sl 3 ly (t.Uses.map Use.cs) []])
  (hc : cs2.length = 7) (hl1 : t.Lots.length ≤ 65535) (hl2 : t.Uses.length ≤ 65535)
  (hq : ∀ x' y' h', Owns h h' [.sl 6 x' ((zma t r).1.Lots.map Lot.cs) [], .sl 3 y' ((zma t r).1.Uses.map Use.cs) []] → Q (zf3.val (zma t r) x' y') h') : zdr.k1 C N (dn Q) (.ptr i2 0 0) p (.agg (t.cs lx ly)) hh := by
 obtain ⟨id, rfl, hbx⟩ := ho.zhi 1 rfl
 simp +contextual -dsimp [zeu hbx]
 refine B.zea (fun _ _ hq => s t lx ly _ _ ⟨⟨_, ho.slAt 2 rfl⟩, ⟨_, ho.slAt 3 rfl⟩⟩ (by omega) (by omega) hq) ?_
 simp +contextual -dsimp
 refine B.ze (fun h1 => ?_) (fun h1 => ?_)
 ·have e : zma t r = (zm2, 0, 4) := by unfold zma; rw [if_pos]; simpa using h1
  rw [e] at hq
  try simp +contextual -dsimp
  refine ho.boxStn 0 rfl rfl hc fun h2 ho2 _ => ?_
  obtain ⟨id', e', hb2⟩ := ho2.zhi 0 rfl
  cases e'
  simp -dsimp [ldnv_at hb2]
  refine zj (hq .nils .nils h2 ?_)
  exact ((Owns.nil ho2.le).nils 6).nils 3
 ·have e : zma t r = (t, r.at_, 0) := by unfold zma; rw [if_neg]; simpa using h1
  rw [e] at hq
  try simp +contextual -dsimp
  simp -dsimp [zeu hbx]
  refine ho.boxStn 0 rfl rfl hc fun h2 ho2 _ => ?_
  obtain ⟨id', e', hb2⟩ := ho2.zhi 0 rfl
  cases e'
  obtain ⟨id', e', hb3⟩ := ho2.zhi 1 rfl
  cases e'
  refine ⟨fun q hq => ?_, ?_⟩
  ·rw [List.mem_singleton.1 hq]
   exact ⟨.int .i64 (r.at_ : Int), by rw [zeu hbx]; rfl, by rw [zeu hb3]; rfl⟩
  ·simp -dsimp [ldnv_at hb2]
   exact zj (hq lx ly h2 (ho2.sub (by simp)))
def zdr.Spec (C : CSem) (N : Nat → Nat) : Prop := ∀ (x : AVal) (b : List UInt8) (h : za) (Q : AVal → za → Prop), zpw h x b →
 (∀ x' y' h', Owns h h' [.sl 6 x' ((zjp b).1.Lots.map Lot.cs) [], .sl 3 y' ((zjp b).1.Uses.map Use.cs) []] → Q (zf3.val (zjp b) x' y') h') → C (N 38) [x] h Q
theorem zdr.spec (i : zdr.Imp C N) (s1 : zm.Spec C N) (s2 : zbs.Spec C N) (s3 : zbd.Spec C N) (s4 : zbc.Spec C N) (s5 : zbp.Spec C N) : zdr.Spec C N := by
 intro x b h Q hx hq
 apply i
 rw [tellGet_eq] at hq
 obtain ⟨⟨R, hxx⟩, hb⟩ := hx
 have hxc := hxx.zl
 try simp -dsimp [hxc]
 intro i2 hi2
 simp -dsimp [hxc]
 intro i9 hi9
 have o1 := (Owns.start h).zmj hi2 [.int .i64 0, .int .i64 0, .int .i64 0, .str [], .int .u8 0, .nils, .nils]
 have o2 := (Owns.start _).zmj hi9 [x, .int .i64 0, .bool false]
 simp only [List.nil_append] at o1 o2
 have hx1 := hxx.mono o1.le
 refine s1 _ _ (.ptr i9 0 0) x b R ⟨0, false⟩ 2 _ hx1 hb (by simp) (by omega) o2 fun h3 o3 => ?_
 have l3 := zgb (b := b) (r := ⟨0, false⟩) (k := 2) (by simp)
 simp -dsimp
 refine B.ze (fun h4 => ?_) (fun h4 => ?_)
 ·rw [decide_eq_true_eq] at h4
  rw [show zis b = zm3 b (rNum b 2 ⟨0, false⟩).1 (rNum b 2 ⟨0, false⟩).2 by unfold zis; rw [if_pos h4]] at hq
  generalize rNum b 2 ⟨0, false⟩ = g3 at *
  obtain ⟨e, r3⟩ := g3
  simp only at h4 l3 o3 hq ⊢
  try simp +contextual -dsimp
  refine s1 _ _ (.ptr i9 0 0) x b R r3 8 _ hx1 hb l3 (by omega) o3 fun h5 o5 => ?_
  have l5 := zgb (k := 8) l3
  try simp +contextual -dsimp
  refine s1 _ _ (.ptr i9 0 0) x b R _ 2 _ hx1 hb l5 (by omega) o5 fun h6 o6 => ?_
  have l6 := zgb (k := 2) l5
  obtain ⟨n1, n2⟩ := rNum_2 b (rNum b 8 r3).2
  have ew : IntKind.i64.wrap ((rNum b 2 (rNum b 8 r3).2).1 - 1) = (rNum b 2 (rNum b 8 r3).2).1 - 1 := wrap_i64 (by omega) (by omega)
  simp +contextual -dsimp [ew]
  refine s2 _ _ (.ptr i9 0 0) x b R _ _ hx1 hb l6 o6 fun h7 o7 => ?_
  have l7 := rCode_le l6
  try simp +contextual -dsimp
  refine s1 _ _ (.ptr i9 0 0) x b R _ 1 _ hx1 hb l7 (by omega) o7 fun h8 o8 => ?_
  have l8 := zgb (k := 1) l7
  simp +contextual -dsimp [zke]
  refine s3 _ _ (.ptr i9 0 0) x b _ _ ⟨⟨R, hx1⟩, hb⟩ l8 o8 fun lx h9 o9 => ?_
  have l9 := rList_le (one := rLot b) (fun r hr => rLot_le hr) (rNum b 2 (rNum b 1 (zgv b (rNum b 2 (rNum b 8 r3).2).2).2).2).1.toNat _ (zgb (k := 2) l8)
  have len1 := zp7 (rLot b) (rNum b 2 (rNum b 1 (zgv b (rNum b 2 (rNum b 8 r3).2).2).2).2).1.toNat (rNum b 2 (rNum b 1 (zgv b (rNum b 2 (rNum b 8 r3).2).2).2).2).2
  have m1 := rNum_2 b (rNum b 1 (zgv b (rNum b 2 (rNum b 8 r3).2).2).2).2
  have hcx := (o9.slAt 0 rfl).zl
  simp +contextual -dsimp [hcx]
  obtain ⟨q1, q2⟩ := o9.out (l1 := [_]) (l2 := [_])
  refine s4 _ _ (.ptr i9 0 0) x b _ _ (zpw.mono ⟨⟨R, hx1⟩, hb⟩ q1.le) l9 q2 fun ly h10 o10 => ?_
  have hcy := (o10.slAt 0 rfl).zl
  simp -dsimp only [B.zhz, V.setF_agg, V.put1_cell, hcy, cond_true, List.length_set, List.length_cons, List.length_nil, List.set, optAgg_some, B.zf, if_true, show 6 < 0 + 1 + 1 + 1 + 1 + 1 + 1 + 1 by omega]
  have len2 := zp7 (rUse b) (rNum b 2 (zfy (rLot b) (rNum b 2 (rNum b 1 (zgv b (rNum b 2 (rNum b 8 r3).2).2).2).2).1.toNat (rNum b 2 (rNum b 1 (zgv b (rNum b 2 (rNum b 8 r3).2).2).2).2).2).2).1.toNat (rNum b 2 (zfy (rLot b) (rNum b 2 (rNum b 1 (zgv b (rNum b 2 (rNum b 8 r3).2).2).2).2).1.toNat (rNum b 2 (rNum b 1 (zgv b (rNum b 2 (rNum b 8 r3).2).2).2).2).2).2).2
  have m2 := rNum_2 b (zfy (rLot b) (rNum b 2 (rNum b 1 (zgv b (rNum b 2 (rNum b 8 r3).2).2).2).2).1.toNat (rNum b 2 (rNum b 1 (zgv b (rNum b 2 (rNum b 8 r3).2).2).2).2).2).2
  have oo := o1.join (q1.join o10)
  refine zdr.fin s5 (x := x) (cs2 := [.int .i64 0, .int .i64 0, .int .i64 0, .str [], .int .u8 0, .nils, .nils]) (t := (zm3 b e r3).1) (r := (zm3 b e r3).2) (oo.perm ?_) rfl (by simp only [zm3]; omega) (by simp only [zm3]; omega) hq
  exact List.Perm.cons _ (List.perm_append_comm (l₁ := [_, _]) (l₂ := [_]))
 ·rw [decide_eq_false_iff_not] at h4
  rw [show zis b = (⟨(rNum b 2 ⟨0, false⟩).1, 0, 0, [], 0, [], []⟩, (rNum b 2 ⟨0, false⟩).2) by unfold zis; rw [if_neg h4]] at hq
  exact zdr.fin s5 (t := ⟨(rNum b 2 ⟨0, false⟩).1, 0, 0, [], 0, [], []⟩) (((o1.join o3).nils 6).nils 3) rfl (by simp) (by simp) hq
def RwL (hb h0 h : za) (l : List Ob) (p : AVal) (b : List UInt8) (r : Rdr) : Prop := ∃ z R, SlX hb 1 z ((b.drop r.at_).map bc) R ∧ Owns h0 h (l ++ [.box p [z, .bool r.bad]]) ∧ hb.le h0 ∧ r.at_ ≤ b.length ∧ b.length < 4611686018427387904
section
variable {hb h0 h : za} {l : List Ob} {p : AVal} {b : List UInt8} {r : Rdr}
theorem zjc {o : Ob} : (l ++ [o])[l.length]? = some o := by simp
theorem zse {o o' : Ob} : (l ++ [o]).set l.length o' = l ++ [o'] := by simp
theorem RwL.ptr (s : RwL hb h0 h l p b r) : ∃ id, p = .ptr id 0 0 ∧ A.ldv h (.ptr id 0 1) = some (.bool r.bad) := by
 obtain ⟨z, R, hz, ho, _⟩ := s
 obtain ⟨id, rfl, hbx⟩ := ho.zhi l.length zjc
 exact ⟨id, rfl, by simp [zeu hbx]⟩
end
def zn.Spec (C : CSem) (N : Nat → Nat) : Prop := ∀ (hb h0 h : za) (l : List Ob) (p : AVal) (b : List UInt8) (r : Rdr) (k : Nat) (Q : AVal → za → Prop), RwL hb h0 h l p b r → k ≤ 8 →
 (∀ h', RwL hb h0 h' l p b (rNum b k r).2 → Q (.int .i64 (rNum b k r).1) h') → C (N 432) [p, .int .i64 (k : Int)] h Q
theorem zn.spec (i : zn.Imp C N) : zn.Spec C N := by
 intro hb h0 h l p b r k Q hs hk hq
 apply i
 obtain ⟨z, R, hz, ho, hle, hr, hbl⟩ := hs
 obtain ⟨id, rfl, hbx⟩ := ho.zhi l.length zjc
 have hz1 := hz.mono (za.le_trans hle ho.le)
 have hlz := hz1.zi
 rw [List.length_map, List.length_drop] at hlz
 simp +contextual -dsimp [zeu hbx, hlz]
 refine ho.zrr l.length zjc rfl (by simp) fun h1 ho1 _ => ?_
 rw [zse] at ho1
 obtain ⟨id', e, hbx1⟩ := ho1.zhi l.length zjc
 cases e
 have hz2 := hz.mono (za.le_trans hle ho1.le)
 simp +contextual -dsimp [zeu hbx1]
 refine B.ze (fun h2 => ?_) (fun h2 => ?_)
 ·have e1 : rNum b k r = (0, ⟨r.at_, true⟩) := by unfold rNum; rw [if_pos]; cases hbad : r.bad <;> simp [hbad] at h2 ⊢; omega
  rw [e1] at hq
  refine zj (hq _ ⟨z, R, hz, ?_, hle, hr, hbl⟩)
  simpa [h2] using ho1
 ·have hbad : r.bad = false := by cases hbad : r.bad <;> simp [hbad] at h2 ⊢
  have hlt : r.at_ + k ≤ b.length := by simp [hbad] at h2; omega
  have e1 : rNum b k r = (IntKind.i64.wrap (zsv ((b.drop r.at_).take k)), ⟨r.at_ + k, false⟩) := by unfold rNum; rw [if_neg]; simp [hbad]; omega
  rw [e1] at hq
  obtain ⟨y, R', e2, e3, _⟩ := hz2.zjq (by omega) (lo := 0) (hi := k) (a := none) (b := some (.int .i64 (k : Int))) (.inl ⟨rfl, rfl⟩) (.inr ⟨_, rfl⟩) (by omega) (by simp; omega)
  obtain ⟨w, R2, f2, f3, _⟩ := hz.zjq (by omega) (lo := k) (hi := (b.drop r.at_).length) (a := some (.int .i64 (k : Int))) (b := none) (.inr ⟨_, rfl⟩) (.inl ⟨rfl, by simp⟩) (by simp; omega) (by simp)
  rw [List.drop_zero] at e3
  rw [List.take_length, List.drop_drop] at f3
  have hlz := e3.zi
  have hln : ((b.drop r.at_).take k).length = k := by simp; omega
  rw [List.length_map, hln] at hlz
  simp -dsimp only [zn.k4, B.zg3, V.zgp, B.zf, B.zh0, zeu hbx1, Nat.zero_add, List.getElem?_cons_zero, List.set, List.getElem?_cons_succ, e2, hlz]
  refine zg.intro (fun n vs hh => ∃ j : Nat, j + n = k ∧ vs = [.int .i64 (IntKind.i64.wrap (zsv (((b.drop r.at_).take k).take j))), .int .i64 j] ∧ hh = h1) k ?_ ⟨0, by simp, by simp [zsv]; rfl, rfl⟩
  rintro Y n vs hh ⟨j, hn, rfl, rfl⟩ hY
  simp +contextual -dsimp
  refine B.ze (fun h3 => ?_) (fun h3 => ?_) <;> simp at h3
  ·obtain ⟨c, hc⟩ := zc6 (L := (b.drop r.at_).take k) (k := j) (by omega)
   have hj : j < (((b.drop r.at_).take k).map bc).length := by rw [List.length_map]; omega
   have hcl := u8_lt c
   have ec : IntKind.i64.wrap (c.toNat : Int) = c.toNat := wrap_i64 (by omega) (by omega)
   have e5 := e3.cell (get_map hc)
   have e6 : bS.c c = .int .u8 c.toNat := rfl
   simp +contextual -dsimp [e3.idxN hj, e5, e6, bin_shl (k := .i64) (j := .u64) (b := 8) (by omega) (by simp [IntKind.bits]), ec]
   rw [or_add _ _ (by omega) (by omega)]
   simp +contextual -dsimp [zhg (n := j) (by omega)]
   refine hY (n - 1) _ _ (by omega) ⟨j + 1, by omega, ?_, rfl⟩
   rw [take_succ hc, zrw, wrap_wrap]
   simp
  ·have hjk : j = k := by omega
   subst hjk
   rw [List.take_take, Nat.min_self]
   simp -dsimp only [zn.k1, B.zg3, V.zgp, B.zf, B.zh0, zeu hbx1, Nat.zero_add, List.getElem?_cons_zero, List.set, List.getElem?_cons_succ, f2]
   refine ho1.zrr l.length zjc f3.zl (by simp) fun h4 ho4 _ => zj (hq _ ⟨w, R2, f3, ?_, hle, by simp only; omega, hbl⟩)
   rw [zse] at ho4
   simpa [h2] using ho4
def zby.Spec (C : CSem) (N : Nat → Nat) : Prop := ∀ (hb h0 h : za) (l : List Ob) (p : AVal) (b : List UInt8) (r : Rdr) (Q : AVal → za → Prop), RwL hb h0 h l p b r →
 (∀ h', RwL hb h0 h' l p b (zgv b r).2 → Q (.str (zgv b r).1) h') → C (N 440) [p] h Q
theorem zby.spec (i : zby.Imp C N) (s1 : zfn.Spec C N) : zby.Spec C N := by
 intro hb h0 h l p b r Q hs hq
 apply i
 obtain ⟨z, R, hz, ho, hle, hr, hbl⟩ := hs
 obtain ⟨id, rfl, hbx⟩ := ho.zhi l.length zjc
 simp +contextual -dsimp [zeu hbx]
 refine B.ze (fun h2 => ?_) (fun h2 => ?_)
 ·rw [show zgv b r = ([], r) by simp [zgv, h2]] at hq
  exact zj (hq _ ⟨z, R, hz, ho, hle, hr, hbl⟩)
 ·rw [show zgv b r = ((zgg (b.drop r.at_)).1, ⟨r.at_ + (zgg (b.drop r.at_)).2.1, !(zgg (b.drop r.at_)).2.2⟩) by simp [zgv, h2]] at hq
  have hcl := zrq (b.drop r.at_)
  simp +contextual -dsimp [zeu hbx]
  refine s1 z _ _ _ _ (hz.mono (za.le_trans hle ho.le)) (by simp; omega) ?_
  simp +contextual -dsimp
  refine ho.zrr l.length zjc rfl (by simp) fun h1 ho1 _ => ?_
  rw [zse] at ho1
  obtain ⟨id', e, hbx1⟩ := ho1.zhi l.length zjc
  cases e
  obtain ⟨w, R2, f2, f3, _⟩ := hz.zjq (by omega) (lo := (zgg (b.drop r.at_)).2.1) (hi := (b.drop r.at_).length) (a := some (.int .i64 ((zgg (b.drop r.at_)).2.1 : Int))) (b := none) (.inr ⟨_, rfl⟩) (.inl ⟨rfl, by simp⟩) hcl (by simp)
  rw [List.take_length, List.drop_drop] at f3
  rw [List.length_drop] at hcl
  simp -dsimp only [B.zg3, V.zgp, B.zf, B.zh0, zeu hbx1, Nat.zero_add, List.getElem?_cons_zero, List.getElem?_cons_succ, List.set, f2]
  refine ho1.zrr l.length zjc f3.zl (by simp) fun h4 ho4 _ => zj (hq _ ⟨w, R2, f3, ?_, hle, by simp only; omega, hbl⟩)
  rw [zse] at ho4
  exact ho4
theorem be_congr {n m : Int} (h : n % 18446744073709551616 = m % 18446744073709551616) : ∀ k, k ≤ 8 → be n k = be m k
 | 0, _ => rfl
 | k + 1, hk => by
  rw [be, be, be_congr h k (by omega)]
  congr 1
  refine byt_congr ?_
  rw [← fdiv_u64 n k (by omega), ← fdiv_u64 m k (by omega), h]
section
variable {b post : List UInt8} {a : Nat}
end
theorem rNum_1 (b : List UInt8) (r : Rdr) : 0 ≤ (rNum b 1 r).1 ∧ (rNum b 1 r).1 ≤ 255 := by
 unfold rNum
 split
 ·simp
 ·rename_i h
  simp only [not_or] at h
  have := beVal_lt 1 ((b.drop r.at_).take 1) (by simp; omega)
  rw [wrap_i64 (by omega) (by omega)]
  omega
def rPart (b : List UInt8) (r : Rdr) : Part × Rdr :=
 let c := zgv b r
 let q := rNum b 4 c.2
 (⟨c.1, q.1⟩, q.2)
def zq9 (b c : List UInt8) (r : Rdr) : Itm × Rdr :=
 let f := rNum b 2 r
 let n := rNum b 1 f.2
 let ps := zfy (rPart b) n.1.toNat n.2
 let m := rNum b 1 ps.2
 let os := zfy (zgv b) m.1.toNat m.2
 (⟨c, f.1, ps.1, os.1⟩, os.2)
def ztm (b : List UInt8) (id : Int) (r : Rdr) : Lot × Rdr :=
 let c := zgv b r
 let f := rNum b 2 c.2
 let u := rNum b 2 f.2
 let q := rNum b 4 u.2
 let e := rNum b 1 q.2
 (⟨id, c.1, f.1, u.1, q.1, decide (e.1 = 1)⟩, e.2)
def zp5 (b : List UInt8) (id : Int) (r : Rdr) : Line × Rdr :=
 let c := zgv b r
 let q := rNum b 4 c.2
 let a := rNum b 2 q.2
 let k := rNum b 1 a.2
 let s := rNum b 1 k.2
 let d := rNum b 2 s.2
 let o := zgv b d.2
 (⟨id, c.1, q.1, a.1, k.1, byt s.1, IntKind.i64.wrap (d.1 - 1), o.1⟩, o.2)
theorem zp6 {T : Type} {one : Rdr → T × Rdr} {t : Nat} {r : Rdr} (h : 0 < t → r.bad = true) : zfy one t r = ([], r) := by
 cases t with
 | zero => rfl
 | succ t => simp [zfy, h (by omega)]
def zr.Spec (C : CSem) (N : Nat → Nat) : Prop := ∀ (hb h0 h : za) (p : AVal) (b c : List UInt8) (r : Rdr) (Q : AVal → za → Prop), RwL hb h0 h [] p b r →
 (∀ a h', RwL hb h0 h' (zd6.obs false (zq9 b c r).1 a) p b (zq9 b c r).2 → Q (.agg (zd6.cells (zq9 b c r).1 a)) h') → C (N 433) [p, .str c] h Q
theorem RwL.push {hb h0 h : za} {l : List Ob} {p : AVal} {b : List UInt8} {r : Rdr} {es bytes k : Nat} {x : AVal} {L : List (List AVal)} {cs : List AVal} {K : AVal → za → Prop} (s : RwL hb h0 h l p b r) (hk : l[k]? = some (.sl es x L [])) (hcs : cs.length = es) (hes : 0 < es) (hbm : (L.length + 1) * bytes ≤ 140737488355328) (hm : L.length + 1 ≤ maxLen)
  (hK : ∀ x' h', RwL hb h0 h' (l.set k (.sl es x' (L ++ [cs]) [])) p b r → K x' h') : B.newO h (some cs) fun id h => B.appW h es bytes x (.sl id 0 0 1 es 1) K := by
 obtain ⟨z, R, hz, ho, hle⟩ := s
 have hl : k < l.length := (List.getElem?_eq_some_iff.1 hk).1
 have hk' : (l ++ [.box p [z, .bool r.bad]])[k]? = some (.sl es x L []) := by rw [List.getElem?_append_left hl]; exact hk
 refine ho.push k hk' hcs hes hbm hm fun x' h' o1 _ => hK x' h' ⟨z, R, hz, ?_, hle⟩
 rw [List.set_append_left _ _ hl] at o1
 exact o1
theorem zr.spec (i : zr.Imp C N) (s1 : zn.Spec C N) (s2 : zby.Spec C N) : zr.Spec C N := by
 intro hb h0 h p b c r Q hs hq
 apply i
 try simp -dsimp only [zr.cps, zr.k5]
 refine s1 hb h0 h [] p b r 2 _ hs (by omega) fun h1 hs1 => ?_
 simp +contextual -dsimp
 refine s1 hb h0 h1 [] p b _ 1 _ hs1 (by omega) fun h2 hs2 => ?_
 have n2 := rNum_1 b (rNum b 2 r).2
 unfold zq9 at hq
 generalize rNum b 2 r = f at *
 obtain ⟨life, r1⟩ := f
 simp only at n2 hs1 hs2 hq ⊢
 generalize rNum b 1 r1 = g at *
 obtain ⟨n, r2⟩ := g
 simp only at n2 hs2 hq ⊢
 have hs3 : RwL hb h0 h2 [.sl 2 .nils [] []] p b r2 := by
  obtain ⟨z, R, hz, ho, hle⟩ := hs2
  exact ⟨z, R, hz, (ho.nils 2).perm (List.Perm.swap ..), hle⟩
 refine zg.intro (fun t vs hh => ∃ (x : AVal) (acc : List Part) (r : Rdr), vs = [.int .i64 (t : Int), .agg [.str c, .int .i64 life, x, .nils]] ∧ acc.length + t ≤ 255 ∧ acc ++ (zfy (rPart b) t r).1 = (zfy (rPart b) n.toNat r2).1 ∧ (zfy (rPart b) t r).2 = (zfy (rPart b) n.toNat r2).2 ∧ RwL hb h0 hh [.sl 2 x (acc.map Part.cs) []] p b r) n.toNat ?_
  ⟨.nils, [], r2, by rw [Int.toNat_of_nonneg n2.1], by simp; omega, rfl, rfl, hs3⟩
 rintro Y t vs hh ⟨x, acc, r, rfl, hal, e1, e2, hs⟩ hY
 obtain ⟨id, rfl, hbad⟩ := hs.ptr
 simp +contextual -dsimp [hbad]
 refine B.ze (fun hc => ?_) (fun hc => ?_) <;> simp at hc
 ·obtain ⟨t, rfl⟩ : ∃ u, t = u + 1 := ⟨t - 1, by omega⟩
  simp only [zfy, hc.2, Bool.false_eq_true, if_false] at e1 e2
  refine s2 hb h0 hh _ _ b r _ hs fun h3 hs3 => ?_
  simp +contextual -dsimp
  refine s1 hb h0 h3 _ _ b _ 4 _ hs3 (by omega) fun h4 hs4 => ?_
  simp +contextual -dsimp
  refine hs4.push (k := 0) rfl rfl (by omega) (by simp; omega) (by simp [maxLen]; omega) fun x' h5 hs5 => ?_
  have e4 : IntKind.i64.wrap (t : Int) = (t : Int) := by rw [wrap_i64 (by omega) (by omega)]
  have c5 : x'.zl = true := by
   obtain ⟨z, R, hz, ho, hle⟩ := hs5
   exact (ho.slAt 0 rfl).zl
  simp +contextual -dsimp [e4, c5]
  refine hY t _ _ (by omega) ⟨x', acc ++ [(rPart b r).1], (rPart b r).2, rfl, by simp; omega, ?_, e2, ?_⟩
  ·rw [← e1, List.append_assoc]; rfl
  ·rw [List.map_append]; exact hs5
 ·rw [zp6 (by simpa using hc), List.append_nil] at e1
  rw [zp6 (by simpa using hc)] at e2
  simp only at e2
  subst e1
  rw [← e2] at hq
  refine s1 hb h0 hh _ _ b r 1 _ hs (by omega) fun h3 hs3 => ?_
  have n3 := rNum_1 b r
  generalize hps : (zfy (rPart b) n.toNat r2).1 = ps at *
  generalize rNum b 1 r = g at *
  obtain ⟨m, r3⟩ := g
  simp only at n3 hs3 hq ⊢
  have hs4 : RwL hb h0 h3 [.sl 2 x (ps.map Part.cs) [], .sl 1 .nils [] []] (.ptr id 0 0) b r3 := by
   obtain ⟨z, R, hz, ho, hle⟩ := hs3
   exact ⟨z, R, hz, (ho.nils 1).perm (.cons _ (List.Perm.swap ..)), hle⟩
  refine zg.intro (fun t vs hh => ∃ (y : AVal) (acc : List (List UInt8)) (r : Rdr), vs = [.int .i64 (t : Int), .agg [.str c, .int .i64 life, x, y]] ∧ acc.length + t ≤ 255 ∧ acc ++ (zfy (zgv b) t r).1 = (zfy (zgv b) m.toNat r3).1 ∧ (zfy (zgv b) t r).2 = (zfy (zgv b) m.toNat r3).2 ∧ RwL hb h0 hh [.sl 2 x (ps.map Part.cs) [], .sl 1 y (acc.map tc) []] (.ptr id 0 0) b r) m.toNat ?_
   ⟨.nils, [], r3, by rw [Int.toNat_of_nonneg n3.1], by simp; omega, rfl, rfl, hs4⟩
  rintro Z t2 vs h4 ⟨y, acc, r', rfl, hal2, e3, e4, hs5⟩ hZ
  obtain ⟨id', e, hbad⟩ := hs5.ptr
  cases e
  simp +contextual -dsimp [hbad]
  refine B.ze (fun hd => ?_) (fun hd => ?_) <;> simp at hd
  ·obtain ⟨t2, rfl⟩ : ∃ u, t2 = u + 1 := ⟨t2 - 1, by omega⟩
   simp only [zfy, hd.2, Bool.false_eq_true, if_false] at e3 e4
   refine s2 hb h0 h4 _ _ b r' _ hs5 fun h5 hs6 => ?_
   simp +contextual -dsimp
   refine hs6.push (k := 1) rfl rfl (by omega) (by simp; omega) (by simp [maxLen]; omega) fun x' h6 hs7 => ?_
   have e6 : IntKind.i64.wrap (t2 : Int) = (t2 : Int) := by rw [wrap_i64 (by omega) (by omega)]
   have c5 : x'.zl = true := by
    obtain ⟨z, R, hz, ho, hle⟩ := hs7
    exact (ho.slAt 1 rfl).zl
   simp +contextual -dsimp [e6, c5]
   refine hZ t2 _ _ (by omega) ⟨x', acc ++ [(zgv b r').1], (zgv b r').2, rfl, by simp; omega, ?_, e4, ?_⟩
   ·rw [← e3, List.append_assoc]; rfl
   ·rw [List.map_append]; exact hs7
  ·rw [zp6 (by simpa using hd), List.append_nil] at e3
   rw [zp6 (by simpa using hd)] at e4
   simp only at e4
   subst e3
   rw [← e4] at hq
   simp +contextual -dsimp
   exact zj (hq (x, y) _ hs5)
def zch.Spec (C : CSem) (N : Nat → Nat) : Prop := ∀ (hb h0 h : za) (l : List Ob) (p : AVal) (b : List UInt8) (id : Int) (r : Rdr) (Q : AVal → za → Prop), RwL hb h0 h l p b r →
 (∀ h', RwL hb h0 h' l p b (ztm b id r).2 → Q (.agg (ztm b id r).1.cs) h') → C (N 434) [p, .int .i64 id] h Q
theorem zch.spec (i : zch.Imp C N) (s1 : zn.Spec C N) (s2 : zby.Spec C N) : zch.Spec C N := by
 intro hb h0 h l p b id r Q hs hq
 apply i
 try simp +contextual -dsimp
 refine s2 hb h0 h l p b r _ hs fun h1 hs1 => ?_
 simp +contextual -dsimp
 refine s1 hb h0 h1 l p b _ 2 _ hs1 (by omega) fun h2 hs2 => ?_
 refine s1 hb h0 h2 l p b _ 2 _ hs2 (by omega) fun h3 hs3 => ?_
 simp +contextual -dsimp
 refine s1 hb h0 h3 l p b _ 4 _ hs3 (by omega) fun h4 hs4 => ?_
 simp +contextual -dsimp
 refine s1 hb h0 h4 l p b _ 1 _ hs4 (by omega) fun h5 hs5 => ?_
 simp +contextual -dsimp
 exact zj (hq _ hs5)
def zb7.Spec (C : CSem) (N : Nat → Nat) : Prop := ∀ (hb h0 h : za) (l : List Ob) (p : AVal) (b : List UInt8) (id : Int) (r : Rdr) (Q : AVal → za → Prop), RwL hb h0 h l p b r →
 (∀ h', RwL hb h0 h' l p b (zp5 b id r).2 → Q (.agg (zp5 b id r).1.cs) h') → C (N 435) [p, .int .i64 id] h Q
theorem zb7.spec (i : zb7.Imp C N) (s1 : zn.Spec C N) (s2 : zby.Spec C N) : zb7.Spec C N := by
 intro hb h0 h l p b id r Q hs hq
 apply i
 try simp +contextual -dsimp
 refine s2 hb h0 h l p b r _ hs fun h1 hs1 => ?_
 simp +contextual -dsimp
 refine s1 hb h0 h1 l p b _ 4 _ hs1 (by omega) fun h2 hs2 => ?_
 simp +contextual -dsimp
 refine s1 hb h0 h2 l p b _ 2 _ hs2 (by omega) fun h3 hs3 => ?_
 refine s1 hb h0 h3 l p b _ 1 _ hs3 (by omega) fun h4 hs4 => ?_
 simp +contextual -dsimp
 refine s1 hb h0 h4 l p b _ 1 _ hs4 (by omega) fun h5 hs5 => ?_
 simp +contextual -dsimp [zke]
 refine s1 hb h0 h5 l p b _ 2 _ hs5 (by omega) fun h6 hs6 => ?_
 simp +contextual -dsimp
 refine s2 hb h0 h6 l p b _ _ hs6 fun h7 hs7 => ?_
 simp +contextual -dsimp
 exact zj (hq _ hs7)
def zu.Spec (C : CSem) (N : Nat → Nat) : Prop := ∀ (x : AVal) (L : List (List UInt8)) (R : List (List AVal)) (s : List UInt8) (h : za) (Q : AVal → za → Prop), SlX h 1 x (L.map tc) R → L.length < 4611686018427387904 →
 (∀ n : Int, (0 ≤ n ↔ s ∈ L) → Q (.int .i64 n) h) → C (N 445) [x, .str s] h Q
theorem zu.spec (i : zu.Imp C N) : zu.Spec C N := by
 intro x L R s h Q hx hl hq
 apply i
 have hlx := hx.zi
 rw [List.length_map] at hlx
 simp -dsimp only [zu.cps, ze0.cps, hlx, B.zf]
 refine zg.intro (fun n vs hh => ∃ k : Nat, k + n = L.length ∧ vs = [.int .i64 (k : Int)] ∧ hh = h ∧ s ∉ L.take k) L.length ?_ ⟨0, by simp, rfl, rfl, by simp⟩
 rintro Y n vs hh ⟨k, hn, rfl, rfl, hno⟩ hY
 simp -dsimp only [ze0.l2, ze0.k1, lssN, B.zf]
 refine B.ze (fun hc => ?_) (fun hc => ?_)
 ·rw [decide_eq_true_eq] at hc
  obtain ⟨w, hw⟩ := zc6 hc
  have hk : k < (L.map tc).length := by simpa using hc
  have e1 : A.ldv hh (elp 1 x k 0) = some (.str w) := hx.cell (get_map hw)
  have e2 : V.idxS (opsS 16 (.str []) 0).es x (.int .i64 (k : Int)) = some (elp 1 x k 0) := hx.idxN hk
  have e3 : ∀ (p : AVal) (K : AVal → Prop), (opsS 16 (.str []) 0).ld hh p K = B.pv (A.ldv hh p) K := fun _ _ => rfl
  simp -dsimp only [e2, e3, e1, B.zf, V.zko]
  refine B.ze (fun hd => ?_) (fun hd => ?_)
  ·rw [decide_eq_true_eq] at hd
   subst hd
   exact zj (hq k ⟨fun _ => List.mem_of_getElem? hw, fun _ => by omega⟩)
  ·rw [decide_eq_false_iff_not] at hd
   simp -dsimp only [add1 (show k < 4611686018427387904 by omega), B.zf]
   refine hY (L.length - (k + 1)) _ _ (by omega) ⟨k + 1, by omega, rfl, rfl, ?_⟩
   rw [take_succ hw]
   simp [hno, hd]
 ·rw [decide_eq_false_iff_not] at hc
  have : k = L.length := by omega
  subst this
  rw [List.take_length] at hno
  exact zj (hq (-1) ⟨fun h => by omega, fun h => absurd h hno⟩)
def zp.Spec (C : CSem) (N : Nat → Nat) : Prop := ∀ (x : AVal) (L : List (List UInt8)) (R : List (List AVal)) (s : List UInt8) (h : za) (Q : AVal → za → Prop), SlX h 1 x (L.map tc) R → L.length < 4611686018427387904 →
 Q (.bool (decide (s ∈ L))) h → C (N 442) [x, .str s] h Q
theorem zp.spec (i : zp.Imp C N) (s1 : zu.Spec C N) : zp.Spec C N := by
 intro x L R s h Q hx hl hq
 apply i
 simp -dsimp only [zp.cps, zlq.cps]
 refine s1 x L R s h _ hx hl fun n hn => ?_
 simp -dsimp only [V.zru, B.zf]
 rw [decide_eq_decide.2 hn]
 exact zj hq
def zdu.Spec (C : CSem) (N : Nat → Nat) : Prop := ∀ (most : Nat) (x : AVal) (L : List (List UInt8)) (R : List (List AVal)) (h : za) (Q : AVal → za → Prop), SlX h 1 x (L.map tc) R → L.length < 4611686018427387904 →
 Q (.bool (zk8 most L)) h → C (N 441) [.int .i64 (most : Int), x] h Q
theorem zdu.spec (i : zdu.Imp C N) (s1 : zb3.Spec C N) (s2 : zp.Spec C N) : zdu.Spec C N := by
 intro most x L R h Q hx hl hq
 apply i
 have hlx := hx.zi
 rw [List.length_map] at hlx
 simp -dsimp only [zdu.cps, hlx, B.zf]
 refine zg.intro (fun n vs hh => ∃ k : Nat, k + n = L.length ∧ vs = [.int .i64 (k : Int)] ∧ hh = h ∧ (L.take k).all zbb = true ∧ (L.take k).Nodup) L.length ?_ ⟨0, by simp, rfl, rfl, rfl, by simp⟩
 rintro Y n vs hh ⟨k, hn, rfl, rfl, hall, hnd⟩ hY
 simp -dsimp only [zdu.l2, zdu.k1, lssN, B.zf]
 refine B.ze (fun hc => ?_) (fun hc => ?_)
 ·rw [decide_eq_true_eq] at hc
  obtain ⟨w, hw⟩ := zc6 hc
  have hk : k < (L.map tc).length := by simpa using hc
  have e1 : A.ldv hh (elp 1 x k 0) = some (.str w) := hx.cell (get_map hw)
  have e2 : V.idxS 1 x (.int .i64 (k : Int)) = some (elp 1 x k 0) := hx.idxN hk
  obtain ⟨z, R', e3, e4, _⟩ := hx.zjq (by omega) (lo := 0) (hi := k) (a := none) (b := some (.int .i64 (k : Int))) (.inl ⟨rfl, rfl⟩) (.inr ⟨_, rfl⟩) (by omega) (by omega)
  rw [List.drop_zero] at e4
  simp -dsimp only [e2, e1, B.zh0, B.zf]
  refine s1 _ _ _ ?_
  simp +contextual -dsimp [e3]
  refine B.zea (v := .bool (decide (w ∈ L.take k))) (fun _ Q hq => s2 z _ _ _ _ _ e4 (by simp; omega) hq) ?_
  simp -dsimp
  have step : zbb w = true → w ∉ L.take k → (L.take (k + 1)).all zbb = true ∧ (L.take (k + 1)).Nodup := fun h1 h2 => by
   rw [take_succ hw]
   refine ⟨by simp only [List.all_append, hall, Bool.true_and, List.all_cons, List.all_nil, Bool.and_true, h1], ?_⟩
   rw [List.nodup_append]
   exact ⟨hnd, by simp, fun a ha b hb e => by rw [List.mem_singleton.1 hb] at e; subst e; exact h2 ha⟩
  refine B.ze (fun hd => ?_) (fun hd => ?_)
  ·have : zk8 most L = false := by
    unfold zk8
    by_cases h1 : zbb w = true
    ·refine Bool.and_eq_false_iff.2 (.inr (Bool.and_eq_false_iff.2 (.inl (decide_eq_false fun h2 => ?_))))
     have h3 : w ∈ L.take k := by simpa [h1] using hd
     have h4 : (L.take (k + 1)).Nodup := h2.sublist (List.take_sublist _ _)
     rw [take_succ hw, List.nodup_append] at h4
     exact h4.2.2 w h3 w (by simp) rfl
    ·refine Bool.and_eq_false_iff.2 (.inl ?_)
     rw [← Bool.not_eq_true, List.all_eq_true]
     exact fun h2 => h1 (h2 w (List.mem_of_getElem? hw))
   rw [this] at hq
   exact zj hq
  ·have h1 : zbb w = true ∧ w ∉ L.take k := by
    cases h : zbb w <;> simp [h] at hd ⊢
    exact hd
   simp -dsimp only [add1 (show k < 4611686018427387904 by omega), B.zf]
   refine hY (L.length - (k + 1)) _ _ (by omega) ⟨k + 1, by omega, rfl, rfl, step h1.1 h1.2⟩
 ·rw [decide_eq_false_iff_not] at hc
  have : k = L.length := by omega
  subst this
  rw [List.take_length] at hall hnd
  simp -dsimp only [leqN, hlx, B.zf]
  have : zk8 most L = decide (L.length ≤ most) := by unfold zk8; rw [hall, decide_eq_true hnd]; rfl
  rw [this] at hq
  exact zj hq
def zde.Spec (C : CSem) (N : Nat → Nat) : Prop := ∀ (t : Itm) (a : AVal × AVal) (h : za) (Q : AVal → za → Prop), zd6.at_ h t a → Q (.bool (zia t)) h → C (N 438) [.agg (zd6.cells t a)] h Q
theorem zde.spec (i : zde.Imp C N) (s1 : zdu.Spec C N) : zde.Spec C N := by
 intro t a h Q ha hq
 obtain ⟨⟨R1, a1⟩, ⟨R2, a2⟩, a3, a4⟩ : (∃ R, SlX h 2 a.1 (t.zdd.map Part.cs) R) ∧ (∃ R, SlX h 1 a.2 (t.zck.map tc) R) ∧ t.ok := ha
 unfold few at a3 a4
 apply i
 have l1 := a1.zi
 rw [List.length_map] at l1
 simp -dsimp [zd6]
 intro id hid
 have o1 := (Owns.start h).zof (id := id) (n := 1) (cp := 1) (es := 1) (cs := [.str t.Code]) (L := [t.Code].map tc) (R := []) hid (by simp) rfl (by simp) rfl
 refine o1.appW 0 rfl (a2.mono o1.le) (by omega) (by simp; omega) (by simp [maxLen]; omega) fun x2 h2 o2 _ => ?_
 have hx2 := o2.slAt 0 rfl
 have hx2 : SlX h2 1 x2 ((t.Code :: t.zck).map tc) [] := hx2
 refine s1 5 x2 _ _ _ _ hx2 (by simp; omega) ?_
 simp -dsimp [l1]
 have fin : ∀ (b : Bool) (h' : za), h.le h' → zia t = b → dn Q (.bool b) h' := fun b h' hle e => by rw [e] at hq; exact zsu hle hq
 refine B.ze (fun hb => ?_) (fun hb => ?_)
 ·refine fin _ _ o2.le ?_
  have hb : zk8 5 (t.Code :: t.zck) = false := by simpa using hb
  unfold zia; rw [hb]; rfl
 ·have hb : zk8 5 (t.Code :: t.zck) = true := by simpa using hb
  simp +contextual -dsimp [l1]
  refine B.ze (fun hc => ?_) (fun hc => ?_)
  ·have hp : t.zdd = [] := by simpa using hc
   simp +contextual -dsimp
   refine fin _ _ o2.le ?_
   unfold zia; rw [hb, hp]; simp
  ·have hp : t.zdd ≠ [] := by simpa using hc
   have hk : zia t = (qtyB t && (decide (t.Life = 0) && zk8 8 (ztx t))) := by unfold zia; rw [hb, decide_eq_false hp]; rfl
   simp -dsimp [l1]
   refine zg.intro (fun n vs hh => ∃ (k : Nat) (y : AVal), k + n = t.zdd.length ∧ vs = [y, .int .i64 (k : Int)] ∧ Owns h hh [.sl 1 y (((t.zdd.take k).map Part.Item).map tc) []] ∧ (t.zdd.take k).all (fun p => decide (1 ≤ p.Qty) && decide (p.Qty ≤ 1073741824)) = true) t.zdd.length ?_ ⟨0, .nils, by simp, rfl, by simpa using ((Owns.start h2).nils 1).back o2.le, rfl⟩
   rintro Y n vs hh ⟨k, y, hn, rfl, o3, hall⟩ hY
   simp -dsimp only [zde.l3, zde.k2, lssN, B.zf]
   refine B.ze (fun hd => ?_) (fun hd => ?_)
   ·rw [decide_eq_true_eq] at hd
    obtain ⟨w, hw⟩ := zc6 hd
    have hk2 : k < (t.zdd.map Part.cs).length := by simpa using hd
    have e1 := (a1.mono o3.le).elem (get_map hw)
    have e2 : V.idxS 2 a.1 (.int .i64 (k : Int)) = some (elp 2 a.1 k 0) := a1.idxN hk2
    simp +contextual -dsimp [e1, e2, - V.zet]
    have bad : (decide (w.Qty < 1) || decide (1073741824 < w.Qty)) = !(decide (1 ≤ w.Qty) && decide (w.Qty ≤ 1073741824)) := by
     rw [Bool.eq_iff_iff]; simp <;> omega
    refine B.ze (fun he => ?_) (fun he => ?_)
    ·refine fin _ _ o3.le ?_
     have : qtyB t = false := by
      unfold qtyB
      rw [List.all_eq_false]
      exact ⟨w, List.mem_of_getElem? hw, by rw [bad, Bool.not_eq_true'] at he; rw [he]; exact Bool.false_ne_true⟩
     rw [hk, this]; rfl
    ·refine o3.push 0 rfl rfl (by omega) (by simp; omega) (by simp [maxLen]; omega) fun y4 h4 o4 _ => ?_
     simp -dsimp only [add1 (show k < 4611686018427387904 by omega), B.zf]
     refine hY (t.zdd.length - (k + 1)) _ _ (by omega) ⟨k + 1, y4, by omega, rfl, ?_, ?_⟩
     ·rw [take_succ hw, List.map_append, List.map_append]; exact o4
     ·rw [take_succ hw, List.all_append, hall]
      rw [bad] at he
      simpa using he
   ·rw [decide_eq_false_iff_not] at hd
    have : k = t.zdd.length := by omega
    subst this
    rw [List.take_length] at o3 hall
    simp +contextual -dsimp
    refine B.zea (v := .bool (zk8 8 (ztx t))) (fun _ Q hq => s1 8 y _ _ _ _ (o3.slAt 0 rfl) (by simp; omega) hq) ?_
    simp -dsimp
    refine fin _ _ o3.le ?_
    rw [hk, show qtyB t = true from hall]; rfl
structure zla (h : za) (s : Sta) (x y z : AVal) : Prop where
 items : Dl zd6 h x s.zd9
 lots : ∃ R, SlX h 6 y (s.Lots.map Lot.cs) R
 lines : ∃ R, SlX h 8 z (s.zd8.map Line.cs) R
 n1 : s.zd9.length ≤ 100000000
 n2 : s.Lots.length ≤ 100000000
 n3 : s.zd8.length ≤ 100000000
theorem zla.mono {h h' : za} {s : Sta} {x y z : AVal} (a : zla h s x y z) (hle : h.le h') : zla h' s x y z :=
 ⟨a.items.mono hle, a.lots.imp fun _ r => r.mono hle, a.lines.imp fun _ r => r.mono hle, a.n1, a.n2, a.n3⟩
abbrev zka (s : Sta) (x y z : AVal) : List AVal := [.int .i64 s.Now, .int .i64 s.zhx, .int .i64 s.zgq, x, y, z]
theorem ordB_snoc {T : Type} {ok : T → Bool} {lt : T → T → Bool} : ∀ (l : List T) (p : Option T) (x : T), ordB ok lt p (l ++ [x]) = (ordB ok lt p l && (ok x && zje lt x ((l.getLast?).or p)))
 | [], p, x => by simp [ordB]
 | a :: l, p, x => by
  have := ordB_snoc (ok := ok) (lt := lt) l (some a) x
  have e : (l.getLast?).or (some a) = ((a :: l).getLast?).or p := by
   rw [List.getLast?_cons]; cases l.getLast? <;> rfl
  rw [List.cons_append, ordB, this, ordB, e]
  simp only [Bool.and_assoc]
theorem zjy {T : Type} {ok : T → Bool} {lt : T → T → Bool} {l : List T} {k : Nat} {x : T} (hx : l[k]? = some x) : ordB ok lt none (l.take (k + 1)) = (ordB ok lt none (l.take k) && (ok x && (decide (k = 0) || zje lt x l[k - 1]?))) := by
 rw [take_succ hx, ordB_snoc]
 have hk : k < l.length := (List.getElem?_eq_some_iff.1 hx).1
 cases k with
 | zero => simp [zje]
 | succ k =>
  have e : ((l.take (k + 1)).getLast?).or none = l[k + 1 - 1]? := by
   rw [Option.or_none, List.getLast?_eq_getElem?, List.length_take, Nat.min_eq_left (by omega), List.getElem?_take_of_lt (by omega)]
  rw [e]; simp
theorem add0 : V.bin .add (.int .i64 0) (.int .i64 1) = some (.int .i64 ((0 + 1 : Nat) : Int)) := rfl
def zbo.Spec (C : CSem) (N : Nat → Nat) : Prop := ∀ (s : Sta) (x y z : AVal) (h : za) (Q : AVal → za → Prop), zla h s x y z → Q (.bool (zgx s)) h → C (N 426) [.agg (zka s x y z)] h Q
theorem zbo.spec (i : zbo.Imp C N) (s1 : zde.Spec C N) (s2 : zew.Spec C N) (s3 : zeg.Spec C N) : zbo.Spec C N := by
 intro s x y z h Q ha hq
 obtain ⟨hi, ⟨R1, hl⟩, ⟨R2, hn⟩, n1, n2, n3⟩ := ha
 apply i
 have l1 := hi.zi
 have l2 := hl.zi
 have l3 := hn.zi
 rw [List.length_map] at l2 l3
 have hx := hi.zl
 have hy := hl.zl
 have hz := hn.zl
 simp +contextual -dsimp [l1]
 refine zg.intro (fun n vs hh => ∃ k : Nat, k + n = s.zd9.length ∧ vs = [.bool (numsB s && ordB zia (fun a b => zrj a.Code b.Code) none (s.zd9.take k)), .int .i64 (k : Int)] ∧ hh = h) s.zd9.length ?_ ⟨0, by simp, by unfold numsB; simp [ordB], rfl⟩
 rintro Y n vs hh ⟨k, hk, rfl, rfl⟩ hY
 simp -dsimp only [zbo.l6, zbo.k5, lssN, B.zf]
 refine B.ze (fun hc => ?_) (fun hc => ?_)
 ·rw [decide_eq_true_eq] at hc
  obtain ⟨w, hw⟩ := zc6 hc
  obtain ⟨a, ea⟩ := hi.get hw
  have e1 := ea.idx
  have e2 := ea.ldn
  have e3 : V.setN 0 4 (.agg (zd6.cells w a)) (.agg [.str [], .int .i64 0, .nils, .nils]) = some (.agg (zd6.cells w a)) := zkw zd6 w a
  simp -dsimp only [show V.idxS 4 x (.int .i64 (k : Int)) = some (elp 4 x k 0) from e1, show A.ldnv hh (elp 4 x k 0) 4 = some (.agg (zd6.cells w a)) from e2, e3, B.zij, B.zf]
  have step := zjy (ok := zia) (lt := fun a b : Itm => zrj a.Code b.Code) hw
  generalize hP : (numsB s && ordB zia (fun a b => zrj a.Code b.Code) none (s.zd9.take k)) = P at *
  simp +contextual -dsimp [zd6]
  refine B.zea (v := .bool (zia w)) (fun _ Q hq => s1 w a _ _ ea.at_ hq) ?_
  have fin : ∀ b : Bool, b = (P && (zia w && (decide (k = 0) || zje (fun a b : Itm => zrj a.Code b.Code) w s.zd9[k - 1]?))) → Y [.bool b, .int .i64 ((k + 1 : Nat) : Int)] hh := fun b e => by
   refine hY (s.zd9.length - (k + 1)) _ _ (by omega) ⟨k + 1, by omega, ?_, rfl⟩
   rw [step, ← Bool.and_assoc, hP, ← e]
  by_cases h0 : k = 0
  ·subst h0
   simp +contextual -dsimp [- V.zet, add0]
   refine fin _ (by simp)
  ·obtain ⟨u, hu⟩ := zc6 (L := s.zd9) (k := k - 1) (by omega)
   obtain ⟨c, ec⟩ := hi.get hu
   have sk := sub1 (a := k) (by omega) (by omega)
   have f1 : V.idxS 4 x (.int .i64 ((k - 1 : Nat) : Int)) = some (elp 4 x (k - 1) 0) := ec.idx
   have f2 : V.fieldAddr 0 (elp 4 x (k - 1) 0) = some (elp 4 x (k - 1) 0) := ec.fld 0 0
   have f3 : A.ldv hh (elp 4 x (k - 1) 0) = some (.str u.Code) := ec.ld 0 (by decide)
   simp +contextual -dsimp [- V.zet, - V.zi5, add1 (show k < 4611686018427387904 by omega), sk, h0, f1, f2, f3, V.bin_slss, zd6]
   refine fin _ (by rw [hu, decide_eq_false h0]; simp [zje, Bool.and_assoc])
 ·rw [decide_eq_false_iff_not] at hc
  have : k = s.zd9.length := by omega
  subst this
  rw [List.take_length]
  generalize hP1 : (numsB s && ordB zia (fun a b => zrj a.Code b.Code) none s.zd9) = P1
  simp +contextual -dsimp [l2]
  refine zg.intro (fun n vs h2 => ∃ k : Nat, k + n = s.Lots.length ∧ vs = [.bool (P1 && ordB zfm (fun a b => decide (a.Id < b.Id)) none (s.Lots.take k)), .int .i64 (k : Int)] ∧ h2 = hh) s.Lots.length ?_ ⟨0, by simp, by simp [ordB], rfl⟩
  rintro Y2 n2 vs h2 ⟨k, hk2, rfl, rfl⟩ hY
  simp -dsimp only [zbo.l4, zbo.k3, lssN, B.zf]
  refine B.ze (fun hc => ?_) (fun hc => ?_)
  ·rw [decide_eq_true_eq] at hc
   obtain ⟨w, hw⟩ := zc6 hc
   have hkl : k < (s.Lots.map Lot.cs).length := by simpa using hc
   have e1 : V.idxS 6 y (.int .i64 (k : Int)) = some (elp 6 y k 0) := hl.idxN hkl
   have e2 := hl.elem (get_map hw)
   have step := zjy (ok := zfm) (lt := fun a b : Lot => decide (a.Id < b.Id)) hw
   generalize hP : (P1 && ordB zfm (fun a b => decide (a.Id < b.Id)) none (s.Lots.take k)) = P at *
   simp +contextual -dsimp [e1, e2]
   refine B.zea (v := .bool (zfm w)) (fun _ Q hq => s2 w _ _ hq) ?_
   have fin : ∀ b : Bool, b = (P && (zfm w && (decide (k = 0) || zje (fun a b : Lot => decide (a.Id < b.Id)) w s.Lots[k - 1]?))) → Y2 [.bool b, .int .i64 ((k + 1 : Nat) : Int)] h2 := fun b e => by
    refine hY (s.Lots.length - (k + 1)) _ _ (by omega) ⟨k + 1, by omega, ?_, rfl⟩
    rw [step, ← Bool.and_assoc, hP, ← e]
   by_cases h0 : k = 0
   ·subst h0
    simp +contextual -dsimp [- V.zet, add0]
    refine fin _ (by simp)
   ·obtain ⟨u, hu⟩ := zc6 (L := s.Lots) (k := k - 1) (by omega)
    have sk := sub1 (a := k) (by omega) (by omega)
    have hku : k - 1 < (s.Lots.map Lot.cs).length := by simp; omega
    have f1 : V.idxS 6 y (.int .i64 ((k - 1 : Nat) : Int)) = some (elp 6 y (k - 1) 0) := hl.idxN hku
    have f2 : V.fieldAddr 0 (elp 6 y (k - 1) 0) = some (elp 6 y (k - 1) 0) := hl.zlv hku 0 0
    have f3 : A.ldv h2 (elp 6 y (k - 1) 0) = some (.int .i64 u.Id) := hl.ldv (get_map hu) (by omega)
    simp +contextual -dsimp [- V.zet, - V.zi5, add1 (show k < 4611686018427387904 by omega), sk, h0, f1, f2, f3]
    refine fin _ (by rw [hu, decide_eq_false h0]; simp [zje, Bool.and_assoc])
  ·rw [decide_eq_false_iff_not] at hc
   have : k = s.Lots.length := by omega
   subst this
   rw [List.take_length]
   generalize hP2 : (P1 && ordB zfm (fun a b => decide (a.Id < b.Id)) none s.Lots) = P2
   simp +contextual -dsimp [l3]
   refine zg.intro (fun n vs h3 => ∃ k : Nat, k + n = s.zd8.length ∧ vs = [.bool (P2 && ordB zem (fun a b => decide (a.Id < b.Id)) none (s.zd8.take k)), .int .i64 (k : Int)] ∧ h3 = h2) s.zd8.length ?_ ⟨0, by simp, by simp [ordB], rfl⟩
   rintro Y3 n4 vs h3 ⟨k, hk3, rfl, rfl⟩ hY
   simp -dsimp only [zbo.l2, zbo.k1, lssN, B.zf]
   refine B.ze (fun hc => ?_) (fun hc => ?_)
   ·rw [decide_eq_true_eq] at hc
    obtain ⟨w, hw⟩ := zc6 hc
    have hkl : k < (s.zd8.map Line.cs).length := by simpa using hc
    have e1 : V.idxS 8 z (.int .i64 (k : Int)) = some (elp 8 z k 0) := hn.idxN hkl
    have e2 := hn.elem (get_map hw)
    have step := zjy (ok := zem) (lt := fun a b : Line => decide (a.Id < b.Id)) hw
    generalize hP : (P2 && ordB zem (fun a b => decide (a.Id < b.Id)) none (s.zd8.take k)) = P at *
    simp +contextual -dsimp [e1, e2]
    refine B.zea (v := .bool (zem w)) (fun _ Q hq => s3 w _ _ hq) ?_
    have fin : ∀ b : Bool, b = (P && (zem w && (decide (k = 0) || zje (fun a b : Line => decide (a.Id < b.Id)) w s.zd8[k - 1]?))) → Y3 [.bool b, .int .i64 ((k + 1 : Nat) : Int)] h3 := fun b e => by
     refine hY (s.zd8.length - (k + 1)) _ _ (by omega) ⟨k + 1, by omega, ?_, rfl⟩
     rw [step, ← Bool.and_assoc, hP, ← e]
    by_cases h0 : k = 0
    ·subst h0
     simp +contextual -dsimp [- V.zet, add0]
     refine fin _ (by simp)
    ·obtain ⟨u, hu⟩ := zc6 (L := s.zd8) (k := k - 1) (by omega)
     have sk := sub1 (a := k) (by omega) (by omega)
     have hku : k - 1 < (s.zd8.map Line.cs).length := by simp; omega
     have f1 : V.idxS 8 z (.int .i64 ((k - 1 : Nat) : Int)) = some (elp 8 z (k - 1) 0) := hn.idxN hku
     have f2 : V.fieldAddr 0 (elp 8 z (k - 1) 0) = some (elp 8 z (k - 1) 0) := hn.zlv hku 0 0
     have f3 : A.ldv h3 (elp 8 z (k - 1) 0) = some (.int .i64 u.Id) := hn.ldv (get_map hu) (by omega)
     simp +contextual -dsimp [- V.zet, - V.zi5, add1 (show k < 4611686018427387904 by omega), sk, h0, f1, f2, f3]
     refine fin _ (by rw [hu, decide_eq_false h0]; simp [zje, Bool.and_assoc])
   ·rw [decide_eq_false_iff_not] at hc
    have : k = s.zd8.length := by omega
    subst this
    rw [List.take_length]
    refine zj ?_
    have e : (P2 && ordB zem (fun a b => decide (a.Id < b.Id)) none s.zd8) = zgx s := by
     rw [← hP2, ← hP1]; unfold zgx zue lotsB linesB; simp only [Bool.and_assoc]
    rw [e]; exact hq
theorem ztl {h : za} {x : AVal} {L : List Row} (hx : Dl rowK h x L) {i : Nat} {r : Row} (hr : L[i]? = some r) : ∃ k v, V.idxS 2 x (.int .i64 (i : Int)) = some (elp 2 x i 0) ∧ A.ldnv h (elp 2 x i 0) 2 = some (.agg [k, v]) ∧ V.fieldAddr 0 (elp 2 x i 0) = some (elp 2 x i 0) ∧
  V.fieldAddr 1 (elp 2 x i 0) = some (elp 2 x i 1) ∧ A.ldv h (elp 2 x i 0) = some k ∧ A.ldv h (elp 2 x i 1) = some v ∧ Bs h k r.Key ∧ Bs h v r.Value := by
 obtain ⟨a, ea⟩ := hx.get hr
 exact ⟨a.1, a.2, ea.idx, ea.ldn, ea.fld 0 0, ea.fld 0 1, ea.ld 0 (by decide), ea.ld 1 (by decide), ea.at_.1, ea.at_.2⟩
theorem lenZ {α : Type} [DecidableEq α] (s : List α) : decide ((s.length : Int) = 0) = decide (s = []) := by
 cases s with
 | nil => rfl
 | cons a s => simp; omega
def zdl.Spec (C : CSem) (N : Nat → Nat) : Prop := ∀ (x y : AVal) (a b : List UInt8) (h : za) (Q : AVal → za → Prop), Bs h x a → Bs h y b → Q (.int .i64 (cmpB a b)) h → C (N 274) [x, y] h Q
theorem zdl.spec (i : zdl.Imp C N) (i2 : zif.Imp C N) : zdl.Spec C N := fun x y a b h Q ⟨⟨R, hx⟩, _⟩ ⟨⟨S, hy⟩, _⟩ hq =>
 i x y h Q (i2 x y a b R S h _ hx hy (zj hq))
def zdx.Spec (C : CSem) (N : Nat → Nat) : Prop := ∀ (x y : AVal) (a b : List UInt8) (h : za) (Q : AVal → za → Prop), Bs h x a → Bs h y b → Q (.bool (decide (a = b))) h → C (N 273) [x, y] h Q
theorem zdx.spec (i : zdx.Imp C N) : zdx.Spec C N := fun x y a b h Q ⟨⟨R, hx⟩, _⟩ ⟨⟨S, hy⟩, _⟩ hq => by
 apply i
 simp -dsimp only [zdx.cps, ziq hx, ziq hy, V.zko, B.zf]
 exact zj hq
theorem zr1 {h : za} {s : List UInt8} {K : AVal → za → Prop} (hs : s.length ≤ far) (hk : ∀ x' h', Owns h h' [bOb false x' s] → K x' h') : B.zgk h (.str s) K := by
 refine ⟨by unfold far at hs; omega, fun id hid => hk _ _ ?_⟩
 exact (Owns.start h).zof (id := id) (n := s.length) (cp := s.length) (es := 1) (cs := s.map fun b => .int .u8 b.toNat) (L := s.map bc) (R := []) hid (by simp) (by simp) (by simp) (by rw [List.append_nil, bc_flat])
def Kp2 (h h' : za) (p : AVal) (o : Option Nat) : Prop := match o with
 | none => ∃ x, A.ldv h p = some x ∧ A.ldv h' p = some x
 | some n => ∃ x, A.ldnv h p n = some x ∧ A.ldnv h' p n = some x
theorem keepD2 {h h' : za} {p q : AVal} {o u : Option Nat} {K : AVal → za → Prop} {v : AVal} (h1 : Kp2 h h' p o) (h2 : Kp2 h h' q u) (hk : K v h') : B.zlj h [(p, o), (q, u)] K v h' := by
 refine ⟨fun r hr => ?_, hk⟩
 rcases List.mem_cons.1 hr with rfl | hr
 ·unfold Kp2 at h1; cases o <;> exact h1
 ·rw [List.mem_singleton.1 hr]; unfold Kp2 at h2; cases u <;> exact h2
theorem keepD1 {h h' : za} {p : AVal} {o : Option Nat} {K : AVal → za → Prop} {v : AVal} (h1 : Kp2 h h' p o) (hk : K v h') : B.zlj h [(p, o)] K v h' := by
 refine ⟨fun r hr => ?_, hk⟩
 rw [List.mem_singleton.1 hr]; unfold Kp2 at h1; cases o <;> exact h1
theorem Owns.rebase {h0 h h' : za} {l l' : List Ob} (ho : Owns h0 h l) (hn : Owns h h' l') : ∃ h1 : za, h0.le h1 ∧ h1.le h' ∧ Owns h1 h' l ∧ zsx h1 l' := by
 obtain ⟨q1, q2⟩ := ((ho.join hn).perm List.perm_append_comm).out
 exact ⟨_, q1.le, q2.le, q2, q1.is⟩
structure ElD (C : CSem) (E : zf0) (Mk : za → Int → Int → List AVal → Prop) (v : List AVal → AVal) : Prop where
 pos : 0 < E.es
 zlen : E.z.length = E.es
 len : ∀ {h : za} {k i : Int} {c : List AVal}, Mk h k i c → c.length = E.es
 mono : ∀ {h h' : za} {k i : Int} {c : List AVal}, h.le h' → Mk h k i c → Mk h' k i c
 new : ∀ {h : za} {k i : Int} {c : List AVal}, Mk h k i c → zc7 [(0, E.kp, v c)] (repL 1 E.z) = some c
 call : ∀ (k i : Int) (h : za) (Q : AVal → za → Prop), (∀ c h' l, Owns h h' l → (∀ h1, zsx h1 l → Mk h1 k i c) → Q (v c) h') → C E.f [.int .i64 k, .int .i64 i] h Q
 ld : ∀ {h : za} {x : AVal} {L R : List (List AVal)} {i : Nat} {c : List AVal} {K : AVal → Prop}, SlX h E.es x L R → L[i]? = some c → K (v c) → E.ld h (elp E.es x i 0) K
 kpt : ∀ {h h' : za} {x : AVal} {L R : List (List AVal)} {i : Nat} {c : List AVal}, SlX h E.es x L R → SlX h' E.es x L R → L[i]? = some c → Kp2 h h' (elp E.es x i 0) E.kp
 st : ∀ {h : za} {x : AVal} {L R : List (List AVal)} {i : Nat} {c c0 : List AVal} {k j : Int} {K : za → Prop}, SlX h E.es x L R → (∀ id b, foot x = some id → h id = some b → b.own = true) → L[i]? = some c0 → Mk h k j c →
  (∀ h', SlX h' E.es x (L.set i c) R → (∀ id b, foot x = some id → h' id = some b → b.own = true) → But x h h' → K h') → E.st h (elp E.es x i 0) (v c) K
 eq : ∀ {h : za} {k i : Int} {c c' : List AVal} {K : AVal → za → Prop}, Mk h k i c → Mk h k i c' → K (.bool true) h → E.eq h (v c) (v c') K
def zj6 (Mk : za → Int → Int → List AVal → Prop) (h : za) (k s : Nat) (D : List (List AVal)) : Prop := ∀ (i : Nat) (c : List AVal), D[i]? = some c → Mk h (k : Int) ((s + i : Nat) : Int) c
section
variable {E : zf0} {Mk : za → Int → Int → List AVal → Prop} {v : List AVal → AVal} {h0 h h' : za} {k s : Nat} {D : List (List AVal)}
theorem zj6.mono (S : ElD C E Mk v) (m : zj6 Mk h k s D) (hle : h.le h') : zj6 Mk h' k s D := fun i c hc => S.mono hle (m i c hc)
theorem zj6.nil (Mk : za → Int → Int → List AVal → Prop) (h : za) (k s : Nat) : zj6 Mk h k s [] := fun i c hc => by simp at hc
theorem zj6.snoc {c : List AVal} (m : zj6 Mk h k s D) (hc : Mk h (k : Int) ((s + D.length : Nat) : Int) c) : zj6 Mk h k s (D ++ [c]) := fun i d hd => by
 rw [List.getElem?_append] at hd
 split at hd
 ·exact m i d hd
 ·rename_i hlt
  have hi : i - D.length = 0 := by
   cases e : i - D.length with
   | zero => rfl
   | succ j => rw [e] at hd; simp at hd
  rw [hi] at hd
  simp only [List.getElem?_cons_zero, Option.some.injEq] at hd
  subst hd
  have : i = D.length := by omega
  subst this; exact hc
theorem zj6.append {D' : List (List AVal)} (m : zj6 Mk h k s D) (m' : zj6 Mk h k (s + D.length) D') : zj6 Mk h k s (D ++ D') := fun i d hd => by
 rw [List.getElem?_append] at hd
 split at hd
 ·exact m i d hd
 ·have := m' _ _ hd
  rwa [show s + D.length + (i - D.length) = s + i by omega] at this
end
structure FD (E : zf0) (h0 h : za) (v5 : AVal) (n : Nat) (xs : Nat → AVal) (X : Nat → List (List AVal)) (ys : Nat → AVal) (F : Nat → List (List AVal)) (gs : Nat → AVal) : Prop where
 own : Owns h0 h (Objs E.es n ys F (fun _ => []) ++ [.sl 1 v5 (zgo n fun j => [gs j]) []])
 old : ∀ j, j < n → Old h E.es (xs j) (X j) (ys j) (F j)
section
variable {E : zf0} {Mk : za → Int → Int → List AVal → Prop} {v : List AVal → AVal} {h0 h h' : za} {x v5 : AVal} {n k : Nat} {xs ys gs : Nat → AVal} {X F : Nat → List (List AVal)} {W : List (List AVal)} {Q : AVal → za → Prop}
theorem FD.grow (fs : FD E h0 h v5 n xs X ys F gs) (hle : h.le h') : FD E h0 h' v5 n xs X ys F gs := ⟨fs.own.grow hle, fun j hj => (fs.old j hj).mono hle⟩
theorem FD.rebase (fs : FD E h0 h v5 n xs X ys F gs) {l' : List Ob} (hn : Owns h h' l') : ∃ h1 : za, h0.le h1 ∧ h1.le h' ∧ FD E h1 h' v5 n xs X ys F gs ∧ zsx h1 l' := by
 obtain ⟨h1, a, b, o, c⟩ := fs.own.rebase hn
 exact ⟨h1, a, b, ⟨o, fun j hj => (fs.old j hj).mono hn.le⟩, c⟩
theorem FD.gAt (fs : FD E h0 h v5 n xs X ys F gs) : SlX h 1 v5 (zgo n fun j => [gs j]) [] := fs.own.slAt n Objs.getL
theorem FD.yAt (fs : FD E h0 h v5 n xs X ys F gs) (hk : k < n) : SlX h E.es (ys k) (F k) [] := fs.own.slAt k (Objs.getA hk)
theorem FD.turn (fs : FD E h0 h v5 n xs X ys F gs) (hk : k < n) {y : AVal} {L : List (List AVal)} (h1 : SlX h' E.es y L []) (h2 : ∀ id b, foot y = some id → h' id = some b → b.own = true)
  (h3 : ∀ j b, h j = some b → foot (ys k) ≠ some j → h' j = some b) (h4 : foot y = foot (ys k) ∨ ∀ id, foot y = some id → h id = none) (h5 : Old h' E.es (xs k) (X k) y L) : FD E h0 h' v5 n xs X (upf ys k y) (upf F k L) gs := by
 refine ⟨?_, fun j hj => ?_⟩
 ·have := fs.own.turn k (Objs.getA hk) (o' := .sl E.es y L []) h1 h2 h3 h4
  rwa [Objs.setA hk, upf_const] at this
 ·by_cases e : j = k
  ·subst e; rw [ze6, ze6]; exact h5
  ·rw [zkd _ _ e, zkd _ _ e]
   exact (fs.old j hj).other (z := ys k) h3 (fs.own.ne (Objs.getA hj) (Objs.getA hk) e)
theorem FD.store (fs : FD E h0 h v5 n xs X ys F gs) (hk : k < n) {y : AVal} (hy : y.zl = true) {K : za → Prop} (hK : ∀ h', FD E h0 h' v5 n xs X ys F (upf gs k y) → K h') : A.st h (elp 1 v5 k 0) y K := by
 refine fs.own.st n Objs.getL (zmm _ hk) (by omega) hy fun h' ho hb => hK h' ⟨?_, fun j hj => ?_⟩
 ·rw [Objs.setL] at ho
  have e : (zgo n fun j => [gs j]).set k ([gs k].set 0 y) = zgo n fun j => [upf gs k y j] := by
   rw [fills_set]
   refine fills_congr fun j hj => ?_
   unfold upf
   split <;> rfl
  rwa [e] at ho
 ·exact (fs.old j hj).other hb (fs.own.ne (Objs.getA hj) Objs.getL (by omega))
theorem FD.push (S : ElD C E Mk v) (fs : FD E h0 h v5 n xs X ys F gs) (hk : k < n) {cs : List AVal} (hcs : cs.length = E.es) (hb : ((F k).length + 1) * E.bytes ≤ 140737488355328) (hl : (F k).length + 1 ≤ maxLen) {K : AVal → za → Prop}
  (hK : ∀ y h', FD E h0 h' v5 n xs X (upf ys k y) (upf F k (F k ++ [cs])) gs → K y h') : A.newO h (some cs) fun i h => A.appW h E.es E.bytes (ys k) (.sl i 0 0 1 E.es 1) K := fun i hi => by
 have fg := fs.grow (zha (zel cs) hi)
 refine (fg.yAt hk).appW2 (fg.own.zod k (Objs.getA hk)) (M := [cs]) (R' := []) (SlX.lit (z7 ..) (by simpa using hcs) rfl (by simp) (by simp)) S.pos (by simpa using hb) (by simpa using hl) fun y h' h1 h2 h3 h4 h5 => ?_
 exact hK y h' (fg.turn hk h1 h2 h3 h4 (h5 _ _ (fg.old k hk)))
theorem ls_kp2 (hx : SlX h 1 x (zgo n fun j => [xs j]) W) (hx' : SlX h' 1 x (zgo n fun j => [xs j]) W) (hk : k < n) : Kp2 h h' (elp 1 x k 0) none := ⟨_, zrh hx hk, zrh hx' hk⟩
theorem dlat5 (S : ElD C E Mk v) (hx : SlX h0 1 x (zgo n fun j => [xs j]) W) (fs : FD E h0 h v5 n xs X ys F gs) (hn : n ≤ 100000000) (hl : ∀ j, j < n → (X j).length ≤ 4611686018427380000)
  (hgs : ∀ j, j < n → gs j = ys j) (mX : ∀ j, j < n → zj6 Mk h0 j 0 (X j)) (mF : ∀ j i c, j < n → i < (X j).length → (F j)[i]? = some c → Mk h0 (j : Int) (i : Int) c) (lF : ∀ j, j < n → (X j).length ≤ (F j).length) (hq : ∀ h', h0.le h' → Q (.bool true) h') : zg (zcf.l15 E C Q x v5) [.int .i64 0] h := by
 refine zg.intro (fun t vs hh => ∃ k : Nat, k + t = n ∧ vs = [.int .i64 k] ∧ h.le hh) n ?_ ⟨0, by simp, by simp, za.le_refl h⟩
 rintro Y t vs hh ⟨k, ht, rfl, hle⟩ hY
 have fs1 := fs.grow hle
 have hx' := hx.mono fs1.own.le
 simp -dsimp [zub hx']
 refine B.ze (fun hb => ?_) (fun hb => ?_) <;> simp -dsimp at hb ⊢
 ·refine zg.intro (fun t vs h2 => ∃ i : Nat, i + t = (X k).length ∧ vs = [.int .i64 i] ∧ h.le h2) (X k).length ?_ ⟨0, by simp, by simp, hle⟩
  rintro Z t' vs h3 ⟨i, hi, rfl, hle3⟩ hZ
  have f3 := fs.grow hle3
  have hx' := hx.mono f3.own.le
  have hold := (f3.old k hb).at_
  have hlk := hl k hb
  have hlx := hold.zi
  simp -dsimp [zkh hx' hb, zrh hx' hb, hlx]
  refine B.ze (fun hc => ?_) (fun hc => ?_) <;> simp -dsimp at hc ⊢
  ·have hyk := f3.yAt hb
   have hlF := lF k hb
   obtain ⟨c1, hc1⟩ := zc6 (L := X k) (k := i) hc
   obtain ⟨c2, hc2⟩ := zc6 (L := F k) (k := i) (by omega)
   have m1 := mX k hb i c1 hc1
   have m2 := mF k i c2 hb hc hc2
   rw [Nat.zero_add] at m1
   have e1 : V.idxS E.es (xs k) (.int .i64 (i : Int)) = some (elp E.es (xs k) i 0) := hold.idxN hc
   have e2 : V.idxS E.es (ys k) (.int .i64 (i : Int)) = some (elp E.es (ys k) i 0) := hyk.idxN (by omega)
   simp -dsimp only [zkh hx' hb, zrh hx' hb, e1, B.zf, B.zh0]
   refine S.ld hold hc1 ?_
   refine S.call _ _ _ _ fun c4 h4 l4 o4 mk4 => ?_
   have f4 := f3.grow o4.le
   have hx4 := hx.mono f4.own.le
   refine keepD2 (ls_kp2 hx' hx4 hb) (S.kpt hold (hold.mono o4.le) hc1) ?_
   refine S.eq (S.mono f4.own.le m1) (mk4 h4 o4.is) ?_
   have e3 := zrh f4.gAt hb
   rw [hgs k hb] at e3
   have hyk4 := f4.yAt hb
   simp -dsimp [zkh f4.gAt hb, e3, e2]
   refine S.ld hyk4 hc2 ?_
   refine S.call _ _ _ _ fun c5 h5 l5 o5 mk5 => ?_
   have f5 := f4.grow o5.le
   refine keepD2 (ls_kp2 f4.gAt f5.gAt hb) (S.kpt hyk4 (f5.yAt hb) hc2) ?_
   simp -dsimp
   refine S.eq (S.mono f5.own.le m2) (mk5 h5 o5.is) ?_
   simp -dsimp [zhg (n := i) (by omega)]
   exact hZ ((X k).length - (i + 1)) _ _ (by omega) ⟨i + 1, by omega, by simp, za.le_trans hle3 (za.le_trans o4.le o5.le)⟩
  ·simp -dsimp [zhg (n := k) (by omega)]
   exact hY (n - (k + 1)) _ _ (by omega) ⟨k + 1, by omega, by simp, hle3⟩
 ·exact hq _ fs1.own.le
theorem dlat4 (S : ElD C E Mk v) (hx : SlX h0 1 x (zgo n fun j => [xs j]) W) (fs : FD E h0 h v5 n xs X ys F gs) (hn : n ≤ 100000000) (hl : ∀ j, j < n → (X j).length ≤ 4611686018427380000 ∧ ((X j).length + 64) * E.bytes ≤ 140737488355328)
  (hgs : ∀ j, j < n → gs j = ys j) (mX : ∀ j, j < n → zj6 Mk h0 j 0 (X j)) (mF : ∀ j i c, j < n → i < (X j).length → (F j)[i]? = some c → Mk h0 (j : Int) (i : Int) c) (lF : ∀ j, j < n → (X j).length ≤ (F j).length) (hq : ∀ h', h0.le h' → Q (.bool true) h') : zg (zcf.l40 E C Q x v5) [.int .i64 0] h := by
 refine zg.intro (fun t vs hh => ∃ (k : Nat) (ys gs : Nat → AVal) (F : Nat → List (List AVal)), k + t = n ∧ vs = [.int .i64 k] ∧ FD E h0 hh v5 n xs X ys F gs ∧ (∀ j, j < n → gs j = ys j) ∧ (∀ j i c, j < n → i < (X j).length → (F j)[i]? = some c → Mk h0 (j : Int) (i : Int) c) ∧ ∀ j, j < n → (X j).length ≤ (F j).length) n ?_
  ⟨0, ys, gs, F, by simp, by simp, fs, hgs, mF, lF⟩
 rintro Y t vs h ⟨k, ys, gs, F, ht, rfl, fs, hgs, mF, lF⟩ hY
 have hx' := hx.mono fs.own.le
 simp -dsimp [zub hx']
 refine B.ze (fun hb => ?_) (fun hb => ?_) <;> simp -dsimp at hb ⊢
 ·have hlk := hl k hb
  have h64 : 64 * E.bytes ≤ 140737488355328 := Nat.le_trans (Nat.mul_le_mul_right _ (by omega)) hlk.2
  refine ⟨S.pos, (Owns.start h).mks (es := E.es) S.zlen (by omega) (by omega) (by omega) (by omega) fun y h1 ho1 => ?_⟩
  simp only [List.nil_append] at ho1
  refine zg.intro (fun t vs hh => ∃ (i : Nat) (hb0 : za) (M : List (List AVal)), i + t = 64 ∧ vs = [.int .i64 i] ∧ h.le hb0 ∧ M.length = i ∧ ∃ R, Owns hb0 hh [.sl E.es y (M ++ (zgo 64 fun _ => E.z).drop i) R]) 64 ?_ ⟨0, h, [], by simp, by simp, za.le_refl h, rfl, _, by simpa using ho1⟩
  rintro Z t' vs hh ⟨i, hb0, M, hi, rfl, hle0, hM, R, ho⟩ hZ
  simp -dsimp
  refine B.ze (fun hc => ?_) (fun hc => ?_) <;> simp -dsimp at hc ⊢
  ·have e1 : IntKind.i64.wrap ((k : Int) + n) = ((k + n : Nat) : Int) := by rw [wrap_i64 (by omega) (by omega)]; omega
   have hxx := hx'.mono (za.le_trans hle0 ho.le)
   have hi64 : i < (zgo 64 fun _ => E.z).length := by simp; omega
   have hlt : i < (M ++ (zgo 64 fun _ => E.z).drop i).length := by simp; omega
   simp -dsimp only [zub hxx, B.zf, V.zet, e1]
   refine S.call _ _ _ _ fun c2 h2 l2 o2 mk2 => ?_
   obtain ⟨hb1, q1, q2, ho2, hat⟩ := ho.rebase o2
   simp -dsimp only [(ho2.slAt 0 rfl).idxN hlt, B.zf]
   have hget : (M ++ (zgo 64 fun _ => E.z).drop i)[i]? = some (zgo 64 fun _ => E.z)[i] := by
    rw [List.getElem?_append_right (by omega), hM, Nat.sub_self, List.getElem?_drop]; simp [hi64]
   refine S.st (ho2.slAt 0 rfl) (ho2.zod 0 rfl) hget (mk2 h2 o2.is) fun h3 h4 h5 h6 => ?_
   have hset : (M ++ (zgo 64 fun _ => E.z).drop i).set i c2 = (M ++ [c2]) ++ (zgo 64 fun _ => E.z).drop (i + 1) := by
    rw [List.set_append_right _ _ (by omega), hM, Nat.sub_self, List.drop_eq_getElem_cons hi64, List.set_cons_zero, List.append_assoc]; rfl
   rw [hset] at h4
   simp -dsimp [zhg (n := i) (by omega)]
   exact hZ (64 - (i + 1)) _ _ (by omega) ⟨i + 1, hb1, M ++ [c2], by omega, by simp, za.le_trans hle0 q1, by simp [hM], R, ho2.turn 0 rfl (o' := .sl E.es y _ R) h4 h5 h6 (.inl rfl)⟩
  ·have hi64 : i = 64 := by omega
   have hd : (zgo 64 fun _ => E.z).drop 64 = [] := List.drop_of_length_le (by simp)
   rw [hi64, hd, List.append_nil] at ho
   have fh := fs.grow (za.le_trans hle0 ho.le)
   have hold := fh.old k hb
   have hxx := hx'.mono (za.le_trans hle0 ho.le)
   simp -dsimp [zkh hxx hb, zrh hxx hb]
   refine hold.at_.appW2 (fun id b e1 e2 => ?_) (ho.slAt 0 rfl) S.pos (by rw [hM, hi64]; exact hlk.2) (by simp [maxLen, hM, hi64]; omega) fun y' h2 h3 h4 h5 h6 h7 => ?_
   ·rcases hold.ft with e | ⟨e, _⟩
    ·rw [e] at e1; cases e1
    ·rw [e] at e1; exact fh.own.zod k (Objs.getA hb) id b e1 e2
   ·have f2 : FD E h0 h2 v5 n xs X (upf ys k y') (upf F k (X k ++ M)) gs := fh.turn hb h3 h4 (fun j b e1 e2 => h5 j b e1 fun e3 => by
      rcases hold.ft with e | ⟨e, _⟩
      ·rw [e] at e3; cases e3
      ·rw [e] at e3; exact e2 e3) (by
      rcases h6 with e | e
      ·rcases hold.ft with e' | ⟨e', _⟩
       ·exact .inr fun id hid => by rw [e, e'] at hid; cases hid
       ·exact .inl (e.trans e')
      ·exact .inr e) (h7 _ _ (Old.refl hold.at_))
    simp -dsimp [zkh f2.gAt hb]
    refine f2.store hb h3.zl fun h8 f3 => ?_
    simp -dsimp [zhg (n := k) (by omega)]
    refine hY (n - (k + 1)) _ _ (by omega) ⟨k + 1, _, _, _, by omega, by simp, f3, fun j hj => ?_, fun j i c hj hi hc => ?_, fun j hj => ?_⟩
    ·by_cases e : j = k
     ·subst e; rw [ze6, ze6]
     ·rw [zkd _ _ e, zkd _ _ e]; exact hgs j hj
    ·by_cases e : j = k
     ·subst e
      rw [ze6, List.getElem?_append_left hi] at hc
      have := mX j hb i c hc
      rwa [Nat.zero_add] at this
     ·rw [zkd _ _ e] at hc; exact mF j i c hj hi hc
    ·by_cases e : j = k
     ·subst e; rw [ze6]; simp
     ·rw [zkd _ _ e]; exact lF j hj
 ·exact dlat5 S hx fs hn (fun j hj => (hl j hj).1) hgs mX mF lF hq
theorem dlat3 (S : ElD C E Mk v) (hx : SlX h0 1 x (zgo n fun j => [xs j]) W) (fs : FD E h0 h v5 n xs X ys F gs) (hn : n ≤ 100000000) (hl : ∀ j, j < n → (X j).length ≤ 4611686018427380000 ∧ ((X j).length + 64) * E.bytes ≤ 140737488355328)
  (hgs : ∀ j, j < n → gs j = ys j) (mX : ∀ j, j < n → zj6 Mk h0 j 0 (X j)) (mF : ∀ j, j < n → zj6 Mk h0 j 0 (F j)) (lF : ∀ j, j < n → (F j).length = (X j).length + 64) (hq : ∀ h', h0.le h' → Q (.bool true) h') : zg (zcf.l59 E C Q x v5) [.int .i64 0] h := by
 refine zg.intro (fun t vs hh => ∃ k : Nat, k + t = n ∧ vs = [.int .i64 k] ∧ h.le hh) n ?_ ⟨0, by simp, by simp, za.le_refl h⟩
 rintro Y t vs hh ⟨k, ht, rfl, hle⟩ hY
 have fs1 := fs.grow hle
 have hx' := hx.mono fs1.own.le
 simp -dsimp [zub hx']
 refine B.ze (fun hb => ?_) (fun hb => ?_) <;> simp -dsimp at hb ⊢
 ·refine zg.intro (fun t vs h2 => ∃ i : Nat, i + t = (X k).length + 64 ∧ vs = [.int .i64 i] ∧ h.le h2) ((X k).length + 64) ?_ ⟨0, by simp, by simp, hle⟩
  rintro Z t' vs h3 ⟨i, hi, rfl, hle3⟩ hZ
  have f3 := fs.grow hle3
  have hx' := hx.mono f3.own.le
  have hold := (f3.old k hb).at_
  have hlk := (hl k hb).1
  have hlx := hold.zi
  have hyk := f3.yAt hb
  have hly := hyk.zi
  rw [lF k hb] at hly
  have e3 := zrh f3.gAt hb
  rw [hgs k hb] at e3
  simp -dsimp [zkh f3.gAt hb, e3, hly]
  refine B.ze (fun hc => ?_) (fun hc => ?_)
  ·have hc : i < (X k).length + 64 := by simp at hc; omega
   have hlF := lF k hb
   obtain ⟨c2, hc2⟩ := zc6 (L := F k) (k := i) (by omega)
   have m2 := mF k hb i c2 hc2
   rw [Nat.zero_add] at m2
   have e2 : V.idxS E.es (ys k) (.int .i64 (i : Int)) = some (elp E.es (ys k) i 0) := hyk.idxN (by omega)
   simp -dsimp only [zkh f3.gAt hb, e3, e2, B.zf, B.zh0]
   refine S.ld hyk hc2 ?_
   refine S.call _ _ _ _ fun c4 h4 l4 o4 mk4 => ?_
   have f4 := f3.grow o4.le
   have hx4 := hx.mono f4.own.le
   refine keepD2 (ls_kp2 f3.gAt f4.gAt hb) (S.kpt hyk (f4.yAt hb) hc2) ?_
   refine S.eq (S.mono f4.own.le m2) (mk4 h4 o4.is) ?_
   by_cases hd : i < (X k).length
   ·obtain ⟨c1, hc1⟩ := zc6 (L := X k) (k := i) hd
    have m1 := mX k hb i c1 hc1
    rw [Nat.zero_add] at m1
    have hold4 := (f4.old k hb).at_
    have e1 : V.idxS E.es (xs k) (.int .i64 (i : Int)) = some (elp E.es (xs k) i 0) := hold.idxN hd
    simp -dsimp [zkh hx4 hb, zrh hx4 hb, hlx, hd, e1]
    refine S.ld hold4 hc1 ?_
    refine S.call _ _ _ _ fun c5 h5 l5 o5 mk5 => ?_
    have f5 := f4.grow o5.le
    refine keepD2 (ls_kp2 hx4 (hx.mono f5.own.le) hb) (S.kpt hold4 ((f5.old k hb).at_) hc1) ?_
    simp -dsimp
    refine S.eq (S.mono f5.own.le m1) (mk5 h5 o5.is) ?_
    simp -dsimp [zhg (n := i) (by omega)]
    exact hZ ((X k).length + 64 - (i + 1)) _ _ (by omega) ⟨i + 1, by omega, by simp, za.le_trans hle3 (za.le_trans o4.le o5.le)⟩
   ·simp -dsimp [zkh hx4 hb, zrh hx4 hb, hlx, hd]
    simp -dsimp [zhg (n := i) (by omega)]
    exact hZ ((X k).length + 64 - (i + 1)) _ _ (by omega) ⟨i + 1, by omega, by simp, za.le_trans hle3 o4.le⟩
  ·simp -dsimp [zhg (n := k) (by omega)]
   exact hY (n - (k + 1)) _ _ (by omega) ⟨k + 1, by omega, by simp, hle3⟩
 ·exact dlat4 S (hx := hx) (fs := fs1) hn hl hgs mX (fun j i c hj hi hc => by have := mF j hj i c hc; rwa [Nat.zero_add] at this) (fun j hj => by rw [lF j hj]; omega) hq
theorem dlat2 (S : ElD C E Mk v) (hx : SlX h0 1 x (zgo n fun j => [xs j]) W) (fs : FD E h0 h v5 n xs X xs X gs) (hn : n ≤ 100000000) (hl : ∀ j, j < n → (X j).length ≤ 4611686018427380000 ∧ ((X j).length + 64) * E.bytes ≤ 140737488355328)
  (mX : ∀ j, j < n → zj6 Mk h0 j 0 (X j)) (hq : ∀ h', h0.le h' → Q (.bool true) h') : zg (zcf.l82 E C Q x v5) [.int .i64 0] h := by
 refine zg.intro (fun t vs hh => ∃ (k : Nat) (hb0 : za) (ys gs : Nat → AVal) (F : Nat → List (List AVal)), k + t = n ∧ vs = [.int .i64 k] ∧ h0.le hb0 ∧ FD E hb0 hh v5 n xs X ys F gs ∧ (∀ j, j < k → gs j = ys j ∧ zj6 Mk hb0 j 0 (F j) ∧ (F j).length = (X j).length + 64) ∧ ∀ j, k ≤ j → ys j = xs j ∧ F j = X j) n ?_
  ⟨0, h0, _, gs, _, by simp, by simp, za.le_refl h0, fs, by simp, fun j _ => ⟨rfl, rfl⟩⟩
 rintro Y t vs h ⟨k, hb0, ys, gs, F, ht, rfl, hle0, fs, hlo, hhi⟩ hY
 have hx0 := hx.mono hle0
 have hx' := hx0.mono fs.own.le
 simp -dsimp [zub hx']
 refine B.ze (fun hb => ?_) (fun hb => ?_) <;> simp -dsimp at hb ⊢
 ·have hk := hhi k (Nat.le_refl k)
  have hlk := hl k hb
  simp -dsimp [zkh hx' hb, zrh hx' hb]
  refine zg.intro (fun t vs hh => ∃ (i : Nat) (y : AVal) (hb1 : za) (M : List (List AVal)), i + t = 64 ∧ vs = [y, .int .i64 i] ∧ hb0.le hb1 ∧ M.length = i ∧ zj6 Mk hb1 k (X k).length M ∧ FD E hb1 hh v5 n xs X (upf ys k y) (upf F k (X k ++ M)) gs) 64 ?_ ⟨0, xs k, hb0, [], by simp, by simp, za.le_refl hb0, rfl, zj6.nil _ _ _ _, ?_⟩
  ·rintro Z t' vs hh ⟨i, y, hb1, M, hi, rfl, hle1, hM, mM, f1⟩ hZ
   have hx1 := (hx0.mono hle1).mono f1.own.le
   have hold := (f1.old k hb).at_
   have hlx := hold.zi
   have ey : upf ys k y k = y := ze6 ..
   simp -dsimp
   refine B.ze (fun hc => ?_) (fun hc => ?_) <;> simp -dsimp at hc ⊢
   ·have e1 : IntKind.i64.wrap (((X k).length : Int) + i) = (((X k).length + i : Nat) : Int) := by rw [wrap_i64 (by omega) (by omega)]; omega
    simp -dsimp only [zkh hx1 hb, zrh hx1 hb, hlx, B.zf, B.zh0, V.zet, e1]
    refine S.call _ _ _ _ fun c2 h2 l2 o2 mk2 => ?_
    obtain ⟨hb2, q1, q2, f2, hat⟩ := f1.rebase o2
    have mc := mk2 hb2 hat
    rw [S.new mc]
    have hbound : ((X k).length + i + 1) * E.bytes ≤ 140737488355328 := Nat.le_trans (Nat.mul_le_mul_right _ (by omega)) hlk.2
    have := f2.push S hb (cs := c2) (S.len mc) (by rw [ze6, List.length_append, hM]; exact hbound) (by rw [ze6, List.length_append, hM]; simp [maxLen]; omega) (K := fun v68 h => B.pv (V.bin .add (.int .i64 (i : Int)) (.int .i64 1)) fun v56 => Z [v68, v56] h) fun y' h3 f3 => ?_
    ·rw [ey] at this; exact this
    ·simp -dsimp [zhg (n := i) (by omega)]
     refine hZ (64 - (i + 1)) _ _ (by omega) ⟨i + 1, y', hb2, M ++ [c2], by omega, by simp, za.le_trans hle1 q1, by simp [hM], (mM.mono S q1).snoc (by rw [hM]; exact mc), ?_⟩
     rw [ztc, ztc, ze6, List.append_assoc] at f3
     exact f3
   ·have hi64 : i = 64 := by omega
    subst hi64
    simp -dsimp [zkh f1.gAt hb]
    have hyc := (f1.yAt hb).zl
    rw [ey] at hyc
    refine f1.store hb hyc fun h2 f2 => ?_
    simp -dsimp [zhg (n := k) (by omega)]
    have hle2 := za.le_trans hle0 hle1
    refine hY (n - (k + 1)) _ _ (by omega) ⟨k + 1, hb1, _, _, _, by omega, by simp, hle2, f2, fun j hj => ?_, fun j hj => ?_⟩
    ·by_cases e : j = k
     ·subst e; rw [ze6, ze6, ze6]
      refine ⟨rfl, ?_, by rw [List.length_append, hM]⟩
      refine ((mX j hb).mono S hle2).append ?_
      rw [Nat.zero_add]; exact mM
     ·rw [zkd _ _ e, zkd _ _ e, zkd _ _ e]
      have := hlo j (by omega)
      exact ⟨this.1, this.2.1.mono S hle1, this.2.2⟩
    ·rw [zkd _ _ (by omega), zkd _ _ (by omega)]; exact hhi j (by omega)
  ·have e1 : upf ys k (xs k) = ys := by rw [← hk.1, zm1]
   have e2 : upf F k (X k ++ []) = F := by rw [List.append_nil, ← hk.2, zm1]
   rw [e1, e2]; exact fs
 ·have : k = n := by omega
  subst this
  exact dlat3 S hx0 fs hn hl (fun j hj => (hlo j hj).1) (fun j hj => (mX j hj).mono S hle0) (fun j hj => (hlo j hj).2.1) (fun j hj => (hlo j hj).2.2) fun h' hle => hq h' (za.le_trans hle0 hle)
theorem zvm (S : ElD C E Mk v) {D R : Nat → List (List AVal)} (hx : SlX h0 1 x (zgo n fun j => [xs j]) W) (ho : Owns h0 h (Objs E.es n xs D R)) (hn : n ≤ 100000000) (hl : ∀ j, j < n → (D j).length ≤ 4611686018427380000 ∧ ((D j).length + 64) * E.bytes ≤ 140737488355328)
  (hq : ∀ h', h0.le h' → Q (.bool true) h') : zcf E C x h Q := by
 refine zg.intro (fun t vs hh => ∃ (k : Nat) (hb0 : za) (G : Nat → List (List AVal)), k + t = n ∧ vs = [.int .i64 k] ∧ h0.le hb0 ∧ Owns hb0 hh (Objs E.es n xs G R) ∧ (∀ j, j < k → zj6 Mk hb0 j 0 (G j) ∧ (G j).length = (D j).length) ∧ ∀ j, k ≤ j → G j = D j) n ?_
  ⟨0, h0, D, by simp, by simp, za.le_refl h0, ho, by simp, fun j _ => rfl⟩
 rintro Y t vs h ⟨k, hb0, G, ht, rfl, hle0, ho, hlo, hhi⟩ hY
 have hx0 := hx.mono hle0
 have hx' := hx0.mono ho.le
 simp -dsimp [zub hx']
 refine B.ze (fun hb => ?_) (fun hb => ?_) <;> simp -dsimp at hb ⊢
 ·have hlk := (hl k hb).1
  have hgk := hhi k (Nat.le_refl k)
  refine zg.intro (fun t vs hh => ∃ (i : Nat) (hb1 : za) (M : List (List AVal)), i + t = (D k).length ∧ vs = [.int .i64 i] ∧ hb0.le hb1 ∧ M.length = i ∧ zj6 Mk hb1 k 0 M ∧ Owns hb1 hh (Objs E.es n xs (upf G k (M ++ (D k).drop i)) R)) (D k).length ?_ ⟨0, hb0, [], by simp, by simp, za.le_refl hb0, rfl, zj6.nil _ _ _ _, ?_⟩
  ·rintro Z t' vs hh ⟨i, hb1, M, hi, rfl, hle1, hM, mM, ho1⟩ hZ
   have hx1 := (hx0.mono hle1).mono ho1.le
   have hxk := ho1.slAt k (Objs.get hb)
   rw [ze6] at hxk
   have hlx := hxk.zi
   have hll : (M ++ (D k).drop i).length = (D k).length := by simp; omega
   rw [hll] at hlx
   simp -dsimp [zkh hx1 hb, zrh hx1 hb, hlx]
   refine B.ze (fun hc => ?_) (fun hc => ?_) <;> simp -dsimp at hc ⊢
   ·have hlt : i < (M ++ (D k).drop i).length := by omega
    simp -dsimp only [zkh hx1 hb, zrh hx1 hb, B.zf, B.zh0]
    refine S.call _ _ _ _ fun c2 h2 l2 o2 mk2 => keepD1 (ls_kp2 hx1 (hx1.mono o2.le) hb) ?_
    obtain ⟨hb2, q1, q2, ho2, hat⟩ := ho1.rebase o2
    have hxk2 := ho2.slAt k (Objs.get hb)
    rw [ze6] at hxk2
    simp -dsimp only [hxk2.idxN hlt, B.zf]
    have hget : (M ++ (D k).drop i)[i]? = some (D k)[i] := by
     rw [List.getElem?_append_right (by omega), hM, Nat.sub_self, List.getElem?_drop]; simp [hc]
    refine S.st hxk2 (ho2.zod k (Objs.get hb)) hget (mk2 h2 o2.is) fun h3 h4 h5 h6 => ?_
    have hset : (M ++ (D k).drop i).set i c2 = (M ++ [c2]) ++ (D k).drop (i + 1) := by
     rw [List.set_append_right _ _ (by omega), hM, Nat.sub_self, List.drop_eq_getElem_cons hc, List.set_cons_zero, List.append_assoc]; rfl
    rw [hset] at h4
    have h7 := ho2.turn k (Objs.get hb) (o' := .sl E.es (xs k) _ (R k)) h4 h5 h6 (.inl rfl)
    rw [Objs.set, zm1, zm1, ztc] at h7
    simp -dsimp [zhg (n := i) (by omega)]
    exact hZ ((D k).length - (i + 1)) _ _ (by omega) ⟨i + 1, hb2, M ++ [c2], by omega, by simp, za.le_trans hle1 q1, by simp [hM], (mM.mono S q1).snoc (by rw [Nat.zero_add, hM]; exact mk2 hb2 hat), h7⟩
   ·have hie : i = (D k).length := by omega
    rw [hie, List.drop_length, List.append_nil] at ho1
    simp -dsimp [zhg (n := k) (by omega)]
    refine hY (n - (k + 1)) _ _ (by omega) ⟨k + 1, hb1, _, by omega, by simp, za.le_trans hle0 hle1, ho1, fun j hj => ?_, fun j hj => ?_⟩
    ·by_cases e : j = k
     ·subst e; rw [ze6]; exact ⟨mM, by omega⟩
     ·rw [zkd _ _ e]
      have := hlo j (by omega)
      exact ⟨this.1.mono S hle1, this.2⟩
    ·rw [zkd _ _ (by omega)]; exact hhi j (by omega)
  ·simp only [List.nil_append, List.drop_zero]
   rw [← hgk, zm1]; exact ho
 ·have : k = n := by omega
  subst this
  simp -dsimp only [zub hx', B.zf]
  refine ⟨Nat.one_pos, ?_⟩
  refine ho.mks (bytes := 24) (es := 1) (n := k) (c := k) (z := [.nils]) rfl (by omega) (by omega) (by omega) (by omega) fun y h1 ho1 => ?_
  have e1 : ((k : Int)).toNat = k := by simp
  rw [e1, Nat.sub_self, zvj] at ho1
  have ho2 := ho1.cutR
  exact dlat2 S hx0 ⟨ho2, fun j hj => Old.refl (ho2.slAt j (Objs.getA hj))⟩ hn (fun j hj => by rw [(hlo j hj).2]; exact hl j hj) (fun j hj => (hlo j hj).1) fun h' hle => hq h' (za.le_trans hle0 hle)
end
end Go.Ab
set_option maxRecDepth 100000
namespace Go.Ab
variable {C : CSem} {N : Nat → Nat}
abbrev sing (v : AVal) : List AVal := [v]
def zpx (h hh : za) (id : Nat) (B : Nat → List AVal) : Prop := ∃ xs : Nat → AVal, Owns h hh (Objs 1 23 xs (fun i => (B i).map sing) (fun _ => []) ++ [.box (.ptr id 0 0) (fill 23 xs)])
theorem Owns.nilObjs {h0 h : za} {l : List Ob} (ho : Owns h0 h l) (es n : Nat) : Owns h0 h (Objs es n (fun _ => .nils) (fun _ => []) (fun _ => []) ++ l) := by
 have mem : ∀ o ∈ Objs es n (fun _ => AVal.nils) (fun _ => []) (fun _ => []), o = .sl es .nils [] [] := fun o hm => by
  obtain ⟨j, _, rfl⟩ := List.mem_map.1 hm; rfl
 refine ⟨ho.le, fun o hm => ?_, fun o hm => ?_, List.pairwise_append.2 ⟨?_, ho.apart, fun a ha b _ id hf => by rw [mem a ha] at hf; cases hf⟩⟩
 ·rcases List.mem_append.1 hm with hm | hm
  ·rw [mem o hm]; exact SlX.nils h es
  ·exact ho.is o hm
 ·rcases List.mem_append.1 hm with hm | hm
  ·intro id hf; rw [mem o hm] at hf; cases hf
  ·exact ho.own o hm
 ·rw [List.pairwise_iff_forall_sublist]
  intro a b hs id hf
  rw [mem a (hs.subset (by simp))] at hf; cases hf
theorem zpx.start {h : za} {id : Nat} (hid : h id = none) : zpx h (upd h id (zel (fill 23 fun _ => .nils))) id fun _ => [] := by
 refine ⟨fun _ => .nils, ?_⟩
 have := ((Owns.start h).zmj hid (fill 23 fun _ => .nils)).nilObjs 1 23
 simpa using this
def putG (k : Nat) (v0 v1 : AVal) (h : za) (Q : AVal → za → Prop) : Prop :=
 B.nilCheck v0 fun v6 =>
  B.pv (V.fieldAddr k v6) fun v7 =>
  B.ld h v7 fun v8 =>
  B.newO h (zc7 [(0, none, v1)] (repL 1 [.nils])) fun i10 h =>
  B.appW h 1 24 v8 (.sl i10 0 0 1 1 1) fun v11 h =>
  B.nilCheck v0 fun v12 =>
  B.pv (V.fieldAddr k v12) fun v13 =>
  B.st h v13 v11 fun h =>
  Q (.tup []) h
theorem putG_spec {k : Nat} (hk : k < 23) {h hh : za} {id : Nat} {B : Nat → List AVal} {y : AVal} {Q : AVal → za → Prop} (hb : zpx h hh id B) (hy : y.zl = true) (hl : (B k).length ≤ 100000000) (hq : ∀ h', zpx h h' id (upf B k (B k ++ [y])) → Q (.tup []) h') : putG k (.ptr id 0 0) y hh Q := by
 obtain ⟨xs, ho⟩ := hb
 obtain ⟨id', e, hbx⟩ := ho.zhi 23 Objs.getL
 cases e
 have e1 : A.ldv hh (.ptr id 0 k) = some (xs k) := by rw [zeu hbx, zs8 _ hk]
 have hrep : repL 1 [AVal.nils] = [AVal.nils] := rfl
 simp -dsimp [putG, e1, hrep, hy]
 refine ho.push k (Objs.getA hk) rfl (by omega) (by simp; omega) (by simp [maxLen]; omega) fun x' h1 ho1 _ => ?_
 rw [Objs.setA hk, upf_const] at ho1
 have hcx := (ho1.slAt k (Objs.getA hk)).zl
 rw [ze6] at hcx
 simp -dsimp
 refine ho1.zrr 23 Objs.getL hcx (by simpa using hk) fun h2 ho2 _ => ?_
 rw [Objs.setL, fill_set] at ho2
 refine hq h2 ⟨upf xs k x', ?_⟩
 have e2 : upf (fun i => (B i).map sing) k ((B k).map sing ++ [[y]]) = fun i => (upf B k (B k ++ [y]) i).map sing := by
  funext i; unfold upf; split
  ·rename_i e; subst e; simp
  ·rfl
 rw [e2] at ho2
 exact ho2
section
variable {h0 h : za} {id : Nat} {B : Nat → List AVal} {D R : Nat → Nat → List (List AVal)} {xs : Nat → AVal} {Q : AVal → za → Prop}
end
end Go.Ab
set_option maxRecDepth 100000
namespace Go.Ab
variable {C : CSem} {N : Nat → Nat}
def PutSpec (C : CSem) (k g : Nat) : Prop := ∀ (h hh : za) (id : Nat) (B : Nat → List AVal) (y : AVal) (Q : AVal → za → Prop), zpx h hh id B → y.zl = true → (B k).length ≤ 100000000 → (∀ h', zpx h h' id (upf B k (B k ++ [y])) → Q (.tup []) h') → C g [.ptr id 0 0, y] hh Q
@[simp] def zqy.k1 (C : CSem) (fp fa : Nat) (Q : AVal → za → Prop) (Y1 : List AVal → za → Prop) (v0 v3 v4 : AVal) (h : za) : Prop :=
 B.pv (V.zi v0) fun v9 =>
  B.pv (V.bin .lss v4 v9) fun v10 =>
  B.cond v10
  (B.pv (V.idxS 1 v0 v4) fun v16 =>
  B.ld h v16 fun v17 =>
  B.call C fp [v3, v17] h fun v18 h =>
  B.pv (V.bin .add v4 (.int .i64 1)) fun v12 =>
  Y1 [v12] h)
  (B.call C fa [v3] h fun v20 h =>
  Q v20 h)
@[simp] def zqy.l2 (C : CSem) (fp fa : Nat) (Q : AVal → za → Prop) (v0 v3 : AVal) : List AVal → za → (List AVal → za → Prop) → Prop
 | [v4], h, Y1 => zqy.k1 C fp fa Q Y1 v0 v3 v4 h
 | _, _, _ => False
def zqy (C : CSem) (fp fa : Nat) (v0 : AVal) (h : za) (Q : AVal → za → Prop) : Prop :=
 B.pv (A.bld [] [.nils, .nils, .nils, .nils, .nils, .nils, .nils, .nils, .nils, .nils, .nils, .nils, .nils, .nils, .nils, .nils, .nils, .nils, .nils, .nils, .nils, .nils, .nils]) fun v5 =>
  B.newO h (A.zk9 23 v5) fun i6 h =>
  zg (zqy.l2 C fp fa Q v0 (.ptr i6 0 0)) [(.int .i64 0)] h
theorem zpx.le {h hh : za} {id : Nat} {B : Nat → List AVal} (hb : zpx h hh id B) : h.le hh := by obtain ⟨_, ho⟩ := hb; exact ho.le
@[simp] theorem Objs_zero {es : Nat} {xs : Nat → AVal} {D R : Nat → List (List AVal)} : Objs es 0 xs D R = [] := rfl
theorem zcs.spec (i : zcs.Imp C N) : PutSpec C 4 (N 63) := fun h hh id B y Q hb hy hl hq => i _ _ hh Q (putG_spec (k := 4) (by omega) hb hy hl fun h' hb' => zj (hq h' hb'))
end Go.Ab
set_option maxRecDepth 100000
namespace Go.Ab
variable {C : CSem} {N : Nat → Nat}
structure LL.okL (lim : Nat) (t : LL) (h0 : za) : Prop where
 is : SlX h0 1 t.x (zgo t.n fun j => [t.xs j]) t.W
 n_le : t.n ≤ 100000000
 len_le : ∀ j, j < t.n → (t.D j).length ≤ lim
def ziy (C : CSem) (es lim g : Nat) : Prop := ∀ (t : LL) (h0 h : za) (Q : AVal → za → Prop), t.okL lim h0 → Owns h0 h (t.obs es) → (∀ h', h0.le h' → Q (.bool true) h') → C g [t.x] h Q
theorem elDF {T Ad : Type} [DecidableEq T] (K : DK T Ad) {f g : Nat} {mk : Int → Int → T} (hmk : ∀ k i, K.ok (mk k i)) (s1 : MarkE K mk C f) (s2 : SameE K C g) :
  ElD C (opsD C K.n K.bytes K.z f g) (fun h k i c => ∃ a, c = K.cells (mk k i) a ∧ K.at_ h (mk k i) a) AVal.agg where
 pos := K.pos
 zlen := K.zlen
 len := by rintro h k i c ⟨a, rfl, _⟩; exact K.len _ a
 mono := by rintro h h' k i c hle ⟨a, rfl, ha⟩; exact ⟨a, rfl, K.mono hle ha⟩
 new := by rintro h k i c ⟨a, rfl, _⟩; exact zqt K _ a
 call k i h Q hq := s1 k i h Q fun a h' o => hq _ h' _ o fun h1 ha => ⟨a, rfl, K.zuy (hmk k i) ha⟩
 ld hs hc hk := by
  simp only [opsD, B.zij] at hs ⊢
  rw [hs.elem hc]; exact hk
 kpt hs hs' hc := ⟨_, hs.elem hc, hs'.elem hc⟩
 st := by
  rintro h x L R i c c0 k j Q hs hown hc0 ⟨a, rfl, ha⟩ hk
  have hs' : SlX h K.n x L R := hs
  refine hs'.stn hown hc0 (K.len _ a) (by simp) ?_
  have hcl : c0.length = K.n := hs'.len c0 (List.mem_append_left _ (List.mem_of_getElem? hc0))
  have e : c0.take 0 ++ K.cells (mk k j) a ++ c0.drop (0 + K.n) = K.cells (mk k j) a := by simp [hcl]
  rw [e]; exact hk
 eq := by
  rintro h k i c c' Q ⟨a, rfl, ha⟩ ⟨b, rfl, hb⟩ hk
  refine s2 _ _ _ _ _ _ ha hb ?_
  rw [decide_eq_true rfl]; exact hk
theorem elDB {f : Nat} (s1 : ∀ (k i : Int) (h : za) (Q : AVal → za → Prop), Q (.int .u8 ((zg7 k i).toNat : Int)) h → C f [.int .i64 k, .int .i64 i] h Q) : ElD C (opsS 1 (.int .u8 0) f) (fun _ k i c => c = bc (zg7 k i)) (fun c => c.headD .nils) where
 pos := Nat.one_pos
 zlen := rfl
 len := by rintro h k i c rfl; rfl
 mono := fun _ h => h
 new := by
  rintro h k i c rfl
  show zc7 [(0, none, AVal.int .u8 ((zg7 k i).toNat : Int))] (repL 1 [.int .u8 0]) = some [AVal.int .u8 ((zg7 k i).toNat : Int)]
  simp [repL]
 call k i h Q hq := s1 k i h Q (hq (bc (zg7 k i)) h [] (Owns.start h) fun _ _ => rfl)
 ld {h x L R i c K} hs hc hk := by
  have hs' : SlX h 1 x L R := hs
  have hcl : c.length = 1 := hs'.len c (List.mem_append_left _ (List.mem_of_getElem? hc))
  obtain ⟨u, rfl⟩ := List.length_eq_one_iff.1 hcl
  simp only [opsS, B.zh0] at hs ⊢
  rw [hs'.cell hc]; exact hk
 kpt {h h' x L R i c} hs hs2 hc := by
  have hs' : SlX h 1 x L R := hs
  have hcl : c.length = 1 := hs'.len c (List.mem_append_left _ (List.mem_of_getElem? hc))
  obtain ⟨u, rfl⟩ := List.length_eq_one_iff.1 hcl
  exact ⟨_, hs'.cell hc, SlX.cell hs2 hc⟩
 st := by
  rintro h x L R i c c0 k j Q hs hown hc0 rfl hk
  have hs' : SlX h 1 x L R := hs
  have hcl : c0.length = 1 := hs'.len c0 (List.mem_append_left _ (List.mem_of_getElem? hc0))
  obtain ⟨u, rfl⟩ := List.length_eq_one_iff.1 hcl
  exact hs'.st hown hc0 (by omega) rfl hk
 eq := by
  rintro h k i c c' Q rfl rfl hk
  show B.pv (V.bin .eql (AVal.int .u8 ((zg7 k i).toNat : Int)) (AVal.int .u8 ((zg7 k i).toNat : Int))) fun v => Q v h
  simp only [V.zrv, decide_true, B.zf]; exact hk
theorem zei.spl (i : zei.Imp C N) (s1 : zc9.Spec C N) : ziy C 1 140737488351232 (N 84) := fun t h0 h Q ht ho hq =>
 i t.x h Q (zvm (elDB s1) ht.is ho ht.n_le (fun j hj => by have := ht.len_le j hj; exact ⟨by omega, by simp [opsS]; omega⟩) fun h' hle => zj (hq h' hle))
theorem flatD_spec {T Ad : Type} [DecidableEq T] (K : DK T Ad) {f g : Nat} {mk : Int → Int → T} (hmk : ∀ k i, K.ok (mk k i)) (s1 : MarkE K mk C f) (s2 : SameE K C g) (t : LL) {h0 h : za} {Q : AVal → za → Prop} (ht : t.okL 100000000 h0) (ho : Owns h0 h (t.obs K.n)) (hq : ∀ h', h0.le h' → Q (.bool true) h') :
  zcf (opsD C K.n K.bytes K.z f g) C t.x h Q := by
 refine zvm (elDF K hmk s1 s2) ht.is ho ht.n_le (fun j hj => ?_) hq
 have := ht.len_le j hj
 have h2 := Nat.mul_le_mul (show (t.D j).length + 64 ≤ 100000064 by omega) K.small
 exact ⟨by omega, by show ((t.D j).length + 64) * K.bytes ≤ _; omega⟩
theorem zt.spec (i : zt.Imp C N) (s1 : zd5.Spec C N) (s2 : zdw.Spec C N) : ziy C 2 100000000 (N 95) := fun t h0 h Q ht ho hq =>
 i t.x h Q (flatD_spec rowK markRow_ok s1 s2 t ht ho fun h' hle => zj (hq h' hle))
structure BagK where
 es : Nat → Nat
 lim : Nat → Nat
 full : Nat → Bool
abbrev LK := List (AVal × List (List AVal))
def obK (es : Nat) (q : AVal × List (List AVal)) : Ob := .sl es q.1 q.2 []
def LK.ll (l : LK) (x : AVal) : LL := ⟨x, l.length, fun j => (l.getD j (.nils, [])).1, fun j => (l.getD j (.nils, [])).2, fun _ => [], []⟩
theorem LK.obs (l : LK) (x : AVal) (es : Nat) : (l.ll x).obs es = l.map (obK es) := by
 apply List.ext_getElem?
 intro j
 unfold LL.obs LK.ll
 by_cases hj : j < l.length
 ·rw [Objs.get hj, List.getElem?_map, List.getElem?_eq_getElem hj]
  simp [obK, hj]
 ·rw [List.getElem?_eq_none (by simp; omega), List.getElem?_eq_none (by simp; omega)]
theorem LK.zgo (l : LK) : zgo l.length (fun j => [(l.getD j (.nils, [])).1]) = l.map fun q => [q.1] := by
 apply List.ext_getElem?
 intro j
 by_cases hj : j < l.length
 ·rw [zmm _ hj, List.getElem?_map, List.getElem?_eq_getElem hj]; simp [hj]
 ·rw [List.getElem?_eq_none (by simp; omega), List.getElem?_eq_none (by simp; omega)]
def zgi (C : CSem) (b : BagK) (i g : Nat) : Prop := (b.full i = true → ziy C (b.es i) (b.lim i) g) ∧ (b.full i = false → zbv C g)
structure BagL (b : BagK) (h0 : za) (id : Nat) (L : Nat → LK) (xs : Nat → AVal) : Prop where
 box : h0 id = some (zel (fill 23 xs))
 is : ∀ i, i < 23 → SlX h0 1 (xs i) ((L i).map fun q => [q.1]) []
 none : ∀ i, i < 23 → b.full i = false → L i = []
 n_le : ∀ i, i < 23 → (L i).length ≤ 100000000
 len_le : ∀ i, i < 23 → ∀ q ∈ L i, q.2.length ≤ b.lim i
def bagOb (b : BagK) (L : Nat → LK) (i n : Nat) : List Ob := (List.range' i n).flatMap fun i => (L i).map (obK (b.es i))
theorem bagOb_succ (b : BagK) (L : Nat → LK) (i n : Nat) : bagOb b L i (n + 1) = (L i).map (obK (b.es i)) ++ bagOb b L (i + 1) n := by
 simp [bagOb, List.range'_succ]
section
variable {b : BagK} {h0 h : za} {id : Nat} {L : Nat → LK} {xs : Nat → AVal} {Q : AVal → za → Prop}
theorem BagL.ld (hb : BagL b h0 id L xs) (hle : h0.le h) {i : Nat} (hi : i < 23) : A.ldv h (.ptr id 0 i) = some (xs i) := by
 rw [zeu (hle _ _ hb.box), zs8 _ hi]
theorem zf1 {g : Nat} (i : Nat) (s : zgi C b i g) (hb : BagL b h0 id L xs) (n : Nat) (hi : i < 23) (ho : Owns h0 h (bagOb b L i (n + 1))) (hq : ∀ h', Owns h0 h' (bagOb b L (i + 1) n) → Q (.bool true) h') : C g [xs i] h Q := by
 rw [bagOb_succ] at ho
 cases hf : b.full i with
 | true =>
  obtain ⟨q1, q2⟩ := (ho.perm List.perm_append_comm).out
  have hx := (hb.is i hi).mono q1.le
  rw [← LK.zgo] at hx
  rw [← LK.obs (L i) (xs i)] at q1 q2
  refine s.1 hf ((L i).ll (xs i)) _ h Q ⟨by rw [← LK.obs (L i) (xs i)] at hx; exact hx, hb.n_le i hi, fun j hj => ?_⟩ q2 fun h' hle => hq h' (q1.grow hle)
  have hj' : j < (L i).length := hj
  show ((L i).getD j (.nils, [])).2.length ≤ _
  rw [List.getD_eq_getElem?_getD, List.getElem?_eq_getElem hj']
  exact hb.len_le i hi _ (List.getElem_mem hj')
 | false =>
  have e := hb.none i hi hf
  have hx := hb.is i hi
  rw [e] at hx ho
  simp only [List.map_nil, List.nil_append] at hx ho
  exact s.2 hf (xs i) [] h h Q (hx.mono ho.le) (za.le_refl h) fun h' hle => hq h' (ho.grow hle)
end
def ApartK (C : CSem) (b : BagK) (g : Nat) : Prop := ∀ (id : Nat) (L : Nat → LK) (xs : Nat → AVal) (h0 h : za) (Q : AVal → za → Prop), BagL b h0 id L xs → Owns h0 h (bagOb b L 0 23) → (∀ h', h0.le h' → Q (.bool true) h') → C g [.ptr id 0 0] h Q
theorem bag_apartK (i : zdt.Imp C N) (b : BagK) (f0 : zgi C b 0 (N 80)) (f1 : zgi C b 1 (N 81)) (f2 : zgi C b 2 (N 82)) (f3 : zgi C b 3 (N 83)) (f4 : zgi C b 4 (N 84)) (f5 : zgi C b 5 (N 85)) (f6 : zgi C b 6 (N 86)) (f7 : zgi C b 7 (N 87)) (f8 : zgi C b 8 (N 88))
  (f9 : zgi C b 9 (N 89)) (f10 : zgi C b 10 (N 90)) (f11 : zgi C b 11 (N 91)) (f12 : zgi C b 12 (N 92)) (f13 : zgi C b 13 (N 93)) (f14 : zgi C b 14 (N 94)) (f15 : zgi C b 15 (N 95)) (f16 : zgi C b 16 (N 96)) (f17 : zgi C b 17 (N 97)) (f18 : zgi C b 18 (N 98)) (f19 : zgi C b 19 (N 99))
  (f20 : zgi C b 20 (N 100)) (f21 : zgi C b 21 (N 101)) (f22 : zgi C b 22 (N 102)) : ApartK C b (N 62) := by
 intro id L xs h0 h Q hb ho hq
 apply i
 simp -dsimp [hb.ld ho.le (i := 0) (by omega)]
 refine zf1 0 f0 hb 22 (by omega) ho fun h ho => ?_
 simp -dsimp [hb.ld ho.le (i := 1) (by omega)]
 refine zf1 1 f1 hb 21 (by omega) ho fun h ho => ?_
 simp -dsimp [hb.ld ho.le (i := 2) (by omega)]
 refine zf1 2 f2 hb 20 (by omega) ho fun h ho => ?_
 simp -dsimp [hb.ld ho.le (i := 3) (by omega)]
 refine zf1 3 f3 hb 19 (by omega) ho fun h ho => ?_
 simp -dsimp [hb.ld ho.le (i := 4) (by omega)]
 refine zf1 4 f4 hb 18 (by omega) ho fun h ho => ?_
 simp -dsimp [hb.ld ho.le (i := 5) (by omega)]
 refine zf1 5 f5 hb 17 (by omega) ho fun h ho => ?_
 simp -dsimp [hb.ld ho.le (i := 6) (by omega)]
 refine zf1 6 f6 hb 16 (by omega) ho fun h ho => ?_
 simp -dsimp [hb.ld ho.le (i := 7) (by omega)]
 refine zf1 7 f7 hb 15 (by omega) ho fun h ho => ?_
 simp -dsimp [hb.ld ho.le (i := 8) (by omega)]
 refine zf1 8 f8 hb 14 (by omega) ho fun h ho => ?_
 simp -dsimp [hb.ld ho.le (i := 9) (by omega)]
 refine zf1 9 f9 hb 13 (by omega) ho fun h ho => ?_
 simp -dsimp [hb.ld ho.le (i := 10) (by omega)]
 refine zf1 10 f10 hb 12 (by omega) ho fun h ho => ?_
 simp -dsimp [hb.ld ho.le (i := 11) (by omega)]
 refine zf1 11 f11 hb 11 (by omega) ho fun h ho => ?_
 simp -dsimp [hb.ld ho.le (i := 12) (by omega)]
 refine zf1 12 f12 hb 10 (by omega) ho fun h ho => ?_
 simp -dsimp [hb.ld ho.le (i := 13) (by omega)]
 refine zf1 13 f13 hb 9 (by omega) ho fun h ho => ?_
 simp -dsimp [hb.ld ho.le (i := 14) (by omega)]
 refine zf1 14 f14 hb 8 (by omega) ho fun h ho => ?_
 simp -dsimp [hb.ld ho.le (i := 15) (by omega)]
 refine zf1 15 f15 hb 7 (by omega) ho fun h ho => ?_
 simp -dsimp [hb.ld ho.le (i := 16) (by omega)]
 refine zf1 16 f16 hb 6 (by omega) ho fun h ho => ?_
 simp -dsimp [hb.ld ho.le (i := 17) (by omega)]
 refine zf1 17 f17 hb 5 (by omega) ho fun h ho => ?_
 simp -dsimp [hb.ld ho.le (i := 18) (by omega)]
 refine zf1 18 f18 hb 4 (by omega) ho fun h ho => ?_
 simp -dsimp [hb.ld ho.le (i := 19) (by omega)]
 refine zf1 19 f19 hb 3 (by omega) ho fun h ho => ?_
 simp -dsimp [hb.ld ho.le (i := 20) (by omega)]
 refine zf1 20 f20 hb 2 (by omega) ho fun h ho => ?_
 simp -dsimp [hb.ld ho.le (i := 21) (by omega)]
 refine zf1 21 f21 hb 1 (by omega) ho fun h ho => ?_
 simp -dsimp [hb.ld ho.le (i := 22) (by omega)]
 refine zf1 22 f22 hb 0 (by omega) ho fun h ho => ?_
 try simp -dsimp
 exact zj (hq _ ho.le)
def zbh.Spec (C : CSem) (N : Nat → Nat) : Prop := ∀ (n : Nat) (h : za) (Q : AVal → za → Prop), n ≤ 100000000 → (∀ x h' R, Owns h h' [.sl 1 x [] R] → Q x h') → C (N 444) [.nils, .int .i64 (n : Int)] h Q
theorem zbh.spec (i : zbh.Imp C N) : zbh.Spec C N := by
 intro n h Q hn hq
 apply i
 have e0 : V.bin .lss (.int .i64 (n : Int)) (.int .i64 0) = some (.bool (decide (n < 0))) := lssN (b := 0)
 have e1 : V.bin .sub (.int .i64 0) (.int .i64 0) = some (.int .i64 0) := rfl
 have e2 : V.bin .sub (.int .i64 (n : Int)) (.int .i64 0) = some (.int .i64 (n : Int)) := subNN (b := 0) (by omega) (by omega)
 simp -dsimp only [zbh.cps, zg0.cps, zg0.k1, e0, e1, e2, V.capSl, V.zi, V.bin_gtr, B.zf, Nat.not_lt_zero, decide_false, B.cond_false]
 refine B.ze (fun hb => ?_) (fun hb => ?_)
 ·have hb : 0 < n := by simpa using hb
  have e3 : V.zfs (opsS 1 (.int .u8 0) 0).es .nils none (some (.int .i64 0)) = some .nils := rfl
  have ec : V.capSl .nils = some (.int .i64 0) := rfl
  have el : V.zi .nils = some (.int .i64 0) := rfl
  simp -dsimp only [ec, e3, B.zf]
  refine ⟨⟨rfl, by omega, by simp [opsS]; omega, by simp [maxLen]; omega⟩, fun id hid => ?_⟩
  have hr : repL (n : Int).toNat (opsS 1 (.int .u8 0) 0).z = List.replicate n (.int .u8 0) := by rw [Int.toNat_natCast]; exact repL_one n _
  rw [hr]
  have o := (Owns.start h).zof (id := id) (n := n) (cp := n) (es := 1) (cs := List.replicate n (.int .u8 0)) (L := List.replicate n [.int .u8 0]) (R := []) hid (by simp) (by simp) (by simp) (by simp)
  obtain ⟨y, e4, e5⟩ := Owns.cutTo (x := .sl id 0 0 n 1 n) o Nat.one_pos (k := 0) (by omega)
  rw [Int.toNat_natCast]
  simp -dsimp only [el, B.zf]
  have e4' : V.zfs (opsS 1 (.int .u8 0) 0).es (.sl id 0 0 n (opsS 1 (.int .u8 0) 0).es n) none (some (.int .i64 0)) = some y := e4
  simp -dsimp only [e4', B.zf]
  exact zj (hq y _ _ e5)
 ·exact zj (hq _ _ _ ((Owns.start h).nils 1))
def zh.Spec (C : CSem) (N : Nat → Nat) : Prop := ∀ (x : AVal) (xs : List AVal) (L : List (List UInt8)) (R : List (List AVal)) (h : za) (Q : AVal → za → Prop), SlX h 1 x (xs.map fun y => [y]) R → xs.length = L.length → (∀ (i : Nat) (y : AVal) (l : List UInt8), xs[i]? = some y → L[i]? = some l → ∃ R, SlX h 1 y (l.map bc) R) → L.length ≤ 1000 → L.flatten.length ≤ 100000000 →
 (∀ x' h' R', Owns h h' [.sl 1 x' (L.flatten.map bc) R'] → Q x' h') → C (N 439) [x] h Q
theorem zh.spec (i : zh.Imp C N) (s1 : zbh.Spec C N) : zh.Spec C N := by
 intro x xs L R h Q hx hxl hin hl1 hl2 hq
 apply i
 have hlen := hx.zi
 rw [List.length_map, hxl] at hlen
 simp -dsimp only [zh.cps, hlen, B.zf]
 have cell : ∀ {hh : za} (hle : h.le hh) {k : Nat} (hk : k < L.length) {K : AVal → Prop}, (∀ y R2, SlX hh 1 y (L[k].map bc) R2 → K y) → B.pv (V.idxS 1 x (.int .i64 (k : Int))) (fun v => B.ld hh v K) := fun {hh} hle {k} hk {K} hK => by
  have hg : (xs.map fun y => [y])[k]? = some [xs[k]'(by omega)] := by rw [List.getElem?_map, List.getElem?_eq_getElem (by omega)]; rfl
  have hidx : V.idxS 1 x (.int .i64 (k : Int)) = some (elp 1 x k 0) := hx.idxN (by simp; omega)
  rw [hidx, B.zf]
  rw [B.zh0, (hx.mono hle).cell hg, B.zf]
  obtain ⟨R2, h2⟩ := hin k _ _ (List.getElem?_eq_getElem (by omega)) (List.getElem?_eq_getElem hk)
  exact hK _ _ (h2.mono hle)
 refine zg.intro (fun t vs hh => hh = h ∧ ∃ k : Nat, k + t = L.length ∧ vs = [.int .i64 ((L.take k).flatten.length : Int), .int .i64 (k : Int)]) L.length ?_ ⟨rfl, 0, by omega, rfl⟩
 rintro Y t vs hh ⟨rfl, k, ht, rfl⟩ hY
 simp -dsimp only [zh.l4, zh.k3, lssN, B.zf]
 refine B.ze (fun hb => ?_) (fun hb => ?_)
 ·rw [decide_eq_true_eq] at hb
  have hs := zoy hb
  have hle := zte L (k + 1)
  refine cell (za.le_refl _) hb fun y R2 hy => ?_
  have e1 := hy.zi
  rw [List.length_map] at e1
  have e2 : V.bin .lss (.int .i64 (((L.take k).flatten.length + L[k].length : Nat) : Int)) (.int .i64 0) = some (.bool false) := by
   exact (lssN (b := 0)).trans (by simp)
  simp -dsimp only [e1, addNN (a := (L.take k).flatten.length) (b := L[k].length) (by omega), e2, B.zf, B.cond_false, add1 (show k < 4611686018427387904 by omega)]
  exact hY (t - 1) _ _ (by omega) ⟨rfl, k + 1, by omega, by rw [hs]⟩
 ·rw [decide_eq_false_iff_not] at hb
  have hk : k = L.length := by omega
  subst hk
  rw [List.take_length]
  refine s1 _ _ _ hl2 fun y0 h1 R1 o1 => ?_
  simp -dsimp only [hlen, B.zf]
  refine zg.intro (fun t vs h2 => ∃ (k : Nat) (y : AVal) (R2 : List (List AVal)), k + t = L.length ∧ vs = [y, .int .i64 (k : Int)] ∧ Owns hh h2 [.sl 1 y ((L.take k).flatten.map bc) R2]) L.length ?_ ⟨0, y0, R1, by omega, rfl, o1⟩
  rintro Z t2 vs h2 ⟨k, y, R2, ht2, rfl, o2⟩ hZ
  simp -dsimp only [zh.l2, zh.k1, lssN, B.zf]
  refine B.ze (fun hc => ?_) (fun hc => ?_)
  ·rw [decide_eq_true_eq] at hc
   have hs := zoy hc
   have hle := zte L (k + 1)
   refine cell o2.le hc fun z R3 hz => ?_
   refine o2.appW 0 rfl hz Nat.one_pos (by simp only [List.length_map]; omega) (by simp only [List.length_map, maxLen]; omega) fun x' h' o3 _ => ?_
   simp -dsimp only [add1 (show k < 4611686018427387904 by omega), B.zf]
   refine hZ (t2 - 1) _ _ (by omega) ⟨k + 1, x', [], by omega, rfl, ?_⟩
   rw [List.take_add_one, List.getElem?_eq_getElem hc, Option.toList_some, List.flatten_append, List.flatten_singleton, List.map_append]
   exact o3
  ·rw [decide_eq_false_iff_not] at hc
   have hk : k = L.length := by omega
   subst hk
   rw [List.take_length] at o2
   exact zj (hq _ _ _ o2)
def Pcs (h : za) : List AVal → List (List UInt8) → Prop
 | [], [] => True
 | y :: ys, l :: ls => (∃ R, SlX h 1 y (l.map bc) R) ∧ Pcs h ys ls
 | _, _ => False
theorem Pcs.mono {h h' : za} (hle : h.le h') : ∀ {ys : List AVal} {ls : List (List UInt8)}, Pcs h ys ls → Pcs h' ys ls
 | [], [], _ => trivial
 | _ :: _, _ :: _, ⟨⟨R, a⟩, b⟩ => ⟨⟨R, a.mono hle⟩, Pcs.mono hle b⟩
theorem Pcs.len {h : za} : ∀ {ys : List AVal} {ls : List (List UInt8)}, Pcs h ys ls → ys.length = ls.length
 | [], [], _ => rfl
 | _ :: _, _ :: _, ⟨_, b⟩ => congrArg (· + 1) (Pcs.len b)
theorem Pcs.get {h : za} : ∀ {ys : List AVal} {ls : List (List UInt8)}, Pcs h ys ls → ∀ (i : Nat) (y : AVal) (l : List UInt8), ys[i]? = some y → ls[i]? = some l → ∃ R, SlX h 1 y (l.map bc) R
 | [], [], _, i, y, l, h1, _ => by simp at h1
 | _ :: _, _ :: _, ⟨a, b⟩, 0, y, l, h1, h2 => by cases h1; cases h2; exact a
 | _ :: _, _ :: _, ⟨a, b⟩, i + 1, y, l, h1, h2 => Pcs.get b i y l h1 h2
theorem Pcs.snoc {h : za} {y : AVal} {l : List UInt8} (hy : ∃ R, SlX h 1 y (l.map bc) R) : ∀ {ys : List AVal} {ls : List (List UInt8)}, Pcs h ys ls → Pcs h (ys ++ [y]) (ls ++ [l])
 | [], [], _ => ⟨hy, trivial⟩
 | _ :: _, _ :: _, ⟨a, b⟩ => ⟨a, Pcs.snoc hy b⟩
theorem Owns.cutAt {h0 h : za} {l : List Ob} (ho : Owns h0 h l) (k : Nat) {es : Nat} {x : AVal} {L R : List (List AVal)} (hk : l[k]? = some (.sl es x L R)) : Owns h0 h (l.set k (.sl es x L [])) :=
 ho.turn k hk (o' := .sl es x L []) (SlX.cut (ho.slAt k hk)) (fun id b hf hb => ho.zod k hk id b hf hb) (fun _ _ h _ => h) (.inl rfl)
def ze1.Spec (C : CSem) (N : Nat → Nat) : Prop := ∀ (x : AVal) (xs : List AVal) (L : List (List UInt8)) (R : List (List AVal)) (h : za) (Q : AVal → za → Prop), SlX h 1 x (xs.map fun y => [y]) R → Pcs h xs L → L.length ≤ 1000 → L.flatten.length ≤ 100000000 →
 (∀ x' h', Owns h h' [bOb false x' L.flatten] → Q x' h') → C (N 424) [x] h Q
theorem ze1.spec (i : ze1.Imp C N) (s1 : zh.Spec C N) : ze1.Spec C N := by
 intro x xs L R h Q hx hp h1 h2 hq
 apply i
 simp -dsimp only [ze1.cps]
 exact s1 x xs L R h _ hx hp.len hp.get h1 h2 fun x' h' R' o => zj (hq x' h' (o.cutAt 0 rfl))
abbrev zii (p out : AVal) (P : List (Row × (AVal × AVal))) : List Ob := .box p [out] :: .sl 2 out (P.map rowK.cs) [] :: rowK.os false P
def zed.Spec (C : CSem) (N : Nat → Nat) : Prop := ∀ (h0 h : za) (p out k : AVal) (P : List (Row × (AVal × AVal))) (key : List UInt8) (x : AVal) (xs : List AVal) (L : List (List UInt8)) (R : List (List AVal)) (Q : AVal → za → Prop),
 Owns h0 h (zii p out P ++ [bOb false k key]) → SlX h 1 x (xs.map fun y => [y]) R → Pcs h xs L → L.length ≤ 1000 → L.flatten.length ≤ 100000000 → P.length ≤ 1000000 →
 (∀ out' v h', Owns h0 h' (zii p out' (P ++ [(⟨key, L.flatten⟩, (k, v))])) → Q (.tup []) h') → C (N 425) [k, x, p] h Q
theorem zed.spec (i : zed.Imp C N) (s1 : ze1.Spec C N) : zed.Spec C N := by
 intro h0 h p out k P key x xs L R Q ho hx hp h1 h2 h3 hq
 apply i
 obtain ⟨id, rfl, hb⟩ := ho.zhi 0 rfl
 have hk : k.zl = true := ((ho.is (bOb false k key) (by simp)) : (bOb false k key).at h).zl
 simp -dsimp [zeu hb]
 refine s1 x xs L R h _ hx hp h1 h2 fun v h4 o4 => ?_
 have oj := ho.join o4
 obtain ⟨id', e, hb4⟩ := oj.zhi 0 rfl
 cases e
 have hv : v.zl = true := ((o4.is (bOb false v L.flatten) (by simp)) : (bOb false v L.flatten).at h4).zl
 refine keepD1 ⟨out, by simp [zeu hb], by simp [zeu hb4]⟩ ?_
 simp -dsimp [hk, hv]
 refine oj.push 1 rfl rfl (by omega) (by simp; omega) (by simp [maxLen]; omega) fun out' h5 o5 _ => ?_
 have c5 : out'.zl = true := (o5.slAt 1 rfl).zl
 refine o5.zrr 0 rfl c5 (by simp) fun h6 o6 _ => ?_
 refine zj (hq out' v h6 ?_)
 unfold zii
 rw [DK.zk2, DK.zu8, List.map_append]
 simpa [rowK] using o6
theorem Owns.lay {h0 h : za} {l l' : List Ob} (ho : Owns h0 h (l ++ l')) : ∃ hb : za, h0.le hb ∧ hb.le h ∧ Owns hb h l ∧ zsx hb l' := by
 obtain ⟨q1, q2⟩ := (ho.perm List.perm_append_comm).out
 exact ⟨_, q1.le, q2.le, q2, q1.is⟩
theorem ztk : ∀ ys : List AVal, (ys.map fun y => [y]).flatten = ys
 | [] => rfl
 | y :: r => by rw [List.map_cons, List.flatten_cons, ztk r]; rfl
theorem zds {hb hh h1 : za} {l : List Ob} {x : AVal} {M : List UInt8} {xs : List AVal} {L : List (List UInt8)} (ho : Owns hb hh l) (hp : Pcs hb xs L) (o1 : Owns hh h1 [.sl 1 x (M.map bc) []]) :
  ∃ hb' : za, hb.le hb' ∧ Owns hb' h1 l ∧ Pcs hb' (xs ++ [x]) (L ++ [M]) := by
 obtain ⟨b, m1, m2, o, a⟩ := (ho.join o1).lay
 exact ⟨b, m1, o, (hp.mono m1).snoc ⟨[], a (.sl 1 x (M.map bc) []) (by simp)⟩⟩
theorem zfr {h : za} {s : List UInt8} {cs : List AVal} (n : Nat) {K : Nat → za → Prop} (hcs : cs = s.map fun b => .int .u8 (b.toNat : Int)) (hn : n = s.length) (hk : ∀ id h', Owns h h' [.sl 1 (.sl id 0 0 n 1 n) (s.map bc) []] → K id h') :
  B.newO h (some cs) K := fun id hid => by
 refine hk _ _ ?_
 exact (Owns.start h).zof (L := s.map bc) (R := []) hid (by simp) (by simpa using hn) (by simp; omega) (by rw [List.append_nil, bc_flat, hcs])
theorem zji {h0 h : za} {x : AVal} {s : List UInt8} {K : AVal → Prop} (ho : Owns h0 h [.sl 1 x (s.map bc) []]) (hs : s ≠ []) (hk : K x) : B.conv h x K := by
 have hx := ho.slAt 0 rfl
 rcases hx.at_ with ⟨e, _⟩ | ⟨id, g, off, cp, b, hi, h1, h1', h2, h3, h4, hh, h5⟩
 ·exact absurd (List.map_eq_nil_iff.1 e) hs
 ·subst h1
  have := ho.zod 0 rfl id b rfl h2
  have hl : 0 < s.length := List.length_pos_iff.2 hs
  simp only [B.conv, A.conv, h2, h3, this, Option.isSome_some]
  refine ⟨?_, hk⟩
  simp; omega
theorem appLit {hb hh : za} {l : List Ob} {v : AVal} {xs ys : List AVal} {m : Nat} {K : AVal → za → Prop} (ho : Owns hb hh (l ++ [.sl 1 v (xs.map fun y => [y]) []])) (hm : m = ys.length) (hl : xs.length + ys.length ≤ 1000)
  (hK : ∀ v' h', Owns hb h' (l ++ [.sl 1 v' ((xs ++ ys).map fun y => [y]) []]) → K v' h') : B.newO hh (some ys) fun i h => B.appW h 1 24 v (.sl i 0 0 m 1 m) K := fun id hid => by
 have hf : ys = ((ys.map fun y => [y]) ++ []).flatten := by rw [List.append_nil, ztk]
 refine (ho.grow (zha _ hid)).appW l.length zjc (M := ys.map fun y => [y]) (R' := []) (SlX.lit (z7 ..) (by simp) (by simpa using hm) (by simp; omega) hf) Nat.one_pos (by simp; omega) (by simp [maxLen]; omega) fun v' h' o1 _ => hK v' h' ?_
 rw [zse] at o1
 rw [List.map_append]; exact o1
theorem zqo {hb hh : za} {l : List Ob} {ys : List AVal} (m : Nat) {K : Nat → za → Prop} (ho : Owns hb hh l) (hm : m = ys.length)
  (hK : ∀ id h', hh.le h' → Owns hb h' (l ++ [.sl 1 (.sl id 0 0 m 1 m) (ys.map fun y => [y]) []]) → K id h') : B.newO hh (some ys) K := fun id hid => by
 have hf : ys = ((ys.map fun y => [y]) ++ []).flatten := by rw [List.append_nil, ztk]
 exact hK _ _ (zha _ hid) (ho.zof hid (by simp) (by simpa using hm) (by simp; omega) hf)
theorem zrl {t : Itm} (h : zia t = true) : t.zdd.length ≤ 8 ∧ t.zck.length ≤ 4 ∧ (∀ p ∈ t.zdd, zbb p.Item = true) ∧ zbb t.Code = true ∧ ∀ o ∈ t.zck, zbb o = true := by
 unfold zia zk8 at h
 simp only [Bool.and_eq_true, List.all_eq_true, List.length_cons, decide_eq_true_eq] at h
 obtain ⟨⟨h1, h2, h3⟩, h4⟩ := h
 refine ⟨?_, by omega, ?_, h1 _ (by simp), fun o ho => h1 o (by simp [ho])⟩
 ·by_cases e : t.zdd = []
  ·rw [e]; simp
  ·rw [decide_eq_false e] at h4
   simp only [cond_false, Bool.and_eq_true, decide_eq_true_eq] at h4
   have := h4.2.2.2.2
   unfold ztx at this
   simpa using this
 ·by_cases e : t.zdd = []
  ·rw [e]; simp
  ·rw [decide_eq_false e] at h4
   simp only [cond_false, Bool.and_eq_true, List.all_eq_true] at h4
   exact fun p hp => h4.2.2.1 _ (List.mem_map.2 ⟨p, hp, rfl⟩)
theorem zs4 {T : Type} {ok : T → Bool} {lt : T → T → Bool} : ∀ {l : List T} {p : Option T}, ordB ok lt p l = true → ∀ x ∈ l, ok x = true
 | [], _, _, x, hx => by cases hx
 | a :: l, p, h, x, hx => by
  rw [ordB] at h
  simp only [Bool.and_eq_true] at h
  rcases List.mem_cons.1 hx with rfl | hx
  ·exact h.1.1
  ·exact zs4 h.2 x hx
theorem numPut (s1 : zce.Spec C N) (s2 : zed.Spec C N) {h0 h : za} {p out k : AVal} {P : List (Row × (AVal × AVal))} {key : List UInt8} {n : Int} {j : Nat} {K : AVal → za → Prop} (ho : Owns h0 h (zii p out P ++ [bOb false k key])) (hj : j ≤ 8) (hP : P.length ≤ 1000000)
  (hK : ∀ out' v h', Owns h0 h' (zii p out' (P ++ [(⟨key, be n j⟩, (k, v))])) → K (.tup []) h') :
  B.call C (N 423) [.int .i64 n, .int .i64 (j : Int)] h fun v26 h => B.newO h (zc7 [(0, none, v26)] (repL 1 [.nils])) fun i27 h => B.zj3 h C (.fn (N 425) [] [p]) [k, .sl i27 0 0 1 1 1] K := by
 refine s1 n j _ _ hj fun x' h1 o1 => ?_
 have c := (o1.slAt 0 rfl).zl
 simp -dsimp [c]
 refine zqo 1 (ho.join o1) rfl (ys := [x']) fun id h2 hle o2 => ?_
 generalize AVal.sl id 0 0 1 1 1 = v at *
 simp -dsimp only [B.zqw, List.nil_append, List.cons_append]
 have hx : SlX h2 1 x' ((be n j).map bc) [] := o2.is (.sl 1 x' ((be n j).map bc) []) (by simp)
 have hv : SlX h2 1 v ([x'].map fun y => [y]) [] := o2.is (.sl 1 v ([x'].map fun y => [y]) []) (by simp)
 refine s2 h0 h2 p out k P key v [x'] [be n j] [] _ (o2.sub (by simp)) hv ⟨⟨_, hx⟩, trivial⟩ (by simp) (by simp; omega) hP fun out' w h3 o3 => hK out' w h3 ?_
 simpa using o3
theorem All_lines (s1 : zce.Spec C N) (s2 : zed.Spec C N) (s3 : ze4.Spec C N) (s4 : ze1.Spec C N) {h0 h : za} {s : Sta} {p z out : AVal} {R : List (List AVal)} {P : List (Row × (AVal × AVal))} {Q : AVal → za → Prop} (hn : SlX h0 8 z (s.zd8.map Line.cs) R) (hl : P.length + s.zd8.length ≤ 1000000) (ho : Owns h0 h (zii p out P))
  (hq : ∀ out' P' h', P'.map (·.1) = P.map (·.1) ++ s.zd8.map zi4 → Owns h0 h' (zii p out' P') → Q out' h') :
  zg (zq.l2 C N Q p (.fn (N 425) [] [p]) z (.int .i64 s.zd8.length)) [.int .i64 0] h := by
 refine zg.intro (fun n vs hh => ∃ (k : Nat) (out : AVal) (P' : List (Row × (AVal × AVal))), k + n = s.zd8.length ∧ vs = [.int .i64 (k : Int)] ∧ P'.map (·.1) = P.map (·.1) ++ (s.zd8.take k).map zi4 ∧ Owns h0 hh (zii p out P')) s.zd8.length ?_ ⟨0, out, P, by simp, rfl, by simp, ho⟩
 rintro Y n vs hh ⟨k, out, P', hk, rfl, hP', ho⟩ hY
 have hPl := congrArg List.length hP'
 simp only [List.length_map, List.length_append, List.length_take] at hPl
 simp -dsimp only [zq.l2, zq.k1, lssN, B.zf]
 refine B.ze (fun hc => ?_) (fun hc => ?_)
 ·rw [decide_eq_true_eq] at hc
  obtain ⟨w, hw⟩ := zc6 hc
  have hkl : k < (s.zd8.map Line.cs).length := by simpa using hc
  have e1 : V.idxS 8 z (.int .i64 (k : Int)) = some (elp 8 z k 0) := hn.idxN hkl
  have e2 := (hn.mono ho.le).elem (get_map hw)
  have e3 : IntKind.u8.wrap w.Rank = ((byt w.Rank).toNat : Int) := zke _
  simp -dsimp [e1, e2, e3]
  refine s1 w.Id 8 _ _ (by omega) fun a1 h1 o1 => ?_
  obtain ⟨b1, m1, ho1, p1⟩ := zds (xs := []) (L := []) ho trivial o1
  simp -dsimp
  refine zfr 1 (s := [111]) rfl rfl fun i153 h2 o2 => ?_
  refine zji o2 (by simp) ?_
  obtain ⟨b2, m2, ho2, p2⟩ := zds ho1 p1 o2
  generalize AVal.sl i153 0 0 1 1 1 = a2 at *
  have c1 := (p2.get 0 a1 _ rfl rfl).elim fun _ r => r.zl
  have c2 := (p2.get 1 a2 _ rfl rfl).elim fun _ r => r.zl
  simp -dsimp [c1, c2]
  refine zqo 2 ho2 rfl (ys := [a2, a1]) fun i158 h3 hle3 o3 => ?_
  generalize AVal.sl i158 0 0 2 1 2 = a3 at *
  have p3 := p2.mono (za.le_trans ho2.le hle3)
  refine s4 a3 [a2, a1] [[111], be w.Id 8] [] _ _ (o3.is (.sl 1 a3 ([a2, a1].map fun y => [y]) []) (by simp)) ⟨p3.2.1, p3.1, trivial⟩ (by simp) (by simp) fun key h4 o4 => ?_
  have ho4 : Owns b2 h4 (zii p out P' ++ [bOb false key ([[111], be w.Id 8].flatten)]) := (o3.join o4).sub ((List.sublist_append_left _ _).append_right _)
  refine s3 w.Item _ _ fun a5 h5 o5 => ?_
  obtain ⟨b5, m5, ho5, p5⟩ := zds (xs := []) (L := []) ho4 trivial o5
  refine s1 w.Qty 4 _ _ (by omega) fun a6 h6 o6 => ?_
  obtain ⟨b6, m6, ho6, p6⟩ := zds ho5 p5 o6
  refine s1 w.zu1 2 _ _ (by omega) fun a7 h7 o7 => ?_
  obtain ⟨b7, m7, ho7, p7⟩ := zds ho6 p6 o7
  refine s1 (IntKind.i64.wrap (w.Day + 1)) 2 _ _ (by omega) fun a8 h8 o8 => ?_
  obtain ⟨b8, m8, ho8, p8⟩ := zds ho7 p7 o8
  refine s3 w.Code _ _ fun a9 h9 o9 => ?_
  obtain ⟨b9, m9, ho9, p9⟩ := zds ho8 p8 o9
  simp -dsimp
  refine zfr 2 (s := [byt w.Rank, w.State]) rfl rfl fun i174 h10 o10 => ?_
  obtain ⟨b10, m10, ho10, p10⟩ := zds ho9 p9 o10
  generalize AVal.sl i174 0 0 2 1 2 = a10 at *
  have c5 := (p10.get 0 a5 _ rfl rfl).elim fun _ r => r.zl
  have c6 := (p10.get 1 a6 _ rfl rfl).elim fun _ r => r.zl
  have c7 := (p10.get 2 a7 _ rfl rfl).elim fun _ r => r.zl
  have c8 := (p10.get 3 a8 _ rfl rfl).elim fun _ r => r.zl
  have c9 := (p10.get 4 a9 _ rfl rfl).elim fun _ r => r.zl
  have c10 := (p10.get 5 a10 _ rfl rfl).elim fun _ r => r.zl
  simp -dsimp [c5, c6, c7, c8, c9, c10]
  refine zqo 6 ho10 rfl (ys := [a5, a6, a7, a10, a8, a9]) fun i182 h11 hle11 o11 => ?_
  generalize AVal.sl i182 0 0 6 1 6 = a11 at *
  have p11 := p10.mono (za.le_trans ho10.le hle11)
  simp -dsimp only [B.zqw, List.nil_append, List.cons_append]
  refine s2 b10 h11 p out key P' _ a11 [a5, a6, a7, a10, a8, a9] [zdq w.Item, be w.Qty 4, be w.zu1 2, [byt w.Rank, w.State], be (IntKind.i64.wrap (w.Day + 1)) 2, zdq w.Code] [] _ (o11.sub (List.sublist_append_left _ _)) (o11.is (.sl 1 a11 ([a5, a6, a7, a10, a8, a9].map fun y => [y]) []) (by simp)) ⟨p11.1, p11.2.1, p11.2.2.1, p11.2.2.2.2.2.1, p11.2.2.2.1, p11.2.2.2.2.1, trivial⟩ (by simp) ?_ (by omega) fun out' v h12 o12 => ?_
  ·have h1 := zdp w.Item
   have h2 := zdp w.Code
   simp
   omega
  ·simp -dsimp only [add1 (show k < 4611686018427387904 by omega), B.zf]
   refine hY (s.zd8.length - (k + 1)) _ _ (by omega) ⟨k + 1, out', _, by omega, rfl, ?_, o12.back ?_⟩
   ·rw [List.map_append, hP', take_succ hw, List.map_append, List.append_assoc]
    have e : be (IntKind.i64.wrap (w.Day + 1)) 2 = be (w.Day + 1) 2 := be_congr (by rw [IntKind.wrap_i64]; omega) 2 (by omega)
    simp [zi4, lineVal, e]
   ·exact za.le_trans m1 (za.le_trans m2 (za.le_trans m5 (za.le_trans m6 (za.le_trans m7 (za.le_trans m8 (za.le_trans m9 m10))))))
 ·rw [decide_eq_false_iff_not] at hc
  have : k = s.zd8.length := by omega
  subst this
  rw [List.take_length] at hP'
  obtain ⟨id, rfl, hb⟩ := ho.zhi 0 rfl
  simp -dsimp [zeu hb]
  exact hq out P' hh hP' ho
theorem All_lots (s1 : zce.Spec C N) (s2 : zed.Spec C N) (s3 : ze4.Spec C N) (s4 : ze1.Spec C N) {h0 h : za} {s : Sta} {p x y z out : AVal} {R R2 : List (List AVal)} {P : List (Row × (AVal × AVal))} {Q : AVal → za → Prop} (hy : SlX h0 6 y (s.Lots.map Lot.cs) R) (hn : SlX h0 8 z (s.zd8.map Line.cs) R2)
  (hl : P.length + s.Lots.length + s.zd8.length ≤ 1000000) (ho : Owns h0 h (zii p out P)) (hq : ∀ out' P' h', P'.map (·.1) = P.map (·.1) ++ (s.Lots.map zlt ++ s.zd8.map zi4) → Owns h0 h' (zii p out' P') → Q out' h') :
  zg (zq.l7 C N Q p (.fn (N 425) [] [p]) y (.int .i64 s.Lots.length) (.agg (zka s x y z))) [.int .i64 0] h := by
 refine zg.intro (fun n vs hh => ∃ (k : Nat) (out : AVal) (P' : List (Row × (AVal × AVal))), k + n = s.Lots.length ∧ vs = [.int .i64 (k : Int)] ∧ P'.map (·.1) = P.map (·.1) ++ (s.Lots.take k).map zlt ∧ Owns h0 hh (zii p out P')) s.Lots.length ?_ ⟨0, out, P, by simp, rfl, by simp, ho⟩
 rintro Y n vs hh ⟨k, out, P', hk, rfl, hP', ho⟩ hY
 have hPl := congrArg List.length hP'
 simp only [List.length_map, List.length_append, List.length_take] at hPl
 simp -dsimp only [zq.l7, zq.k6, lssN, B.zf]
 refine B.ze (fun hc => ?_) (fun hc => ?_)
 ·rw [decide_eq_true_eq] at hc
  obtain ⟨w, hw⟩ := zc6 hc
  have hkl : k < (s.Lots.map Lot.cs).length := by simpa using hc
  have e1 : V.idxS 6 y (.int .i64 (k : Int)) = some (elp 6 y k 0) := hy.idxN hkl
  have e2 := (hy.mono ho.le).elem (get_map hw)
  have tail : ∀ (here : AVal) (b0 : za) (hh : za), h0.le b0 → Owns b0 hh (zii p out P') → Pcs b0 [here] [[bif w.zj7 then 1 else 0]] →
    zq.k3 C N Q Y p (.fn (N 425) [] [p]) here y (.int .i64 s.Lots.length) (.int .i64 (k : Int)) (.agg (zka s x y z)) (.agg w.cs) hh := by
   intro here b0 hh m0 ho p0
   simp -dsimp
   refine s1 w.Id 8 _ _ (by omega) fun a1 h1 o1 => ?_
   obtain ⟨b1, m1, ho1, p1⟩ := zds ho p0 o1
   simp -dsimp
   refine zfr 1 (s := [108]) rfl rfl fun i153 h2 o2 => ?_
   refine zji o2 (by simp) ?_
   obtain ⟨b2, m2, ho2, p2⟩ := zds ho1 p1 o2
   generalize AVal.sl i153 0 0 1 1 1 = a2 at *
   have c1 := (p2.get 1 a1 _ rfl rfl).elim fun _ r => r.zl
   have c2 := (p2.get 2 a2 _ rfl rfl).elim fun _ r => r.zl
   simp -dsimp [c1, c2]
   refine zqo 2 ho2 rfl (ys := [a2, a1]) fun i158 h3 hle3 o3 => ?_
   generalize AVal.sl i158 0 0 2 1 2 = a3 at *
   have p3 := p2.mono (za.le_trans ho2.le hle3)
   refine s4 a3 [a2, a1] [[108], be w.Id 8] [] _ _ (o3.is (.sl 1 a3 ([a2, a1].map fun y => [y]) []) (by simp)) ⟨p3.2.2.1, p3.2.1, trivial⟩ (by simp) (by simp) fun key h4 o4 => ?_
   have ho4 : Owns b2 h4 (zii p out P' ++ [bOb false key ([[108], be w.Id 8].flatten)]) := (o3.join o4).sub ((List.sublist_append_left _ _).append_right _)
   refine s3 w.Item _ _ fun a5 h5 o5 => ?_
   obtain ⟨b5, m5, ho5, p5⟩ := zds (xs := [here]) (L := [[bif w.zj7 then 1 else 0]]) ho4 ⟨p2.1, trivial⟩ o5
   refine s1 w.From 2 _ _ (by omega) fun a6 h6 o6 => ?_
   obtain ⟨b6, m6, ho6, p6⟩ := zds ho5 p5 o6
   refine s1 w.zog 2 _ _ (by omega) fun a7 h7 o7 => ?_
   obtain ⟨b7, m7, ho7, p7⟩ := zds ho6 p6 o7
   refine s1 w.Qty 4 _ _ (by omega) fun a8 h8 o8 => ?_
   obtain ⟨b8, m8, ho8, p8⟩ := zds ho7 p7 o8
   have c0 := (p8.get 0 here _ rfl rfl).elim fun _ r => r.zl
   have c5 := (p8.get 1 a5 _ rfl rfl).elim fun _ r => r.zl
   have c6 := (p8.get 2 a6 _ rfl rfl).elim fun _ r => r.zl
   have c7 := (p8.get 3 a7 _ rfl rfl).elim fun _ r => r.zl
   have c8 := (p8.get 4 a8 _ rfl rfl).elim fun _ r => r.zl
   simp -dsimp [c0, c5, c6, c7, c8]
   refine zqo 5 ho8 rfl (ys := [a5, a6, a7, a8, here]) fun i182 h11 hle11 o11 => ?_
   generalize AVal.sl i182 0 0 5 1 5 = a11 at *
   have p11 := p8.mono (za.le_trans ho8.le hle11)
   simp -dsimp only [B.zqw, List.nil_append, List.cons_append]
   refine s2 b8 h11 p out key P' _ a11 [a5, a6, a7, a8, here] [zdq w.Item, be w.From 2, be w.zog 2, be w.Qty 4, [bif w.zj7 then 1 else 0]] [] _ (o11.sub (List.sublist_append_left _ _)) (o11.is (.sl 1 a11 ([a5, a6, a7, a8, here].map fun y => [y]) []) (by simp)) ⟨p11.2.1, p11.2.2.1, p11.2.2.2.1, p11.2.2.2.2.1, p11.1, trivial⟩ (by simp) ?_ (by omega) fun out' v h12 o12 => ?_
   ·have h1 := zdp w.Item
    simp
    omega
   ·simp -dsimp only [add1 (show k < 4611686018427387904 by omega), B.zf]
    refine hY (s.Lots.length - (k + 1)) _ _ (by omega) ⟨k + 1, out', _, by omega, rfl, ?_, o12.back ?_⟩
    ·rw [List.map_append, hP', take_succ hw, List.map_append, List.append_assoc]
     simp [zlt, lotVal]
    ·exact za.le_trans m0 (za.le_trans m1 (za.le_trans m2 (za.le_trans m5 (za.le_trans m6 (za.le_trans m7 m8)))))
  simp -dsimp only [zq.k5]
  simp -dsimp [e1, e2]
  refine zfr 1 (s := [0]) rfl rfl fun i114 h2 o2 => ?_
  generalize AVal.sl i114 0 0 1 1 1 = here at *
  have ho2 := ho.join o2
  refine B.ze (fun hb => ?_) (fun hb => ?_)
  ·have hx := ho2.slAt (zii p out P').length zjc
   have e5 : V.idxS 1 here (.int .i64 0) = some (elp 1 here 0 0) := hx.idxN (i := 0) (by simp)
   simp -dsimp only [e5, B.zf]
   refine ho2.st (zii p out P').length zjc (i := 0) (c := bc 0) rfl (by omega) rfl fun h3 o3 _ => ?_
   rw [zse] at o3
   obtain ⟨b0, m0, _, o4, a⟩ := o3.lay
   refine tail here b0 h3 m0 o4 ⟨⟨[], ?_⟩, trivial⟩
   rw [hb]
   exact a _ (List.mem_singleton_self _)
  ·obtain ⟨b0, m0, _, o4, a⟩ := ho2.lay
   refine tail here b0 h2 m0 o4 ⟨⟨[], ?_⟩, trivial⟩
   rw [hb]
   exact a _ (List.mem_singleton_self _)
 ·rw [decide_eq_false_iff_not] at hc
  have : k = s.Lots.length := by omega
  subst this
  rw [List.take_length] at hP'
  have l3 := hn.zi
  rw [List.length_map] at l3
  simp -dsimp [l3]
  refine All_lines s1 s2 s3 s4 hn (by omega) ho fun out' P2 h' e o => hq out' P2 h' ?_ o
  rw [e, hP', List.append_assoc]
theorem V.bin_sadd (a b : List UInt8) (h : a.length + b.length ≤ 140737488355328) : V.bin .add (.str a) (.str b) = some (.str (a ++ b)) := by
 simp only [V.bin, V.strOp]
 rw [if_neg]
 simp only [IntKind.max, IntKind.bits, IntKind.signed]
 simp; omega
theorem flat2M {T : Type} (f g : T → List UInt8) : ∀ l : List T, (l.flatMap fun p => [f p, g p]).flatten = l.flatMap fun p => f p ++ g p
 | [] => rfl
 | a :: l => by simp only [List.flatMap_cons, List.flatten_append, flat2M f g l]; simp
theorem flat1M {T : Type} (f : T → List UInt8) (l : List T) : (l.map f).flatten = l.flatMap f := rfl
abbrev pcsOb (v : AVal) (xs : List AVal) : Ob := .sl 1 v (xs.map fun y => [y]) []
theorem All_items (s1 : zce.Spec C N) (s2 : zed.Spec C N) (s3 : ze4.Spec C N) (s4 : ze1.Spec C N) {h0 h : za} {s : Sta} {p x y z out : AVal} {P : List (Row × (AVal × AVal))} {Q : AVal → za → Prop} (ha : zla h0 s x y z) (hk : ∀ t ∈ s.zd9, zia t = true)
  (hl : P.length + s.zd9.length + s.Lots.length + s.zd8.length ≤ 1000000) (ho : Owns h0 h (zii p out P)) (hq : ∀ out' P' h', P'.map (·.1) = P.map (·.1) ++ (s.zd9.map zll ++ (s.Lots.map zlt ++ s.zd8.map zi4)) → Owns h0 h' (zii p out' P') → Q out' h') :
  zg (zq.l19 C N Q p (.fn (N 425) [] [p]) x (.int .i64 s.zd9.length) (.agg (zka s x y z))) [.int .i64 0] h := by
 obtain ⟨hi, ⟨R, hy⟩, ⟨R2, hn⟩, n1, n2, n3⟩ := ha
 refine zg.intro (fun n vs hh => ∃ (k : Nat) (out : AVal) (P' : List (Row × (AVal × AVal))), k + n = s.zd9.length ∧ vs = [.int .i64 (k : Int)] ∧ P'.map (·.1) = P.map (·.1) ++ (s.zd9.take k).map zll ∧ Owns h0 hh (zii p out P')) s.zd9.length ?_ ⟨0, out, P, by simp, rfl, by simp, ho⟩
 rintro Y n vs hh ⟨k, out, P', hkn, rfl, hP', ho⟩ hY
 have hPl := congrArg List.length hP'
 simp only [List.length_map, List.length_append, List.length_take] at hPl
 simp -dsimp only [zq.l19, zq.k18, lssN, B.zf]
 refine B.ze (fun hc => ?_) (fun hc => ?_)
 ·rw [decide_eq_true_eq] at hc
  obtain ⟨w, hw⟩ := zc6 hc
  obtain ⟨P0, R0, eP0, s0, at0⟩ := hi
  obtain ⟨a, hq0⟩ : ∃ a, P0[k]? = some (w, a) := by
   rw [← eP0, List.getElem?_map] at hw
   obtain ⟨q, h1, h2⟩ := Option.map_eq_some_iff.1 hw
   exact ⟨q.2, by rw [h1, ← h2]⟩
  have ea := slX_el (s0.mono ho.le) (fun p hp => zd6.mono ho.le (at0 p hp)) hq0
  simp only at ea
  obtain ⟨f1, f2, f3, f4, f5⟩ := zrl (hk w (List.mem_of_getElem? hw))
  obtain ⟨⟨Ra, ha1⟩, ⟨Rb, ha2⟩, _⟩ : (∃ R, SlX h0 2 a.1 (w.zdd.map Part.cs) R) ∧ (∃ R, SlX h0 1 a.2 (w.zck.map tc) R) ∧ w.ok := at0 _ (List.mem_of_getElem? hq0)
  have l1 := ha1.zi
  have l2 := ha2.zi
  rw [List.length_map] at l1 l2
  have e1 : V.idxS 4 x (.int .i64 (k : Int)) = some (elp 4 x k 0) := ea.idx
  have e2 : A.ldnv hh (elp 4 x k 0) 4 = some (.agg (zd6.cells w a)) := ea.ldn
  have e3 : V.setN 0 4 (.agg (zd6.cells w a)) (.agg [.str [], .int .i64 0, .nils, .nils]) = some (.agg (zd6.cells w a)) := zkw zd6 w a
  have u1 : IntKind.u8.wrap (w.zdd.length : Int) = ((byt w.zdd.length).toNat : Int) := zke _
  have u2 : IntKind.u8.wrap (w.zck.length : Int) = ((byt w.zck.length).toNat : Int) := zke _
  simp -dsimp only [zq.k17, e1, e2, e3, B.zij, B.zf]
  simp -dsimp [zd6, l1, u1]
  refine s1 w.Life 2 _ _ (by omega) fun a1 h1 o1 => ?_
  obtain ⟨b1, m1, ho1, p1⟩ := zds (xs := []) (L := []) ho trivial o1
  simp -dsimp
  refine zfr 1 (s := [byt w.zdd.length]) rfl rfl fun i59 h2 o2 => ?_
  obtain ⟨b2, m2, ho2, p2⟩ := zds ho1 p1 o2
  generalize AVal.sl i59 0 0 1 1 1 = a2 at *
  have c1 := (p2.get 0 a1 _ rfl rfl).elim fun _ r => r.zl
  have c2 := (p2.get 1 a2 _ rfl rfl).elim fun _ r => r.zl
  simp -dsimp [c1, c2]
  refine zqo 2 ho2 rfl (ys := [a1, a2]) fun i60 h3 hle3 ho3 => ?_
  generalize AVal.sl i60 0 0 2 1 2 = v0 at *
  have m03 : h0.le b2 := za.le_trans m1 m2
  simp -dsimp [zd6, l1]
  have ep3 : Pcs b2 [a1, a2] ([be w.Life 2, [byt w.zdd.length]] ++ (w.zdd.take 0).flatMap fun p => [zdq p.Item, be p.Qty 4]) := p2
  refine zg.intro (fun t vs hh => ∃ (j : Nat) (v : AVal) (xs : List AVal) (b : za), j + t = w.zdd.length ∧ vs = [v, .int .i64 (j : Int)] ∧ h0.le b ∧ Owns b hh (zii p out P' ++ [pcsOb v xs]) ∧ Pcs b xs ([be w.Life 2, [byt w.zdd.length]] ++ (w.zdd.take j).flatMap fun p => [zdq p.Item, be p.Qty 4])) w.zdd.length ?_ ⟨0, v0, [a1, a2], b2, by omega, rfl, m03, ho3, ep3⟩
  rintro Y5 t vs h4 ⟨j, v, xs, b, hj, rfl, m4, ho4, p4⟩ hY5
  have hxl := p4.len
  have hcnt : ∀ j, (([be w.Life 2, [byt w.zdd.length]] ++ (w.zdd.take j).flatMap fun p => [zdq p.Item, be p.Qty 4]) : List (List UInt8)).length ≤ 2 + 2 * j := fun j => by
   have : ∀ l : List Part, (l.flatMap fun p => [zdq p.Item, be p.Qty 4]).length = 2 * l.length := fun l => by
    induction l with
    | nil => rfl
    | cons a l ih => rw [List.flatMap_cons, List.length_append, ih]; simp; omega
   rw [List.length_append, this, List.length_take]
   simp; omega
  simp -dsimp only [zq.l14, zq.k13, lssN, B.zf]
  refine B.ze (fun hd => ?_) (fun hd => ?_)
  ·rw [decide_eq_true_eq] at hd
   obtain ⟨q, hq⟩ := zc6 hd
   have hjl : j < (w.zdd.map Part.cs).length := by simpa using hd
   have g1 : V.idxS 2 a.1 (.int .i64 (j : Int)) = some (elp 2 a.1 j 0) := ha1.idxN hjl
   have g2 := (ha1.mono (za.le_trans m4 ho4.le)).elem (get_map hq)
   simp -dsimp [g1, g2]
   refine s3 q.Item _ _ fun a5 h5 o5 => ?_
   obtain ⟨b5, m5, ho5, p5⟩ := zds ho4 p4 o5
   refine s1 q.Qty 4 _ _ (by omega) fun a6 h6 o6 => ?_
   obtain ⟨b6, m6, ho6, p6⟩ := zds ho5 p5 o6
   have c5 : a5.zl = true := (o5.slAt 0 rfl).zl
   have c6 : a6.zl = true := (o6.slAt 0 rfl).zl
   simp -dsimp [c5, c6]
   have := hcnt j
   refine appLit (ys := [a5, a6]) ho6 rfl (by simp; omega) fun v' h7 ho7 => ?_
   simp -dsimp only [add1 (show j < 4611686018427387904 by omega), B.zf]
   refine hY5 (t - 1) _ _ (by omega) ⟨j + 1, v', xs ++ [a5, a6], b6, by omega, rfl, za.le_trans m4 (za.le_trans m5 m6), ho7, ?_⟩
   rw [take_succ hq, List.flatMap_append]
   simpa using p6
  ·rw [decide_eq_false_iff_not] at hd
   have : j = w.zdd.length := by omega
   subst this
   rw [List.take_length] at p4
   have hc0 := hcnt w.zdd.length
   rw [List.take_length] at hc0
   generalize hL : ([be w.Life 2, [byt w.zdd.length]] ++ w.zdd.flatMap fun p => [zdq p.Item, be p.Qty 4] : List (List UInt8)) = L0 at *
   have hxl := p4.len
   simp -dsimp [l2, u2]
   refine zfr 1 (s := [byt w.zck.length]) rfl rfl fun i83 h5 o5 => ?_
   obtain ⟨b5, m5, ho5, p5⟩ := zds ho4 p4 o5
   generalize AVal.sl i83 0 0 1 1 1 = a3 at *
   have c3 : a3.zl = true := (o5.slAt 0 rfl).zl
   simp -dsimp [c3]
   refine appLit (ys := [a3]) ho5 rfl (by simp; omega) fun v1 h6 ho6 => ?_
   simp -dsimp [l2]
   refine zg.intro (fun t vs hh => ∃ (j : Nat) (v : AVal) (xs : List AVal) (b : za), j + t = w.zck.length ∧ vs = [v, .int .i64 (j : Int)] ∧ h0.le b ∧ Owns b hh (zii p out P' ++ [pcsOb v xs]) ∧ Pcs b xs (L0 ++ [[byt w.zck.length]] ++ (w.zck.take j).map zdq)) w.zck.length ?_ ⟨0, v1, xs ++ [a3], b5, by omega, rfl, za.le_trans m4 m5, ho6, by simpa using p5⟩
   rintro Y6 t2 vs h7 ⟨j, v, xs, b, hj2, rfl, m7, ho7, p7⟩ hY6
   have hxl := p7.len
   simp only [List.length_append, List.length_map, List.length_take, List.length_cons, List.length_nil] at hxl
   simp -dsimp only [zq.l10, zq.k9, lssN, B.zf]
   refine B.ze (fun he => ?_) (fun he => ?_)
   ·rw [decide_eq_true_eq] at he
    obtain ⟨q, hq⟩ := zc6 he
    have hjl : j < (w.zck.map tc).length := by simpa using he
    have g1 : V.idxS 1 a.2 (.int .i64 (j : Int)) = some (elp 1 a.2 j 0) := ha2.idxN hjl
    have g2 : A.ldv h7 (elp 1 a.2 j 0) = some (.str q) := (ha2.mono (za.le_trans m7 ho7.le)).cell (get_map hq)
    simp -dsimp only [g1, g2, B.zh0, B.zf]
    refine s3 q _ _ fun a5 h8 o8 => ?_
    obtain ⟨b8, m8, ho8, p8⟩ := zds ho7 p7 o8
    have c5 : a5.zl = true := (o8.slAt 0 rfl).zl
    simp -dsimp [c5]
    refine appLit (ys := [a5]) ho8 rfl (by simp; omega) fun v' h9 ho9 => ?_
    simp -dsimp only [add1 (show j < 4611686018427387904 by omega), B.zf]
    refine hY6 (t2 - 1) _ _ (by omega) ⟨j + 1, v', xs ++ [a5], b8, by omega, rfl, za.le_trans m7 m8, ho9, ?_⟩
    rw [take_succ hq, List.map_append, ← List.append_assoc]
    exact p8
   ·rw [decide_eq_false_iff_not] at he
    have : j = w.zck.length := by omega
    subst this
    rw [List.take_length] at p7
    have ef : (L0 ++ [[byt w.zck.length]] ++ w.zck.map zdq).flatten = zlk w := by
     rw [← hL]
     simp only [List.flatten_append, flat2M, flat1M, zlk]
     simp
    have g1 := zgn (f := fun p : Part => zdq p.Item ++ be p.Qty 4) (m := 17) (fun p => by have := zdp p.Item; simp; omega) w.zdd
    have g2 := zgn (f := zdq) (m := 13) zdp w.zck
    have el : (zlk w).length ≤ 1000 := by
     unfold zlk
     simp only [List.length_append, List.length_cons, zg5]
     omega
    have fc : (105 :: w.Code).length ≤ far := by
     have : w.Code.length ≤ 12 := by
      unfold zbb at f4
      simp only [Bool.and_eq_true, decide_eq_true_eq] at f4
      exact f4.1.2
     unfold far; simp; omega
    have es : V.bin .add (.str [105]) (.str w.Code) = some (.str (105 :: w.Code)) := V.bin_sadd [105] w.Code (by unfold far at fc; simp at fc ⊢; omega)
    simp -dsimp [es]
    refine zr1 (s := 105 :: w.Code) fc fun key h8 o8 => ?_
    have ho8 : Owns b h8 (zii p out P' ++ [bOb false key (105 :: w.Code)]) := (ho7.join o8).sub ((List.sublist_append_left _ _).append_right _)
    have hv8 : SlX h8 1 v (xs.map fun y => [y]) [] := (ho7.join o8).is (pcsOb v xs) (by simp)
    simp -dsimp only [B.zqw, List.nil_append, List.cons_append]
    refine s2 b h8 p out key P' _ v xs _ [] _ ho8 hv8 (p7.mono ho8.le) (by simp; omega) (by rw [ef]; omega) (by omega) fun out' u h9 o9 => ?_
    simp -dsimp only [add1 (show k < 4611686018427387904 by omega), B.zf]
    rw [ef] at o9
    refine hY (n - 1) _ _ (by omega) ⟨k + 1, out', _, by omega, rfl, ?_, o9.back m7⟩
    rw [List.map_append, hP', take_succ hw, List.map_append, List.append_assoc]
    rfl
 ·rw [decide_eq_false_iff_not] at hc
  have : k = s.zd9.length := by omega
  subst this
  rw [List.take_length] at hP'
  have l2 := hy.zi
  rw [List.length_map] at l2
  simp -dsimp [l2]
  refine All_lots s1 s2 s3 s4 hy hn (by omega) ho fun out' P2 h' e o => hq out' P2 h' ?_ o
  rw [e, hP', List.append_assoc]
def zq.Spec (C : CSem) (N : Nat → Nat) : Prop := ∀ (s : Sta) (x y z : AVal) (h : za) (Q : AVal → za → Prop), zla h s x y z → s.zd9.length + s.Lots.length + s.zd8.length ≤ 100000 →
 (∀ x' P h', P.map (·.1) = allRows s → Df rowK h h' x' P → Q x' h') → C (N 412) [.agg (zka s x y z)] h Q
theorem zq.spec (i : zq.Imp C N) (s0 : zbo.Spec C N) (s1 : zce.Spec C N) (s2 : zed.Spec C N) (s3 : ze4.Spec C N) (s4 : ze1.Spec C N) : zq.Spec C N := by
 intro s x y z h Q ha hlen hq
 have hx := ha.items.zl
 have hy : y.zl = true := ha.lots.elim fun _ r => r.zl
 have hz : z.zl = true := ha.lines.elim fun _ r => r.zl
 have l1 := ha.items.zi
 apply i
 simp -dsimp
 refine s0 s x y z h _ ha ?_
 simp -dsimp
 refine B.ze (fun hb => ?_) (fun hb => ?_)
 ·have hb : zgx s = false := by simpa using hb
  refine zj (hq .nils [] h (by unfold allRows; rw [hb]; rfl) (by simpa [Df, DK.os] using (Owns.start h).nils rowK.n))
 ·have hb : zgx s = true := by simpa using hb
  intro i3 hi3
  have o0 := ((Owns.start h).zmj hi3 [.nils]).nils 2
  generalize upd h i3 (zel [.nils]) = h1 at *
  generalize hp : AVal.ptr i3 0 0 = p at *
  have o0 : Owns h h1 (zii p .nils []) := o0
  simp -dsimp
  refine zfr 4 (s := [42, 100, 97, 121]) rfl rfl fun i22 h2 o2 => ?_
  refine zji o2 (by simp) ?_
  generalize AVal.sl i22 0 0 4 1 4 = k1 at *
  have o3 : Owns h h2 (zii p .nils [] ++ [bOb false k1 [42, 100, 97, 121]]) := o0.join o2
  simp -dsimp
  refine numPut (j := 2) s1 s2 o3 (by omega) (by simp) fun out1 v1 h3 o4 => ?_
  simp -dsimp
  refine zfr 5 (s := [42, 108, 105, 110, 101]) rfl rfl fun i30 h4 o5 => ?_
  refine zji o5 (by simp) ?_
  generalize AVal.sl i30 0 0 5 1 5 = k2 at *
  have o6 := o4.join o5
  simp -dsimp
  refine numPut (j := 8) s1 s2 o6 (by omega) (by simp) fun out2 v2 h5 o7 => ?_
  simp -dsimp
  refine zfr 4 (s := [42, 108, 111, 116]) rfl rfl fun i38 h6 o8 => ?_
  refine zji o8 (by simp) ?_
  generalize AVal.sl i38 0 0 4 1 4 = k3 at *
  have o9 := o7.join o8
  simp -dsimp
  refine numPut (j := 8) s1 s2 o9 (by omega) (by simp) fun out3 v3 h7 o10 => ?_
  simp -dsimp [l1]
  have hk : ∀ t ∈ s.zd9, zia t = true := by
   unfold zgx zue at hb
   simp only [Bool.and_eq_true] at hb
   exact zs4 hb.2.1
  refine All_items s1 s2 s3 s4 ha hk (by simp; omega) o10 fun out' P' h8 e o => zj (hq out' P' h8 ?_ (o.sub (List.sublist_cons_self _ _)))
  rw [e]
  unfold allRows
  rw [hb]
  rfl
def zgu : Sta := ⟨0, 0, 0, [], [], []⟩
def zuv (x : Row) (s : Sta) : Sta × Bool :=
 if x.Key = [42, 100, 97, 121] then ({ s with Now := (rNum x.Value 2 ⟨0, false⟩).1 }, (rNum x.Value 2 ⟨0, false⟩).2.bad)
 else if x.Key = [42, 108, 111, 116] then ({ s with zhx := (rNum x.Value 8 ⟨0, false⟩).1 }, (rNum x.Value 8 ⟨0, false⟩).2.bad)
 else if x.Key = [42, 108, 105, 110, 101] then ({ s with zgq := (rNum x.Value 8 ⟨0, false⟩).1 }, (rNum x.Value 8 ⟨0, false⟩).2.bad)
 else if x.Key.head? = some 105 then ({ s with zd9 := s.zd9 ++ [(zq9 x.Value (x.Key.drop 1) ⟨0, false⟩).1] }, (zq9 x.Value (x.Key.drop 1) ⟨0, false⟩).2.bad)
 else if x.Key.head? = some 108 then ({ s with Lots := s.Lots ++ [(ztm x.Value (rNum (x.Key.drop 1) 8 ⟨0, false⟩).1 ⟨0, false⟩).1] }, (ztm x.Value (rNum (x.Key.drop 1) 8 ⟨0, false⟩).1 ⟨0, false⟩).2.bad || (rNum (x.Key.drop 1) 8 ⟨0, false⟩).2.bad)
 else if x.Key.head? = some 111 then ({ s with zd8 := s.zd8 ++ [(zp5 x.Value (rNum (x.Key.drop 1) 8 ⟨0, false⟩).1 ⟨0, false⟩).1] }, (zp5 x.Value (rNum (x.Key.drop 1) 8 ⟨0, false⟩).1 ⟨0, false⟩).2.bad || (rNum (x.Key.drop 1) 8 ⟨0, false⟩).2.bad)
 else (s, true)
def outB (p : Option Row) (x : Row) : Bool := (match p with | some q => decide (0 ≤ cmpB q.Key x.Key) | none => false) || decide (x.Key = [])
def ztj : List Row → Option Row → Sta → List Row → Option (Sta × List Row)
 | [], _, s, m => some (s, m)
 | x :: l, p, s, m => if outB p x = true then none else if x.Key.head? = some 97 then ztj l (some x) s m else if (zuv x s).2 = true then none else ztj l (some x) (zuv x s).1 (m ++ [x])
def stEnd : Option (Sta × List Row) → Sta × Int
 | some (s, m) => if allRows s = m ∧ m ≠ [] then (s, 0) else (zgu, 4)
 | none => (zgu, 4)
def ziz (l : List Row) : Sta × Int := stEnd (ztj l none zgu [])
def zd0.Spec (C : CSem) (N : Nat → Nat) : Prop := SameE rowK C (N 430)
theorem zd0.spec (i : zd0.Imp C N) (s1 : zdx.Spec C N) : zd0.Spec C N := by
 intro t u a b h Q ha hb hq
 obtain ⟨a1, a2⟩ : Bs h a.1 t.Key ∧ Bs h a.2 t.Value := ha
 obtain ⟨b1, b2⟩ : Bs h b.1 u.Key ∧ Bs h b.2 u.Value := hb
 apply i
 simp -dsimp [rowK]
 refine s1 _ _ _ _ _ _ a1 b1 ?_
 simp +contextual -dsimp
 refine B.zea (v := .bool (decide (t.Value = u.Value))) (fun _ Q hq => s1 _ _ _ _ _ _ a2 b2 hq) ?_
 simp -dsimp
 refine zj ?_
 have : decide (t = u) = (decide (t.Key = u.Key) && decide (t.Value = u.Value)) := by
  cases t; cases u; simp [Row.mk.injEq]
 rw [this] at hq
 exact hq
def zb.Spec (C : CSem) (N : Nat → Nat) : Prop := ∀ (x y : AVal) (L M : List Row) (h : za) (Q : AVal → za → Prop), Dl rowK h x L → Dl rowK h y M → L.length < 4611686018427387904 → Q (.bool (decide (L = M))) h → C (N 431) [x, y, .fn (N 430) [] []] h Q
theorem zb.spec (i : zb.Imp C N) (s1 : zd0.Spec C N) : zb.Spec C N := by
 intro x y L M h Q hx hy hlen hq
 have hlx := hx.zi
 have hly := hy.zi
 apply i
 simp -dsimp [hlx, hly]
 refine B.ze (fun hb => ?_) (fun hb => ?_) <;> simp -dsimp at hb ⊢
 ·rw [decide_eq_false fun e => hb (by rw [e])] at hq
  exact zj hq
 ·simp -dsimp only [hlx, B.zf]
  refine zg.intro (fun n vs hh => ∃ k : Nat, k + n = L.length ∧ vs = [.int .i64 (k : Int)] ∧ hh = h ∧ L.take k = M.take k) L.length ?_ ⟨0, by simp, rfl, rfl, by simp⟩
  rintro Y n vs hh ⟨k, hn, rfl, rfl, he⟩ hY
  simp -dsimp only [zb.l2, zb.k1, lssN, B.zf]
  refine B.ze (fun hc => ?_) (fun hc => ?_)
  ·rw [decide_eq_true_eq] at hc
   obtain ⟨w, hw⟩ := zc6 hc
   obtain ⟨u, hu⟩ := zc6 (L := M) (k := k) (by omega)
   obtain ⟨a, ea⟩ := hx.get hw
   obtain ⟨b, eb⟩ := hy.get hu
   have e1 : V.idxS 2 x (.int .i64 (k : Int)) = some (elp 2 x k 0) := ea.idx
   have e2 : A.ldnv hh (elp 2 x k 0) 2 = some (.agg (rowK.cells w a)) := ea.ldn
   have e3 : V.idxS 2 y (.int .i64 (k : Int)) = some (elp 2 y k 0) := eb.idx
   have e4 : A.ldnv hh (elp 2 y k 0) 2 = some (.agg (rowK.cells u b)) := eb.ldn
   have f1 : V.setN 0 2 (.agg (rowK.cells w a)) (.agg [.nils, .nils]) = some (.agg (rowK.cells w a)) := zkw rowK w a
   have f2 : V.setN 0 2 (.agg (rowK.cells u b)) (.agg [.nils, .nils]) = some (.agg (rowK.cells u b)) := zkw rowK u b
   have f3 : V.zb4 0 2 (.agg (rowK.cells w a)) = some (.agg (rowK.cells w a)) := zmo rowK w a
   have f4 : V.zb4 0 2 (.agg (rowK.cells u b)) = some (.agg (rowK.cells u b)) := zmo rowK u b
   simp -dsimp only [e1, e2, e3, e4, f1, f2, f3, f4, B.zf, B.zij, B.zqw, List.nil_append, List.append_nil]
   refine s1 _ _ _ _ _ _ ea.at_ eb.at_ ?_
   simp -dsimp only [V.zp1, B.zf]
   refine B.ze (fun hd => ?_) (fun hd => ?_) <;> simp -dsimp at hd
   ·rw [decide_eq_false fun e => by subst e; rw [hw] at hu; cases hu; exact hd rfl] at hq
    exact zj hq
   ·simp -dsimp only [add1 (show k < 4611686018427387904 by omega), B.zf]
    refine hY (L.length - (k + 1)) _ _ (by omega) ⟨k + 1, by omega, rfl, rfl, ?_⟩
    rw [take_succ hw, take_succ hu, he, hd]
  ·rw [decide_eq_false_iff_not] at hc
   rw [List.take_of_length_le (by omega), List.take_of_length_le (by omega)] at he
   rw [decide_eq_true he] at hq
   exact zj hq
abbrev StaO (s : Sta) (x : AVal) (P : List (Itm × (AVal × AVal))) (y z : AVal) : List Ob := .sl 4 x (P.map zd6.cs) [] :: .sl 6 y (s.Lots.map Lot.cs) [] :: .sl 8 z (s.zd8.map Line.cs) [] :: zd6.os false P
structure StaN (s : Sta) (k : Nat) : Prop where
 n : s.zd9.length + s.Lots.length + s.zd8.length ≤ k
 ok : ∀ t ∈ s.zd9, t.ok
theorem StaO.at {h0 h : za} {s : Sta} {x y z : AVal} {P : List (Itm × (AVal × AVal))} {l : List Ob} (ho : Owns h0 h l) (hl : ∀ o ∈ StaO s x P y z, o ∈ l) (e : P.map (·.1) = s.zd9) {k : Nat} (hn : StaN s k) (hk : k ≤ 100000000) : zla h s x y z := by
 obtain ⟨n, ok⟩ := hn
 refine ⟨?_, ⟨[], ho.is (.sl 6 y (s.Lots.map Lot.cs) []) (hl _ (by simp))⟩, ⟨[], ho.is (.sl 8 z (s.zd8.map Line.cs) []) (hl _ (by simp))⟩, by omega, by omega, by omega⟩
 rw [← e]
 refine dl_of (K := zd6) (b := false) (l := l) (R := []) (fun p hp => ok _ (by rw [← e]; exact List.mem_map.2 ⟨p, hp, rfl⟩)) ho.is (hl _ (List.mem_cons_self ..)) fun o hm => hl _ ?_
 simp only [StaO, List.mem_cons]
 exact .inr (.inr (.inr hm))
theorem itemVal_len {t : Itm} (h1 : t.zdd.length ≤ 8) (h2 : t.zck.length ≤ 4) : (zlk t).length ≤ 192 := by
 have g1 := zgn (f := fun p : Part => zdq p.Item ++ be p.Qty 4) (m := 17) (fun p => by have := zdp p.Item; simp; omega) t.zdd
 have g2 := zgn (f := zdq) (m := 13) zdp t.zck
 unfold zlk
 simp only [List.length_append, List.length_cons, zg5]
 omega
theorem allRows_small {s : Sta} : ∀ r ∈ allRows s, 1 ≤ r.Key.length ∧ r.Key.length ≤ 13 ∧ r.Key.length + r.Value.length ≤ 205 := by
 unfold allRows
 cases hb : zgx s with
 | false => simp
 | true =>
  unfold zgx zue at hb
  simp only [Bool.and_eq_true] at hb
  intro r hr
  simp only [cond_true, zq3, zid, List.cons_append, List.nil_append, List.mem_cons, List.mem_append, List.mem_map] at hr
  rcases hr with rfl | rfl | rfl | ⟨t, ht, rfl⟩ | ⟨t, _, rfl⟩ | ⟨t, _, rfl⟩
  ·simp
  ·simp
  ·simp
  ·obtain ⟨k1, k2, k3, k4, k5⟩ := zrl (zs4 hb.2.1 t ht)
   have := zln k4
   have := itemVal_len k1 k2
   simp only [zll, List.length_cons]
   omega
  ·have := zdp t.Item
   simp [zlt, lotVal]
   omega
  ·have := zdp t.Item
   have := zdp t.Code
   simp [zi4, lineVal]
   omega
theorem zry {s : Sta} : ∀ r ∈ allRows s, rowK.ok r := fun r hr => by
 have := allRows_small r hr
 show r.Key.length ≤ far ∧ r.Value.length ≤ far
 unfold far
 omega
theorem zsk {S : List Ob} {a b : Ob} : ((S ++ [a]) ++ [b]).Perm ((S ++ [b]) ++ [a]) := by
 rw [List.append_assoc, List.append_assoc]
 exact List.Perm.append_left S (List.Perm.swap ..)
theorem permI {U V : List Ob} {a b : Ob} : (U ++ [a] ++ (V ++ [b])).Perm (U ++ V ++ [b] ++ [a]) := by
 have h : (U ++ ([a] ++ (V ++ [b]))).Perm (U ++ ((V ++ [b]) ++ [a])) := List.Perm.append_left U List.perm_append_comm
 simpa only [List.append_assoc] using h
theorem rList_cnt {T : Type} (one : Rdr → T × Rdr) (n : Int) (r : Rdr) (h : n ≤ 255) : (zfy one n.toNat r).1.length ≤ few := by
 have := zp7 one n.toNat r
 unfold few
 omega
theorem rItem_ok (b c : List UInt8) (r : Rdr) : (zq9 b c r).1.ok := ⟨rList_cnt _ _ _ (rNum_1 _ _).2, rList_cnt _ _ _ (rNum_1 _ _).2⟩
def zx.Spec (C : CSem) (N : Nat → Nat) : Prop := ∀ (x : AVal) (L : List Row) (h : za) (Q : AVal → za → Prop), Dl rowK h x L → L.length ≤ 100000 →
 (∀ x' P y' z' h', P.map (·.1) = (ziz L).1.zd9 → StaN (ziz L).1 L.length → Owns h h' (StaO (ziz L).1 x' P y' z') → Q (.tup [.agg (zka (ziz L).1 x' y' z'), .int .i64 (ziz L).2]) h') → C (N 413) [x] h Q
theorem V.cutStr1 (s : List UInt8) : s ≠ [] → V.zup (.str s) (some (.int .i64 1)) none = some (.str (s.drop 1)) := fun h => by
 have : 1 ≤ s.length := List.length_pos_iff.2 h
 simp [V.zup, V.ends, V.endsC, V.asNat, this]
def prevR (L : List Row) (k : Nat) : Option Row := if k = 0 then none else L[k - 1]?
theorem zx.spec (i : zx.Imp C N) (s1 : zdl.Spec C N) (s2 : zn.Spec C N) (s3 : zr.Spec C N) (s4 : zch.Spec C N) (s5 : zb7.Spec C N) (s6 : zq.Spec C N) (s7 : zb.Spec C N) : zx.Spec C N := by
 intro x L h Q hx hlen hq
 apply i
 have hlx := hx.zi
 simp -dsimp only [zx.cps, zx.k10, hlx, B.zf]
 have o0 : Owns h h (.sl 2 .nils [] [] :: StaO zgu .nils [] .nils .nils) := (((Owns.start h).nils 2).nils 4).nils 6 |>.nils 8
 refine zg.intro (fun n vs hh => ∃ (k : Nat) (mine : AVal) (M : List (Row × (AVal × AVal))) (s : Sta) (X : AVal) (P : List (Itm × (AVal × AVal))) (Y Z : AVal), k + n = L.length ∧ vs = [mine, .int .i64 (k : Int), .agg [.int .i64 0, .int .i64 0, .int .i64 0, .nils, .nils, .nils], .agg (zka s X Y Z)] ∧ P.map (·.1) = s.zd9 ∧ StaN s k ∧ M.length ≤ k ∧ (∀ q ∈ M, rowK.at_ h q.1 q.2) ∧
   Owns h hh (.sl 2 mine (M.map rowK.cs) [] :: StaO s X P Y Z) ∧ ztj (L.drop k) (prevR L k) s (M.map (·.1)) = ztj L none zgu []) L.length ?_ ⟨0, .nils, [], zgu, .nils, [], .nils, .nils, by simp, rfl, rfl, ⟨by simp [zgu], by simp [zgu]⟩, by simp, by simp, o0, rfl⟩
 rintro Y n vs hh ⟨k, mine, M, s, X, P, Ys, Z, hk, rfl, hP, hN, hM, hat, ho, hst⟩ hY
 have zero : ∀ h', h.le h' → ziz L = (zgu, 4) → dn Q (.tup [.agg [.int .i64 0, .int .i64 0, .int .i64 0, .nils, .nils, .nils], .int .i64 4]) h' := fun h' hle e => by
  rw [e] at hq
  exact zsu hle (hq .nils [] .nils .nils h rfl ⟨by simp [zgu], by simp [zgu]⟩ (((Owns.start h).nils 4).nils 6 |>.nils 8))
 simp -dsimp only [zx.l9, lssN, B.zf]
 refine B.ze (fun hc => ?_) (fun hc => ?_)
 ·rw [decide_eq_true_eq] at hc
  obtain ⟨w, hw⟩ := zc6 hc
  have hxx := hx.mono ho.le
  obtain ⟨P0, R0, eP0, sx, at0⟩ := id hx
  obtain ⟨⟨kx, vx⟩, hq0⟩ : ∃ a, P0[k]? = some (w, a) := by
   rw [← eP0, List.getElem?_map] at hw
   obtain ⟨q, h1, h2⟩ := Option.map_eq_some_iff.1 hw
   exact ⟨q.2, by rw [h1, ← h2]⟩
  have ea := slX_el (sx.mono ho.le) (fun p hp => rowK.mono ho.le (at0 p hp)) hq0
  have e1 : V.idxS 2 x (.int .i64 (k : Int)) = some (elp 2 x k 0) := ea.idx
  have e2 : A.ldnv hh (elp 2 x k 0) 2 = some (.agg [kx, vx]) := ea.ldn
  obtain ⟨d1, d2⟩ : Bs h kx w.Key ∧ Bs h vx w.Value := at0 _ (List.mem_of_getElem? hq0)
  have a1 := d1.mono ho.le
  have cv := d2.zl
  have hd : L.drop k = w :: L.drop (k + 1) := by
   rw [List.drop_eq_getElem_cons hc]
   congr 1
   rw [List.getElem?_eq_getElem hc] at hw
   exact Option.some.inj hw
  have hprev : prevR L (k + 1) = some w := by unfold prevR; simpa using hw
  rw [hd, ztj] at hst
  have no : outB (prevR L k) w = true → dn Q (.tup [.agg [.int .i64 0, .int .i64 0, .int .i64 0, .nils, .nils, .nils], .int .i64 4]) hh := fun e => zero hh ho.le (by
   unfold ziz; rw [← hst, if_pos e]; rfl)
  have go : outB (prevR L k) w = false → zx.k6 C N (dn Q) Y x mine x (.int .i64 (L.length : Int)) (.int .i64 (k : Int)) (.agg [.int .i64 0, .int .i64 0, .int .i64 0, .nils, .nils, .nils]) (.agg (zka s X Ys Z)) (.agg [kx, vx]) hh := by
   intro e
   rw [if_neg (by rw [e]; exact Bool.false_ne_true)] at hst
   obtain ⟨c, r, hkey⟩ : ∃ c r, w.Key = c :: r := by
    cases hh : w.Key with
    | nil => unfold outB at e; rw [hh] at e; simp at e
    | cons c r => exact ⟨c, r, rfl⟩
   obtain ⟨Rk, b0⟩ := d1.1
   have b1 := b0.mono ho.le
   have g1 : V.idxS 1 kx (.int .i64 0) = some (elp 1 kx 0 0) := b1.idxN (i := 0) (by rw [hkey]; simp)
   have g2 : A.ldv hh (elp 1 kx 0 0) = some (.int .u8 (c.toNat : Int)) := b1.cell (by rw [hkey]; rfl)
   simp -dsimp [g1, g2]
   refine B.ze (fun hb => ?_) (fun hb => ?_)
   ·have hb : (c.toNat : Int) = 97 := by simpa using hb
    have hc97 : w.Key.head? = some 97 := by
     rw [hkey]
     have h1 : c.toNat = 97 := by omega
     have : c = 97 := UInt8.toNat_inj.1 h1
     rw [this]; rfl
    rw [if_pos hc97] at hst
    simp -dsimp only [add1 (show k < 4611686018427387904 by omega), B.zf]
    exact hY (L.length - (k + 1)) _ _ (by omega) ⟨k + 1, mine, M, s, X, P, Ys, Z, by omega, rfl, hP, ⟨by have := hN.n; omega, hN.ok⟩, by omega, hat, ho, by rw [hprev]; exact hst⟩
   ·have hb : ¬ (c.toNat : Int) = 97 := by simpa using hb
    have hc97 : ¬ w.Key.head? = some 97 := by
     rw [hkey]
     intro e
     have e : c = 97 := Option.some.inj e
     rw [e] at hb
     exact hb rfl
    rw [if_neg hc97] at hst
    simp -dsimp only [zx.k5]
    simp -dsimp
    refine ho.push 0 rfl (cs := [kx, vx]) rfl (by omega) (by simp; omega) (by simp [maxLen]; omega) fun mine' h2 o2 _ => ?_
    obtain ⟨kt, Rt, t1, t2, _⟩ := b0.zjq (by omega) (lo := 1) (hi := w.Key.length) (a := some (.int .i64 1)) (b := none) (.inr ⟨_, rfl⟩) (.inl ⟨rfl, rfl⟩) (by rw [hkey]; simp) (by omega)
    rw [List.take_length] at t2
    have ct := t2.zl
    simp -dsimp [cv, t1, ct]
    intro i52 h52
    have o3 := o2.zmj h52 [vx, .bool false]
    generalize upd h2 i52 (zel [vx, .bool false]) = h3 at *
    simp -dsimp
    intro i57 h57
    have o4 := o3.zmj h57 [kt, .bool false]
    generalize upd h3 i57 (zel [kt, .bool false]) = h4 at *
    have o4 : Owns h h4 (((.sl 2 mine' ((M ++ [(w, (kx, vx))]).map rowK.cs) [] :: StaO s X P Ys Z) ++ [.box (.ptr i52 0 0) [vx, .bool false]]) ++ [.box (.ptr i57 0 0) [kt, .bool false]]) := by
     rw [List.map_append]; exact o4
    have after : ∀ (s' : Sta) (X' : AVal) (P' : List (Itm × (AVal × AVal))) (Y' Z' u1 u2 : AVal) (b1 b2 : Bool) (h' : za), Owns h h' (((.sl 2 mine' ((M ++ [(w, (kx, vx))]).map rowK.cs) [] :: StaO s' X' P' Y' Z') ++ [.box (.ptr i52 0 0) [u1, .bool b1]]) ++ [.box (.ptr i57 0 0) [u2, .bool b2]]) →
      zuv w s = (s', b1 || b2) → P'.map (·.1) = s'.zd9 → StaN s' (k + 1) → zx.k2 C N (dn Q) Y x mine' (.ptr i52 0 0) (.ptr i57 0 0) x (.int .i64 (L.length : Int)) (.int .i64 (k : Int)) (.agg [.int .i64 0, .int .i64 0, .int .i64 0, .nils, .nils, .nils]) (.agg (zka s' X' Y' Z')) h' := by
     intro s' X' P' Y' Z' u1 u2 b1 b2 h' o' er eP hN'
     obtain ⟨_, e, w1⟩ := (o'.perm zsk).zhi _ zjc
     cases e
     obtain ⟨_, e, w2⟩ := o'.zhi _ zjc
     cases e
     simp +contextual -dsimp [zeu w1, zeu w2]
     rw [er] at hst
     refine B.ze (fun hb => ?_) (fun hb => ?_)
     ·have hbb : (b1 || b2) = true := by cases b1 <;> cases b2 <;> simp at hb ⊢
      simp -dsimp
      refine zero h' o'.le ?_
      unfold ziz
      rw [← hst, if_pos hbb]; rfl
     ·have hbb : ¬ (b1 || b2) = true := by cases b1 <;> cases b2 <;> simp at hb ⊢
      rw [if_neg hbb] at hst
      simp -dsimp only [add1 (show k < 4611686018427387904 by omega), B.zf]
      refine hY (L.length - (k + 1)) _ _ (by omega) ⟨k + 1, mine', M ++ [(w, (kx, vx))], s', X', P', Y', Z', by omega, rfl, eP, hN', by simp; omega, ?_, o'.sub (by rw [List.append_assoc]; exact List.sublist_append_left _ _), ?_⟩
      ·intro q hq
       rcases List.mem_append.1 hq with hq | hq
       ·exact hat q hq
       ·rw [List.mem_singleton.1 hq]; exact ⟨d1, d2⟩
      ·rw [hprev, List.map_append]; exact hst
    have hkl : w.Key.length ≤ far := d1.2
    have hvl : w.Value.length ≤ far := d2.2
    unfold far at hkl hvl
    have rv : RwL h h h4 ((.sl 2 mine' ((M ++ [(w, (kx, vx))]).map rowK.cs) [] :: StaO s X P Ys Z) ++ [.box (.ptr i57 0 0) [kt, .bool false]]) (.ptr i52 0 0) w.Value ⟨0, false⟩ := by
     obtain ⟨Rv, hv⟩ := d2.1
     exact ⟨vx, Rv, hv, o4.perm zsk, za.le_refl h, Nat.zero_le _, by omega⟩
    have ri : RwL h h h4 ((.sl 2 mine' ((M ++ [(w, (kx, vx))]).map rowK.cs) [] :: StaO s X P Ys Z) ++ [.box (.ptr i52 0 0) [vx, .bool false]]) (.ptr i57 0 0) (w.Key.drop 1) ⟨0, false⟩ :=
     ⟨kt, Rt, t2, o4, za.le_refl h, Nat.zero_le _, by simp; omega⟩
    have es := fun K => ziq (b0.mono o4.le) K
    have ei : V.zja (.str w.Key) (.int .i64 0) = some (.int .u8 (c.toNat : Int)) := zug (k := 0) (by rw [hkey]; rfl)
    have ec := V.cutStr1 w.Key (by rw [hkey]; exact List.cons_ne_nil _ _)
    have hN1 : StaN s (k + 1) := ⟨by have := hN.n; omega, hN.ok⟩
    simp -dsimp only [zx.k3, B.zhz, V.zej, List.getElem?_cons_zero, B.zf, es, V.zko]
    refine B.ze (fun hk1 => ?_) (fun hk1 => ?_)
    ·rw [decide_eq_true_eq] at hk1
     refine s2 _ _ _ _ _ _ _ 2 _ rv (by omega) fun h5 r5 => ?_
     obtain ⟨u, _, _, o5, _⟩ := r5
     simp -dsimp
     exact after { s with Now := (rNum w.Value 2 ⟨0, false⟩).1 } X P Ys Z u kt _ false h5 (o5.perm zsk) (by unfold zuv; rw [if_pos hk1, Bool.or_false]) hP ⟨hN1.n, hN1.ok⟩
    rw [decide_eq_false_iff_not] at hk1
    simp -dsimp only [B.zf, V.zko]
    refine B.ze (fun hk2 => ?_) (fun hk2 => ?_)
    ·rw [decide_eq_true_eq] at hk2
     refine s2 _ _ _ _ _ _ _ 8 _ rv (by omega) fun h5 r5 => ?_
     obtain ⟨u, _, _, o5, _⟩ := r5
     simp -dsimp
     exact after { s with zhx := (rNum w.Value 8 ⟨0, false⟩).1 } X P Ys Z u kt _ false h5 (o5.perm zsk) (by unfold zuv; rw [if_neg hk1, if_pos hk2, Bool.or_false]) hP ⟨hN1.n, hN1.ok⟩
    rw [decide_eq_false_iff_not] at hk2
    simp -dsimp only [B.zf, V.zko]
    refine B.ze (fun hk3 => ?_) (fun hk3 => ?_)
    ·rw [decide_eq_true_eq] at hk3
     refine s2 _ _ _ _ _ _ _ 8 _ rv (by omega) fun h5 r5 => ?_
     obtain ⟨u, _, _, o5, _⟩ := r5
     simp -dsimp
     exact after { s with zgq := (rNum w.Value 8 ⟨0, false⟩).1 } X P Ys Z u kt _ false h5 (o5.perm zsk) (by unfold zuv; rw [if_neg hk1, if_neg hk2, if_pos hk3, Bool.or_false]) hP ⟨hN1.n, hN1.ok⟩
    rw [decide_eq_false_iff_not] at hk3
    have hd0 : w.Key.head? = some c := by rw [hkey]; rfl
    have toc : ∀ n : Nat, n < 256 → ((c.toNat : Int) = n ↔ w.Key.head? = some (UInt8.ofNat n)) := fun n hn => by
     rw [hd0]
     constructor
     ·intro e
      have e : c.toNat = n := by omega
      rw [← e]; simp
     ·intro e
      have e : c = UInt8.ofNat n := Option.some.inj e
      rw [e]; simp; omega
    simp -dsimp only [ei, B.zf, V.zrv]
    refine B.ze (fun hk4 => ?_) (fun hk4 => ?_)
    ·rw [decide_eq_true_eq] at hk4
     have hk4 : w.Key.head? = some 105 := (toc 105 (by omega)).1 hk4
     simp -dsimp [ec, - List.drop_one]
     obtain ⟨q1, q2⟩ := (o4.perm zsk).out
     obtain ⟨Rv, hv⟩ := d2.1
     refine s3 h _ h4 _ w.Value (w.Key.drop 1) ⟨0, false⟩ _ ⟨vx, Rv, hv, q2, q1.le, Nat.zero_le _, by omega⟩ fun a h5 r5 => ?_
     obtain ⟨u, _, _, o5, _⟩ := r5
     have o6 := q1.join o5
     have hf := zqt zd6 (zq9 w.Value (w.Key.drop 1) ⟨0, false⟩).1 a
     simp -dsimp only [show zc7 [(0, some 4, AVal.agg (zd6.cells (zq9 w.Value (w.Key.drop 1) ⟨0, false⟩).1 a))] (repL 1 [.str [], .int .i64 0, .nils, .nils]) = some (zd6.cells (zq9 w.Value (w.Key.drop 1) ⟨0, false⟩).1 a) from hf]
     have hPl : P.length ≤ k := by have := hN.n; rw [← hP, List.length_map] at this; omega
     refine o6.push 1 rfl (zd6.len _ a) (by decide) (by simp; omega) (by simp [maxLen]; omega) fun X' h6 o7 _ => ?_
     have cX : X'.zl = true := (o7.slAt 1 rfl).zl
     simp -dsimp [cX]
     refine after { s with zd9 := s.zd9 ++ [(zq9 w.Value (w.Key.drop 1) ⟨0, false⟩).1] } X' (P ++ [((zq9 w.Value (w.Key.drop 1) ⟨0, false⟩).1, a)]) Ys Z u kt (zq9 w.Value (w.Key.drop 1) ⟨0, false⟩).2.bad false h6 (o7.perm ?_) (by unfold zuv; rw [if_neg hk1, if_neg hk2, if_neg hk3, if_pos hk4, Bool.or_false]) (by rw [List.map_append, hP]; rfl) ⟨by simp; have := hN.n; omega, fun t ht => ?_⟩
     ·unfold StaO
      rw [DK.zk2, DK.zu8]
      simp only [List.map_append, List.map_cons, List.map_nil]
      exact (((permI.cons _).cons _).cons _).cons _
     ·rcases List.mem_append.1 ht with ht | ht
      ·exact hN.ok t ht
      ·rw [List.mem_singleton.1 ht]; exact rItem_ok _ _ _
    rw [decide_eq_false_iff_not] at hk4
    have hk4 : ¬ w.Key.head? = some 105 := fun e => hk4 ((toc 105 (by omega)).2 e)
    simp -dsimp only [ei, B.zf, V.zrv]
    refine B.ze (fun hk5 => ?_) (fun hk5 => ?_)
    ·rw [decide_eq_true_eq] at hk5
     have hk5 : w.Key.head? = some 108 := (toc 108 (by omega)).1 hk5
     simp -dsimp [- List.drop_one]
     refine s2 _ _ _ _ _ _ _ 8 _ ri (by omega) fun h5 r5 => ?_
     obtain ⟨u2, _, _, o5, _⟩ := r5
     obtain ⟨Rv, hv⟩ := d2.1
     refine s4 h h h5 _ _ w.Value _ ⟨0, false⟩ _ ⟨vx, Rv, hv, o5.perm zsk, za.le_refl h, Nat.zero_le _, by omega⟩ fun h6 r6 => ?_
     obtain ⟨u, _, _, o6, _⟩ := r6
     simp -dsimp [- List.drop_one]
     refine (o6.perm zsk).push 2 rfl rfl (by decide) (by simp; have := hN.n; omega) (by simp [maxLen]; have := hN.n; omega) fun X' h7 o7 _ => ?_
     have cX : X'.zl = true := (o7.slAt 2 rfl).zl
     simp -dsimp [cX, - List.drop_one]
     refine after { s with Lots := s.Lots ++ [(ztm w.Value (rNum (w.Key.drop 1) 8 ⟨0, false⟩).1 ⟨0, false⟩).1] } X P X' Z u u2 _ _ h7 (o7.perm ?_) (by unfold zuv; rw [if_neg hk1, if_neg hk2, if_neg hk3, if_neg hk4, if_pos hk5]) hP ⟨by simp; have := hN.n; omega, hN1.ok⟩
     unfold StaO
     simp only [List.map_append, List.map_cons, List.map_nil]
     exact List.Perm.refl _
    rw [decide_eq_false_iff_not] at hk5
    have hk5 : ¬ w.Key.head? = some 108 := fun e => hk5 ((toc 108 (by omega)).2 e)
    simp -dsimp only [ei, B.zf, V.zrv]
    refine B.ze (fun hk6 => ?_) (fun hk6 => ?_)
    ·rw [decide_eq_true_eq] at hk6
     have hk6 : w.Key.head? = some 111 := (toc 111 (by omega)).1 hk6
     simp -dsimp [- List.drop_one]
     refine s2 _ _ _ _ _ _ _ 8 _ ri (by omega) fun h5 r5 => ?_
     obtain ⟨u2, _, _, o5, _⟩ := r5
     obtain ⟨Rv, hv⟩ := d2.1
     refine s5 h h h5 _ _ w.Value _ ⟨0, false⟩ _ ⟨vx, Rv, hv, o5.perm zsk, za.le_refl h, Nat.zero_le _, by omega⟩ fun h6 r6 => ?_
     obtain ⟨u, _, _, o6, _⟩ := r6
     simp -dsimp [- List.drop_one]
     refine (o6.perm zsk).push 3 rfl rfl (by decide) (by simp; have := hN.n; omega) (by simp [maxLen]; have := hN.n; omega) fun X' h7 o7 _ => ?_
     have cX : X'.zl = true := (o7.slAt 3 rfl).zl
     simp -dsimp [cX, - List.drop_one]
     refine after { s with zd8 := s.zd8 ++ [(zp5 w.Value (rNum (w.Key.drop 1) 8 ⟨0, false⟩).1 ⟨0, false⟩).1] } X P Ys X' u u2 _ _ h7 (o7.perm ?_) (by unfold zuv; rw [if_neg hk1, if_neg hk2, if_neg hk3, if_neg hk4, if_neg hk5, if_pos hk6]) hP ⟨by simp; have := hN.n; omega, hN1.ok⟩
     unfold StaO
     simp only [List.map_append, List.map_cons, List.map_nil]
     exact List.Perm.refl _
    rw [decide_eq_false_iff_not] at hk6
    have hk6 : ¬ w.Key.head? = some 111 := fun e => hk6 ((toc 111 (by omega)).2 e)
    simp -dsimp only [B.zg3, V.zgp, B.zf, Nat.zero_add]
    have o4' := o4.perm zsk
    refine o4'.zrr _ zjc rfl (by simp) fun h5 o5 _ => ?_
    rw [zse] at o5
    exact after s X P Ys Z vx kt true false h5 (o5.perm zsk) (by unfold zuv; rw [if_neg hk1, if_neg hk2, if_neg hk3, if_neg hk4, if_neg hk5, if_neg hk6]; rfl) hP hN1
  simp -dsimp only [zx.k8, e1, e2, B.zij, B.zf]
  by_cases h0 : k = 0
  ·subst h0
   simp -dsimp [a1.zi, lenZ, - zx.k6]
   refine B.ze (fun hb => ?_) (fun hb => ?_)
   ·simp -dsimp
    exact no (by unfold outB prevR; simpa using hb)
   ·exact go (by unfold outB prevR; simpa using hb)
  ·obtain ⟨u, hu⟩ := zc6 (L := L) (k := k - 1) (by omega)
   obtain ⟨kp, vp, f1, f2, f3, f4, f5, f6, c1, c2⟩ := ztl hxx hu
   have sk := sub1 (a := k) (by omega) (by omega)
   have hk0 : 0 < k := by omega
   have hpv : prevR L k = some u := by unfold prevR; rw [if_neg h0]; exact hu
   simp -dsimp [sk, f1, f3, f5, hk0, - V.zi5, - zx.k6]
   refine s1 _ _ _ _ _ _ c1 a1 ?_
   simp +contextual -dsimp [a1.zi, lenZ, - zx.k6]
   refine B.ze (fun hb => ?_) (fun hb => ?_)
   ·simp -dsimp
    refine no ?_
    unfold outB
    rw [hpv]
    simpa using hb
   ·refine go ?_
    unfold outB
    rw [hpv]
    simpa using hb
 ·rw [decide_eq_false_iff_not] at hc
  have : k = L.length := by omega
  subst this
  rw [List.drop_length, ztj] at hst
  have ha : zla hh s X Ys Z := StaO.at ho (fun o hm => List.mem_cons_of_mem _ hm) hP hN (by omega)
  have cx := ha.items.zl
  have cy : Ys.zl = true := ha.lots.elim fun _ r => r.zl
  have cz : Z.zl = true := ha.lines.elim fun _ r => r.zl
  simp -dsimp
  refine s6 s X Ys Z hh _ ha (by have := hN.n; omega) fun x' P' h1 eP o1 => ?_
  have dx : Dl rowK h1 x' (allRows s) := by
   rw [← eP]
   exact Df.dl o1 fun p hp => zry _ (by rw [← eP]; exact List.mem_map.2 ⟨p, hp, rfl⟩)
  have dm : Dl rowK h1 mine (M.map (·.1)) := ⟨M, [], rfl, (ho.slAt 0 rfl).mono o1.le, fun q hq => rowK.mono (za.le_trans ho.le o1.le) (hat q hq)⟩
  have hal : (allRows s).length < 4611686018427387904 := by
   unfold allRows
   cases zgx s <;> simp [zq3, zid]
   have := hN.n
   omega
  refine s7 x' mine _ _ h1 _ dx dm hal ?_
  have lm := dm.zi
  have hle : h.le h1 := za.le_trans ho.le o1.le
  simp +contextual -dsimp [lm, - List.length_map]
  refine B.ze (fun hb => ?_) (fun hb => ?_)
  ·simp -dsimp
   refine zero h1 hle ?_
   unfold ziz
   rw [← hst]
   show (if allRows s = M.map (·.1) ∧ M.map (·.1) ≠ [] then _ else _) = _
   rw [if_neg]
   intro e
   simp [e.1] at hb
   exact e.2 (by rw [hb]; rfl)
  ·simp -dsimp
   have e : ziz L = (s, 0) := by
    unfold ziz
    rw [← hst]
    show (if allRows s = M.map (·.1) ∧ M.map (·.1) ≠ [] then _ else _) = _
    rw [if_pos]
    simp only [Bool.or_eq_false_iff, Bool.not_eq_false', decide_eq_true_eq, decide_eq_false_iff_not] at hb
    exact ⟨hb.1, fun e => hb.2 (List.map_eq_nil_iff.1 e)⟩
   rw [e] at hq
   exact zsu o1.le (hq X P Ys Z hh hP hN (ho.sub (List.sublist_cons_self _ _)))
def zvf (s r k : Int) : Bool := ((((decide (s < 0) || decide (4 ≤ s)) || decide (r < 1)) || decide (4611686018427387904 < r)) || decide (k < 0)) || decide (1000 ≤ k)
def keyP (s r k : Int) : List UInt8 := bif zvf s r k then [] else 97 :: byt s :: (be r 8 ++ be k 2)
def zi7 (b : List UInt8) : Nat := (b.length + 179) / 180
def ztv (b : List UInt8) (i : Nat) : List UInt8 := (b.drop (180 * i)).take 180
def zp9 (s r : Int) (b : List UInt8) (i : Nat) : Row := ⟨keyP s r i, ztv b i⟩
def zi6 (s r : Int) (t : zf3) : List Row × Int := if (zga t).2 ≠ 0 ∨ keyP s r 0 = [] then ([], 2) else ((List.range (zi7 (zga t).1)).map (zp9 s r (zga t).1), 0)
def mineB (s r : Int) (x : Row) : Bool := decide (x.Key.length = 12) && decide (x.Key.take 10 = (keyP s r 0).take 10)
def wholeB (s r : Int) (b : List UInt8) (n : Nat) (x : Row) : Bool := ((decide (x.Key = keyP s r n) && decide (b.length = n * 180)) && decide (0 < x.Value.length)) && decide (x.Value.length ≤ 180)
def zmw (s r : Int) : List Row → List UInt8 → Nat → Bool → List UInt8 × Bool
 | [], b, _, w => (b, w)
 | x :: l, b, n, w => if mineB s r x = true then zmw s r l (b ++ x.Value) (n + 1) (w && wholeB s r b n x) else zmw s r l b n w
def zvs (q : List UInt8 × Bool) : zf3 × Bool := if q.2 = true ∧ (zjp q.1).2.2 = 0 ∧ (zjp q.1).2.1 = q.1.length then ((zjp q.1).1, true) else (zm2, false)
def zjj (s r : Int) (l : List Row) : zf3 × Bool := if keyP s r 0 = [] then (zm2, false) else zvs (zmw s r l [] 0 true)
theorem eqSl_no {h : za} {es : Nat} {x : AVal} {L R : List (List AVal)} (hx : SlX h es x L R) (hL : L ≠ []) : V.eqSl .eql x .nils = some (.bool false) := by
 rcases hx.at_ with ⟨e, _⟩ | ⟨id, g, off, cp, b, hi, h1, _⟩
 ·exact absurd e hL
 ·subst h1; rfl
def zgd.Spec (C : CSem) (N : Nat → Nat) : Prop := ∀ (s r k : Int) (h : za) (Q : AVal → za → Prop), (∀ x' h', Owns h h' [bOb false x' (keyP s r k)] → (keyP s r k = [] → x' = .nils) → Q x' h') → C (N 427) [.int .i64 s, .int .i64 r, .int .i64 k] h Q
theorem keyP_len {s r k : Int} (h : zvf s r k = false) : (keyP s r k).length = 12 := by simp [keyP, h]
theorem zgd.spec (i : zgd.Imp C N) (s1 : zce.Spec C N) (s2 : ze1.Spec C N) : zgd.Spec C N := by
 intro s r k h Q hq
 apply i
 simp +contextual -dsimp
 have eb : (((((decide (s < 0) || decide (4 ≤ s)) || decide (r < 1)) || decide (4611686018427387904 < r)) || decide (k < 0)) || decide (1000 ≤ k)) = zvf s r k := rfl
 try rw [eb]
 refine B.ze (fun hb => ?_) (fun hb => ?_)
 ·have e : keyP s r k = [] := by unfold keyP; rw [hb]; rfl
  rw [e] at hq
  exact zj (hq .nils h ((Owns.start h).nils 1) fun _ => rfl)
 ·have e : keyP s r k = 97 :: byt s :: (be r 8 ++ be k 2) := by unfold keyP; rw [hb]; rfl
  simp -dsimp [zke]
  refine zfr 2 (s := [97, byt s]) rfl rfl fun i31 h1 o1 => ?_
  obtain ⟨b1, m1, ho1, p1⟩ := zds (xs := []) (L := []) (Owns.start h) trivial o1
  generalize AVal.sl i31 0 0 2 1 2 = a1 at *
  refine s1 r 8 _ _ (by omega) fun a2 h2 o2 => ?_
  obtain ⟨b2, m2, ho2, p2⟩ := zds ho1 p1 o2
  refine s1 k 2 _ _ (by omega) fun a3 h3 o3 => ?_
  obtain ⟨b3, m3, ho3, p3⟩ := zds ho2 p2 o3
  have c1 := (p3.get 0 a1 _ rfl rfl).elim fun _ r => r.zl
  have c2 := (p3.get 1 a2 _ rfl rfl).elim fun _ r => r.zl
  have c3 := (p3.get 2 a3 _ rfl rfl).elim fun _ r => r.zl
  simp -dsimp [c1, c2, c3]
  refine zqo 3 ho3 rfl (ys := [a1, a2, a3]) fun i36 h4 hle4 o4 => ?_
  generalize AVal.sl i36 0 0 3 1 3 = a4 at *
  refine s2 a4 [a1, a2, a3] [[97, byt s], be r 8, be k 2] [] _ _ (o4.is (.sl 1 a4 ([a1, a2, a3].map fun y => [y]) []) (by simp)) (p3.mono (za.le_trans ho3.le hle4)) (by simp) (by simp) fun x' h5 o5 => zj (hq x' h5 ?_ ?_)
  ·rw [e]
   have : ([[97, byt s], be r 8, be k 2] : List (List UInt8)).flatten = 97 :: byt s :: (be r 8 ++ be k 2) := by simp
   rw [this] at o5
   exact o5.back (za.le_trans m1 (za.le_trans m2 (za.le_trans m3 o4.le)))
  ·rw [e]; simp
def zeb.Spec (C : CSem) (N : Nat → Nat) : Prop := ∀ (x : AVal) (s : List UInt8) (h : za) (Q : AVal → za → Prop), Bs h x s → (∀ x' h', Owns h h' [bOb false x' s] → Q x' h') → C (N 428) [x] h Q
theorem zeb.spec (i : zeb.Imp C N) : zeb.Spec C N := by
 intro x s h Q hx hq
 apply i
 obtain ⟨⟨R, hx⟩, hs⟩ := hx
 have cp : B.appW h 1 1 .sz x (fun v7 h => dn Q v7 h) := by
  refine Owns.appW ((Owns.start h).sz 1) 0 rfl hx (by omega) (by simp; unfold far at hs; omega) (by simp [maxLen]; unfold far at hs; omega) fun x' h' h1 _ => zj (hq x' h' ?_)
  simpa [bOb] using h1
 simp -dsimp only [zeb.cps]
 rcases hx.at_ with ⟨e1, e2, rfl | rfl⟩ | ⟨id, g, off, cp', b, hi, rfl, h3⟩
 ·simp -dsimp [V.eqSl]
  have e1 : s = [] := List.map_eq_nil_iff.1 e1
  rw [e1] at hq
  exact zj (hq _ _ ((Owns.start h).nils 1))
 ·simp -dsimp [V.eqSl]
  exact cp
 ·simp -dsimp [V.eqSl]
  rw [List.length_map] at cp
  exact cp
def zcd.Spec (C : CSem) (N : Nat → Nat) : Prop := ∀ (x y : AVal) (a b : List UInt8) (h : za) (Q : AVal → za → Prop), Bs h x a → Bs h y b → Q (.bool (decide (a.take b.length = b))) h → C (N 436) [x, y] h Q
theorem zcd.spec (i : zcd.Imp C N) (s1 : zdx.Spec C N) : zcd.Spec C N := by
 intro x y a b h Q hx hy hq
 apply i
 have lx := hx.zi
 have ly := hy.zi
 by_cases hl : b.length ≤ a.length
 ·obtain ⟨⟨R, hx1⟩, ha⟩ := hx
  obtain ⟨z, R', e1, e2, _⟩ := hx1.zjq (by omega) (lo := 0) (hi := b.length) (a := none) (b := some (.int .i64 (b.length : Int))) (.inl ⟨rfl, rfl⟩) (.inr ⟨_, rfl⟩) (by omega) hl
  rw [List.drop_zero] at e2
  simp +contextual -dsimp [lx, ly, hl, e1]
  refine s1 z y _ b h _ ⟨⟨R', e2⟩, by simp; unfold far at *; omega⟩ hy ?_
  simp -dsimp
  exact zj hq
 ·simp +contextual -dsimp [lx, ly, hl]
  have : decide (a.take b.length = b) = false := decide_eq_false fun e => by
   have := congrArg List.length e
   simp at this
   omega
  rw [this] at hq
  exact zj hq
theorem SlX.cut3m {h : za} {es : Nat} {x : AVal} {L R : List (List AVal)} (hs : SlX h es x L R) {lo hi : Nat} {j1 j2 j3 : IntKind} (h1 : lo < hi) (h2 : hi ≤ L.length) :
  ∃ x', V.cut3 es x (.int j1 (lo : Int)) (.int j2 (hi : Int)) (.int j3 (hi : Int)) = some x' ∧ SlX h es x' ((L.take hi).drop lo) [] := by
 rcases hs.at_ with ⟨e, e', e''⟩ | ⟨id, g, off, cp, bk, hh, k1, k1', k2, k3, k4, k5, k6⟩
 ·subst e; simp at h2; omega
 ·subst k1
  refine ⟨.sl id g (off + lo * es) (hi - lo) es 0, ?_, ⟨fun p hp => hs.len p (List.mem_append_left _ (List.mem_of_mem_take (List.mem_of_mem_drop (by simpa using hp)))), .inr ⟨id, g, off + lo * es, 0, bk, hh, ?_, ?_, k2, k3, ?_, k5, ?_⟩⟩⟩
  ·simp only [V.cut3, V.asNat]
   rw [if_pos (by omega), if_pos (by omega)]
   simp only [Int.toNat_natCast]
   rw [if_pos ⟨by omega, Nat.le_refl _, by omega, trivial⟩, if_neg (by omega)]
   simp
  ·simp [Nat.min_eq_left h2]
  ·simp [Nat.min_eq_left h2]
  ·have h3 : lo * es + (hi - lo) * es = hi * es := by rw [← Nat.add_mul]; congr 1; omega
   have h4 : hi * es ≤ (L.length + R.length) * es := Nat.mul_le_mul_right _ (by omega)
   simp only [List.length_drop, List.length_take, Nat.min_eq_left h2, List.length_nil, Nat.add_zero]
   omega
  ·have h3 : lo * es + (hi - lo) * es = hi * es := by rw [← Nat.add_mul]; congr 1; omega
   have h4 : hi * es ≤ (L.length + R.length) * es := Nat.mul_le_mul_right _ (by omega)
   simp only [List.length_drop, List.length_take, Nat.min_eq_left h2, List.length_nil, Nat.add_zero, List.append_nil]
   have e1 : ((L.take hi).drop lo).flatten = ((L ++ R).flatten.take (hi * es)).drop (lo * es) := by
    rw [flat_drop (fun p hp => hs.len p (List.mem_append_left _ (List.mem_of_mem_take hp))), flat_take (fun p hp => hs.len p (List.mem_append_left _ hp)), ← List.take_append_of_le_length (l₂ := R.flatten) (by rw [zkl (fun p hp => hs.len p (List.mem_append_left _ hp))]; exact Nat.mul_le_mul_right _ h2), ← List.flatten_append]
   rw [e1, ← k6, List.take_take, Nat.min_eq_left h4, ← List.drop_drop]
   rw [List.drop_take, ← h3, Nat.add_sub_cancel_left]
def zgl (b : List UInt8) (i : Nat) : Nat := min (180 * i + 180) b.length
def ztt (v : AVal) (b : List UInt8) (i : Nat) : AVal := (V.cut3 1 v (.int .i64 ((180 * i : Nat) : Int)) (.int .i64 (zgl b i : Int)) (.int .i64 (zgl b i : Int))).getD .nils
theorem ztu {b : List UInt8} {i : Nat} : i < zi7 b ↔ 180 * i < b.length := by unfold zi7; omega
theorem pieceV_at {h : za} {v : AVal} {b : List UInt8} {R : List (List AVal)} (hv : SlX h 1 v (b.map bc) R) {i : Nat} (hi : i < zi7 b) :
  V.cut3 1 v (.int .i64 ((180 * i : Nat) : Int)) (.int .i64 (zgl b i : Int)) (.int .i64 (zgl b i : Int)) = some (ztt v b i) ∧ SlX h 1 (ztt v b i) ((ztv b i).map bc) [] := by
 rw [ztu] at hi
 obtain ⟨x', e1, e2⟩ := hv.cut3m (lo := 180 * i) (hi := zgl b i) (j1 := .i64) (j2 := .i64) (j3 := .i64) (by unfold zgl; omega) (by rw [List.length_map]; unfold zgl; omega)
 have e3 : ztt v b i = x' := by unfold ztt; rw [e1]; rfl
 refine ⟨by rw [e3]; exact e1, ?_⟩
 rw [e3]
 have e4 : ((b.map bc).take (zgl b i)).drop (180 * i) = (ztv b i).map bc := by
  unfold ztv zgl
  rw [← List.map_take, ← List.map_drop, List.drop_take]
  congr 1
  by_cases hh : 180 * i + 180 ≤ b.length
  ·rw [Nat.min_eq_left hh]; congr 1; omega
  ·rw [Nat.min_eq_right (by omega), List.take_of_length_le (by simp), List.take_of_length_le (by simp; omega)]
 rw [← e4]; exact e2
def zmd (v : AVal) (b : List UInt8) : List (List AVal) := (List.range (zi7 b)).map fun i => [ztt v b i]
theorem zo.iter (hC : zjk C) (i : zo.Imp C N) {p q v : AVal} {b : List UInt8} {R : List (List AVal)} (hl : b.length ≤ 100000000) : Iter C (N 443) [] [p, q] (fun h => A.ldv h p = some v ∧ A.ldv h q = some (.int .i64 180) ∧ SlX h 1 v (b.map bc) R) (zmd v b) := by
 intro id I Z h Q hD hr h0 hend hZ
 refine i (.yld id) p q h Q ?_
 have pl : (zmd v b).length = zi7 b := by simp [zmd]
 simp -dsimp only [zo.cps]
 refine zg.intro (fun t vs hh => ∃ k : Nat, k + t = zi7 b ∧ vs = [.int .i64 ((180 * k : Nat) : Int)] ∧ I k hh) (zi7 b) ?_ ⟨0, by omega, rfl, h0⟩
 rintro Y t vs hh ⟨k, hkt, rfl, hI⟩ hY
 obtain ⟨d1, d2, d3⟩ := hD k hh hI
 have el := d3.zi
 rw [List.length_map] at el
 simp -dsimp only [zo.l2, zo.k1, B.zh0, d1, d2, el, lssN, B.zf]
 refine B.ze (fun hb => ?_) (fun hb => ?_)
 ·rw [decide_eq_true_eq] at hb
  have hk : k < zi7 b := ztu.2 hb
  obtain ⟨w, R2, f2, f3, _⟩ := d3.zjq (by omega) (lo := 180 * k) (hi := b.length) (a := some (.int .i64 ((180 * k : Nat) : Int))) (b := none) (.inr ⟨_, rfl⟩) (.inl ⟨rfl, rfl⟩) (by omega) (by omega)
  have lw := f3.zi
  rw [List.take_length, List.length_map, List.length_drop] at lw
  obtain ⟨g1, g2⟩ := pieceV_at d3 hk
  have em : V.min2 (.int .i64 180) (.int .i64 ((b.length - 180 * k : Nat) : Int)) = some (.int .i64 ((zgl b k - 180 * k : Nat) : Int)) := by
   rw [V.min2_int]; congr 2; unfold zgl; omega
  have ea : V.bin .add (.int .i64 ((180 * k : Nat) : Int)) (.int .i64 ((zgl b k - 180 * k : Nat) : Int)) = some (.int .i64 (zgl b k : Int)) := by
   rw [addNN (by unfold zgl; omega)]; congr 3; unfold zgl; omega
  have en : V.bin .add (.int .i64 ((180 * k : Nat) : Int)) (.int .i64 180) = some (.int .i64 ((180 * (k + 1) : Nat) : Int)) := by
   have := addNN (a := 180 * k) (b := 180) (by omega)
   rw [show ((180 : Nat) : Int) = 180 from rfl] at this
   rw [this]; congr 3
  simp -dsimp only [B.zh0, d1, d2, f2, lw, em, ea, g1, B.zf, B.callv_yld]
  refine hC _ _ _ _ _ (fun v h' hv => ?_) (hr k _ hh (by unfold zmd; rw [List.getElem?_map, List.getElem?_range hk]; rfl) hI)
  rcases hv with ⟨e, h1⟩ | ⟨e, h1⟩
  ·obtain ⟨c1, c2, c3⟩ := hD (k + 1) h' h1
   simp -dsimp only [e, V.zp1, Bool.not_true, B.cond_false, B.zh0, c2, en, B.zf]
   exact hY (t - 1) _ _ (by omega) ⟨k + 1, by omega, rfl, h1⟩
  ·simp -dsimp only [e, V.zp1, Bool.not_false, B.cond_true, B.zf]
   exact zj (hZ h' h1)
 ·rw [decide_eq_false_iff_not] at hb
  have : ¬ k < zi7 b := fun h => hb (ztu.1 h)
  have : k = zi7 b := by omega
  exact zj (hend hh (by rw [pl, ← this]; exact hI))
end Go.Ab
