/- What is proved: a part of the way to the statement; each part is headed by what it proves. No conditions. -/
import Derived.Test.YtnlgkpcffblojaaQ8
import Derived.Test.YtnlgkpcffblojaaQ3
import Derived.Test.YtnlgkpcffblojaaQ6

/- What is proved: contracts of getting answers out of bytes, the program's and the document's. No conditions. -/
set_option linter.unusedVariables false
set_option linter.unusedSimpArgs false
namespace Go.Ab
variable {C : CSem} {N : Nat → Nat}

def rList {T : Type} (one : Rdr → T × Rdr) : Nat → Rdr → List T × Rdr
  | 0, r => ([], r)
  | n + 1, r => if r.bad then ([], r) else ((one r).1 :: (rList one n (one r).2).1, (rList one n (one r).2).2)
structure ReadsAt (h0 : AHeap) (x : AVal) (b : List UInt8) : Prop where
  is : ∃ R, SlX h0 1 x (b.map bc) R
  lt : b.length < 4611686018427387904
theorem ReadsAt.mono {h0 h : AHeap} {x : AVal} {b : List UInt8} (hr : ReadsAt h0 x b) (hle : h0.le h) : ReadsAt h x b := by
  obtain ⟨⟨R, a⟩, c⟩ := hr; exact ⟨⟨R, a.mono hle⟩, c⟩

def tellZero : TellP := ⟨0, 0, 0, [], 0, [], []⟩
theorem Owns.boxStn {h0 h : AHeap} {l : List Ob} (ho : Owns h0 h l) (k : Nat) {id n : Nat} {cs xs : List AVal} {K : AHeap → Prop} (hk : l[k]? = some (.box (.ptr id 0 0) cs)) (hn : xs.length = n) (hc : cs.length = n)
    (hK : ∀ h', Owns h0 h' (l.set k (.box (.ptr id 0 0) xs)) → But (.ptr id 0 0) h h' → K h') : A.stn h (.ptr id 0 0) n (.agg xs) K := by
  obtain ⟨id', e, hb⟩ := ho.boxAt k hk
  cases e
  rw [stn_at hb hn (by omega)]
  have e1 : cs.take 0 ++ xs ++ cs.drop (0 + n) = xs := by simp [← hc]
  rw [e1]
  have hbut : But (.ptr id 0 0) h (upd h id (blkOf xs)) := fun j b e1 e2 => by rw [upd_other]; exact e1; intro e; subst e; exact e2 rfl
  exact hK _ (ho.turn k hk ⟨id, rfl, upd_same ..⟩ (fun j b hj hb' => by cases hj; rw [upd_same] at hb'; cases hb'; rfl) hbut (.inl rfl)) hbut

def tellEnd (t : TellP) (r : Rdr) : TellP × Nat × Int := if r.bad || !tellRight t then (tellZero, 0, 4) else (t, r.at_, 0)
/-- What getting answers. -/
@[simp] def TellP.val (g : TellP × Nat × Int) (x y : AVal) : AVal := .tup [.agg (g.1.cs x y), .int .i64 (g.2.1 : Int), .int .i64 g.2.2]

theorem tell_Get.fin (s : tell_Right.Spec C N) {h hh : AHeap} {i2 : Nat} {p x : AVal} {cs2 : List AVal} {t : TellP} {r : Rdr} {lx ly : AVal} {Q : AVal → AHeap → Prop} (ho : Owns h hh [.box (.ptr i2 0 0) cs2, .box p [x, .int .i64 (r.at_ : Int), .bool r.bad], .sl 6 lx (t.Lots.map Lot.cs) [], .sl 3 ly (t.Uses.map Use.cs) []])
    (hc : cs2.length = 7) (hl1 : t.Lots.length ≤ 65535) (hl2 : t.Uses.length ≤ 65535)
    (hq : ∀ x' y' h', Owns h h' [.sl 6 x' ((tellEnd t r).1.Lots.map Lot.cs) [], .sl 3 y' ((tellEnd t r).1.Uses.map Use.cs) []] → Q (TellP.val (tellEnd t r) x' y') h') : tell_Get.k1 C N (dn Q) (.ptr i2 0 0) p (.agg (t.cs lx ly)) hh := by
  obtain ⟨id, rfl, hbx⟩ := ho.boxAt 1 rfl
  simp +contextual -dsimp [ldv_at hbx]
  refine B.gdb_call (fun _ _ hq => s t lx ly _ _ ⟨⟨_, ho.slAt 2 rfl⟩, ⟨_, ho.slAt 3 rfl⟩⟩ (by omega) (by omega) hq) ?_
  simp +contextual -dsimp
  refine B.cond_bool (fun h1 => ?_) (fun h1 => ?_)
  · have e : tellEnd t r = (tellZero, 0, 4) := by unfold tellEnd; rw [if_pos]; simpa using h1
    rw [e] at hq
    try simp +contextual -dsimp
    refine ho.boxStn 0 rfl rfl hc fun h2 ho2 _ => ?_
    obtain ⟨id', e', hb2⟩ := ho2.boxAt 0 rfl
    cases e'
    simp -dsimp [ldnv_at hb2]
    refine dn_same (hq .nils .nils h2 ?_)
    exact ((Owns.nil ho2.le).nils 6).nils 3
  · have e : tellEnd t r = (t, r.at_, 0) := by unfold tellEnd; rw [if_neg]; simpa using h1
    rw [e] at hq
    try simp +contextual -dsimp
    simp -dsimp [ldv_at hbx]
    refine ho.boxStn 0 rfl rfl hc fun h2 ho2 _ => ?_
    obtain ⟨id', e', hb2⟩ := ho2.boxAt 0 rfl
    cases e'
    obtain ⟨id', e', hb3⟩ := ho2.boxAt 1 rfl
    cases e'
    refine ⟨fun q hq => ?_, ?_⟩
    · rw [List.mem_singleton.1 hq]
      exact ⟨.int .i64 (r.at_ : Int), by rw [ldv_at hbx]; rfl, by rw [ldv_at hb3]; rfl⟩
    · simp -dsimp [ldnv_at hb2]
      exact dn_same (hq lx ly h2 (ho2.sub (by simp)))

theorem ref14_Get.fin (s : ref14_Right.Spec C N) {h hh : AHeap} {i2 : Nat} {p x : AVal} {cs2 : List AVal} {t : TellP} {r : Rdr} {lx ly : AVal} {Q : AVal → AHeap → Prop} (ho : Owns h hh [.box (.ptr i2 0 0) cs2, .box p [x, .int .i64 (r.at_ : Int), .bool r.bad], .sl 6 lx (t.Lots.map Lot.cs) [], .sl 3 ly (t.Uses.map Use.cs) []])
    (hc : cs2.length = 7) (hl1 : t.Lots.length ≤ 65535) (hl2 : t.Uses.length ≤ 65535)
    (hq : ∀ x' y' h', Owns h h' [.sl 6 x' ((tellEnd t r).1.Lots.map Lot.cs) [], .sl 3 y' ((tellEnd t r).1.Uses.map Use.cs) []] → Q (TellP.val (tellEnd t r) x' y') h') : ref14_Get.k1 C N (dn Q) (.ptr i2 0 0) p (.agg (t.cs lx ly)) hh := by
  obtain ⟨id, rfl, hbx⟩ := ho.boxAt 1 rfl
  simp +contextual -dsimp [ldv_at hbx]
  refine B.gdb_call (fun _ _ hq => s t lx ly _ _ ⟨⟨_, ho.slAt 2 rfl⟩, ⟨_, ho.slAt 3 rfl⟩⟩ (by omega) (by omega) hq) ?_
  simp +contextual -dsimp
  refine B.cond_bool (fun h1 => ?_) (fun h1 => ?_)
  · have e : tellEnd t r = (tellZero, 0, 4) := by unfold tellEnd; rw [if_pos]; simpa using h1
    rw [e] at hq
    try simp +contextual -dsimp
    refine ho.boxStn 0 rfl rfl hc fun h2 ho2 _ => ?_
    obtain ⟨id', e', hb2⟩ := ho2.boxAt 0 rfl
    cases e'
    simp -dsimp [ldnv_at hb2]
    refine dn_same (hq .nils .nils h2 ?_)
    exact ((Owns.nil ho2.le).nils 6).nils 3
  · have e : tellEnd t r = (t, r.at_, 0) := by unfold tellEnd; rw [if_neg]; simpa using h1
    rw [e] at hq
    try simp +contextual -dsimp
    simp -dsimp [ldv_at hbx]
    refine ho.boxStn 0 rfl rfl hc fun h2 ho2 _ => ?_
    obtain ⟨id', e', hb2⟩ := ho2.boxAt 0 rfl
    cases e'
    obtain ⟨id', e', hb3⟩ := ho2.boxAt 1 rfl
    cases e'
    refine ⟨fun q hq => ?_, ?_⟩
    · rw [List.mem_singleton.1 hq]
      exact ⟨.int .i64 (r.at_ : Int), by rw [ldv_at hbx]; rfl, by rw [ldv_at hb3]; rfl⟩
    · simp -dsimp [ldnv_at hb2]
      exact dn_same (hq lx ly h2 (ho2.sub (by simp)))

/-- The loop over uses. -/
theorem ref14_Get.uses (s1 : ref13_Reader_Number.Spec C N) {b : List UInt8} {x lx : AVal} {i2 : Nat} {p : AVal} {bs hh : AHeap} {Q : AVal → AHeap → Prop} {e i d : Int} {c : List UInt8} {s : UInt8} {z : Nat} {r1 : Rdr} (hx : ReadsAt bs x b) (hcx : lx.isCell = true) (hz : z ≤ 65535) (hr1 : r1.at_ ≤ b.length)
    (ho : Owns bs hh [.box p [x, .int .i64 (r1.at_ : Int), .bool r1.bad]])
    (hk : ∀ o h', Owns bs h' [.sl 3 o ((rList (rUse b) z r1).1.map Use.cs) [], .box p [x, .int .i64 ((rList (rUse b) z r1).2.at_ : Int), .bool (rList (rUse b) z r1).2.bad]] → ref14_Get.k1 C N Q (.ptr i2 0 0) p (.agg [.int .i64 e, .int .i64 i, .int .i64 d, .str c, .int .u8 (s.toNat : Int), lx, o]) h') :
    LoopR (ref14_Get.l3 C N Q (.ptr i2 0 0) p) [.int .i64 (z : Int), .agg [.int .i64 e, .int .i64 i, .int .i64 d, .str c, .int .u8 (s.toNat : Int), lx, .nils]] hh := by
  obtain ⟨⟨R, hxx⟩, hb⟩ := hx
  refine LoopR.intro (fun t vs hh => ∃ (o : AVal) (acc : List Use) (r : Rdr), vs = [.int .i64 (t : Int), .agg [.int .i64 e, .int .i64 i, .int .i64 d, .str c, .int .u8 (s.toNat : Int), lx, o]] ∧ t ≤ 65535 ∧ acc.length + t ≤ 65535 ∧ r.at_ ≤ b.length ∧ acc ++ (rList (rUse b) t r).1 = (rList (rUse b) z r1).1 ∧ (rList (rUse b) t r).2 = (rList (rUse b) z r1).2 ∧
      Owns bs hh [.sl 3 o (acc.map Use.cs) [], .box p [x, .int .i64 (r.at_ : Int), .bool r.bad]]) z ?_ ⟨.nils, [], r1, rfl, by omega, by simp; omega, hr1, rfl, rfl, (ho.nils 3).perm (List.Perm.swap ..)⟩
  rintro Y t vs hh ⟨o, acc, r, rfl, ht, hal, hr, e1, e2, ho⟩ hY
  obtain ⟨id, rfl, hbx⟩ := ho.boxAt 1 rfl
  simp +contextual -dsimp [ldv_at hbx]
  refine B.cond_bool (fun h2 => ?_) (fun h2 => ?_) <;> simp at h2
  · obtain ⟨t, rfl⟩ : ∃ u, t = u + 1 := ⟨t - 1, by omega⟩
    simp only [rList, h2.2, Bool.false_eq_true, if_false] at e1 e2
    obtain ⟨q1, q2⟩ := ho.out (l1 := [_]) (l2 := [_])
    have hx1 := hxx.mono q1.le
    try simp +contextual -dsimp
    refine s1 _ hh _ x b R r 8 _ hx1 hb hr (by omega) q2 fun h3 ho3 => ?_
    have l3 := rNum_le (k := 8) hr
    try simp +contextual -dsimp
    refine s1 _ _ _ x b R _ 8 _ hx1 hb l3 (by omega) ho3 fun h4 ho4 => ?_
    have l4 := rNum_le (k := 8) l3
    try simp +contextual -dsimp
    refine s1 _ _ _ x b R _ 8 _ hx1 hb l4 (by omega) ho4 fun h5 ho5 => ?_
    have ho6 := q1.join ho5
    try simp +contextual -dsimp
    refine ho6.push 0 rfl rfl (by omega) (by simp; omega) (by simp [maxLen]; omega) fun o' h7 ho7 _ => ?_
    have e4 : IntKind.i64.wrap (((t + 1 : Nat) : Int) - 1) = (t : Int) := by rw [wrap_i64 (by omega) (by omega)]; omega
    have hco := (ho7.slAt 0 rfl).isCell
    simp -dsimp only [B.al_agg, V.setF_agg, V.put1_cell, hco, cond_true, List.length_set, List.length_cons, List.length_nil, List.set, optAgg_some, B.pv_some, if_true, show 6 < 0 + 1 + 1 + 1 + 1 + 1 + 1 + 1 by omega, V.bin_sub, e4]
    refine hY t _ _ (by omega) ⟨o', acc ++ [(rUse b r).1], (rUse b r).2, rfl, by omega, by simp; omega, rUse_le hr, ?_, e2, ?_⟩
    · rw [← e1, List.append_assoc]; rfl
    · rw [List.map_append]; exact ho7
  · have : (rList (rUse b) t r) = ([], r) := by
      cases t with
      | zero => rfl
      | succ t => simp [rList, h2 (by omega)]
    rw [this, List.append_nil] at e1
    rw [this] at e2
    subst e1
    rw [← e2] at hk
    exact hk _ _ ho
theorem ref14_Get.lots (s1 : ref13_Reader_Number.Spec C N) (s2 : ref14_lot.Spec C N) {b : List UInt8} {x : AVal} {i2 : Nat} {p : AVal} {bs hh : AHeap} {Q : AVal → AHeap → Prop} {e i d : Int} {c : List UInt8} {s : UInt8} {z : Nat} {r1 : Rdr} (hx : ReadsAt bs x b) (hz : z ≤ 65535) (hr1 : r1.at_ ≤ b.length)
    (ho : Owns bs hh [.box p [x, .int .i64 (r1.at_ : Int), .bool r1.bad]])
    (hk : ∀ o h', Owns bs h' [.sl 6 o ((rList (rLot b) z r1).1.map Lot.cs) [], .box p [x, .int .i64 ((rList (rLot b) z r1).2.at_ : Int), .bool (rList (rLot b) z r1).2.bad]] →
      C (N 71) [p, .int .i64 2] h' fun v54 h => LoopR (ref14_Get.l3 C N Q (.ptr i2 0 0) p) [v54, .agg [.int .i64 e, .int .i64 i, .int .i64 d, .str c, .int .u8 (s.toNat : Int), o, .nils]] h) :
    LoopR (ref14_Get.l5 C N Q (.ptr i2 0 0) p) [.int .i64 (z : Int), .agg [.int .i64 e, .int .i64 i, .int .i64 d, .str c, .int .u8 (s.toNat : Int), .nils, .nils]] hh := by
  obtain ⟨⟨R, hxx⟩, hb⟩ := hx
  refine LoopR.intro (fun t vs hh => ∃ (o : AVal) (acc : List Lot) (r : Rdr), vs = [.int .i64 (t : Int), .agg [.int .i64 e, .int .i64 i, .int .i64 d, .str c, .int .u8 (s.toNat : Int), o, .nils]] ∧ t ≤ 65535 ∧ acc.length + t ≤ 65535 ∧ r.at_ ≤ b.length ∧ acc ++ (rList (rLot b) t r).1 = (rList (rLot b) z r1).1 ∧ (rList (rLot b) t r).2 = (rList (rLot b) z r1).2 ∧
      Owns bs hh [.sl 6 o (acc.map Lot.cs) [], .box p [x, .int .i64 (r.at_ : Int), .bool r.bad]]) z ?_ ⟨.nils, [], r1, rfl, by omega, by simp; omega, hr1, rfl, rfl, (ho.nils 6).perm (List.Perm.swap ..)⟩
  rintro Y t vs hh ⟨o, acc, r, rfl, ht, hal, hr, e1, e2, ho⟩ hY
  obtain ⟨id, rfl, hbx⟩ := ho.boxAt 1 rfl
  simp +contextual -dsimp [ldv_at hbx]
  refine B.cond_bool (fun h2 => ?_) (fun h2 => ?_) <;> simp at h2
  · obtain ⟨t, rfl⟩ : ∃ u, t = u + 1 := ⟨t - 1, by omega⟩
    simp only [rList, h2.2, Bool.false_eq_true, if_false] at e1 e2
    obtain ⟨q1, q2⟩ := ho.out (l1 := [_]) (l2 := [_])
    have hx1 := hxx.mono q1.le
    try simp +contextual -dsimp
    refine s2 _ hh _ x b R r _ hx1 hb hr q2 fun h5 ho5 => ?_
    have ho6 := q1.join ho5
    try simp +contextual -dsimp
    refine ho6.push 0 rfl rfl (by omega) (by simp; omega) (by simp [maxLen]; omega) fun o' h7 ho7 _ => ?_
    have e4 : IntKind.i64.wrap (((t + 1 : Nat) : Int) - 1) = (t : Int) := by rw [wrap_i64 (by omega) (by omega)]; omega
    have hco := (ho7.slAt 0 rfl).isCell
    simp -dsimp only [B.al_agg, V.setF_agg, V.put1_cell, hco, cond_true, List.length_set, List.length_cons, List.length_nil, List.set, optAgg_some, B.pv_some, if_true, show 5 < 0 + 1 + 1 + 1 + 1 + 1 + 1 + 1 by omega, V.bin_sub, e4]
    refine hY t _ _ (by omega) ⟨o', acc ++ [(rLot b r).1], (rLot b r).2, rfl, by omega, by simp; omega, rLot_le hr, ?_, e2, ?_⟩
    · rw [← e1, List.append_assoc]; rfl
    · rw [List.map_append]; exact ho7
  · have : (rList (rLot b) t r) = ([], r) := by
      cases t with
      | zero => rfl
      | succ t => simp [rList, h2 (by omega)]
    rw [this, List.append_nil] at e1
    rw [this] at e2
    subst e1
    rw [← e2] at hk
    exact hk _ _ ho
end Go.Ab

/- What is told: residuals: what each function does in the abstract memory, printed by a program of mine. Definitions alone. -/
set_option linter.unusedVariables false
namespace Go.Ab
end Go.Ab

/- What is proved: contracts of the statements about answers. No conditions. -/
set_option linter.unusedVariables false
set_option linter.unusedSimpArgs false
set_option maxRecDepth 100000
namespace Go.Ab
variable {C : CSem} {N : Nat → Nat}

end Go.Ab

/- What is proved: contracts of the fourth chapter's statements' functions: lists. No conditions. -/
set_option linter.unusedVariables false
set_option linter.unusedSimpArgs false
namespace Go.Ab
variable {C : CSem} {N : Nat → Nat}
end Go.Ab

/- What is proved: contract of the fourth chapter's closed statement. No conditions. -/
set_option linter.unusedVariables false
set_option linter.unusedSimpArgs false
namespace Go.Ab
variable {C : CSem} {N : Nat → Nat}
theorem litP {h : AHeap} {es n : Nat} {cs : List AVal} (L : List (List AVal)) {K : Nat → AHeap → Prop} (hc : cs = L.flatten) (hL : ∀ p ∈ L, p.length = es) (hn : n = L.length) (hK : ∀ i h', Owns h h' [.sl es (.sl i 0 0 n es n) L []] → K i h') : B.newO h (some cs) K :=
  fun i hi => hK i _ ((Owns.start h).newSl hi (by simpa using hL) hn (by simp; omega) (by simpa using hc))
def idsL : List Int := [-9223372036854775808, -1, 0, 1, 2, 9223372036854775807]
def daysL : List Int := [-9223372036854775808, -1, 0, 1, 3999, 4000, 4001, 4002, 9223372036854775807]
def qtysL : List Int := [-1, 0, 1, 1073741824, 1073741825, 9223372036854775807]
def itemsL : List (List UInt8) := [[], [65], [97], [65, 66, 67, 68, 69, 70, 71, 72, 73, 74, 75, 76, 77]]
structure Lits (h : AHeap) (vi vd vq vt : AVal) : Prop where
  i : SlX h 1 vi (idsL.map ic) []
  d : SlX h 1 vd (daysL.map ic) []
  q : SlX h 1 vq (qtysL.map ic) []
  t : SlX h 1 vt (itemsL.map tc) []
theorem Lits.mono {h H : AHeap} {vi vd vq vt : AVal} (l : Lits h vi vd vq vt) (hle : h.le H) : Lits H vi vd vq vt := ⟨l.i.mono hle, l.d.mono hle, l.q.mono hle, l.t.mono hle⟩
section
variable {h : AHeap} {v : AVal} {R : List (List AVal)} {j : Nat}
theorem ldI {L : List Int} (hx : SlX h 1 v (L.map ic) R) (hj : j < L.length) : A.ldv h (elp 1 v j 0) = some (.int .i64 (L.getD j 0)) :=
  hx.cell (by rw [List.getElem?_map, List.getElem?_eq_getElem hj]; simp [List.getD, hj, ic, Scal.cs, iS])
theorem ixI {L : List Int} (hx : SlX h 1 v (L.map ic) R) (hj : j < L.length) : V.idxS 1 v (.int .i64 (j : Int)) = some (elp 1 v j 0) := hx.idxN (by simpa using hj)
theorem ldT {L : List (List UInt8)} (hx : SlX h 1 v (L.map tc) R) (hj : j < L.length) : A.ldv h (elp 1 v j 0) = some (.str (L.getD j [])) :=
  hx.cell (by rw [List.getElem?_map, List.getElem?_eq_getElem hj]; simp [List.getD, hj, tc, Scal.cs, tS])
theorem ixT {L : List (List UInt8)} (hx : SlX h 1 v (L.map tc) R) (hj : j < L.length) : V.idxS 1 v (.int .i64 (j : Int)) = some (elp 1 v j 0) := hx.idxN (by simpa using hj)
end
theorem itemsL_len (j : Nat) : (itemsL.getD j []).length ≤ 13 := by
  rcases j with _ | _ | _ | _ | j <;> simp [itemsL]
section
variable {h0 h : AHeap} {vi vd vq vt : AVal} {Q : AVal → AHeap → Prop} {Y5 : List AVal → AHeap → Prop}
end
end Go.Ab

/- What is proved: contract of the ninth chapter's closed statement. No conditions. -/
set_option linter.unusedVariables false
set_option linter.unusedSimpArgs false
namespace Go.Ab
variable {C : CSem} {N : Nat → Nat}
def intsN : List Int := [-9223372036854775808, -2, -1, 0, 1, 2, 98, 99, 100, 3999, 4000, 4001, 9223372036854775807]
def qtysN : List Int := [-1, 0, 1, 1073741824, 1073741825]
structure LitN (h : AHeap) (vi vq vt : AVal) : Prop where
  i : SlX h 1 vi (intsN.map ic) []
  q : SlX h 1 vq (qtysN.map ic) []
  t : SlX h 1 vt (itemsL.map tc) []
theorem LitN.mono {h H : AHeap} {vi vq vt : AVal} (l : LitN h vi vq vt) (hle : h.le H) : LitN H vi vq vt := ⟨l.i.mono hle, l.q.mono hle, l.t.mono hle⟩
structure AllN (h0 hh : AHeap) (y : AVal) (M : List Line) (n : Nat) : Prop where
  own : Owns h0 hh [.sl 8 y (M.map Line.cs) []]
  len : M.length = n
  item : ∀ l ∈ M, l.Item.length ≤ 13 ∧ l.Code.length ≤ 13
theorem rem13 {a : Nat} : V.bin .rem (.int .i64 (a : Int)) (.int .i64 13) = some (.int .i64 ((a % 13 : Nat) : Int)) := by
  rw [V.bin_rem _ _ _ (by omega)]; congr 2
theorem rem5 {a : Nat} : V.bin .rem (.int .i64 (a : Int)) (.int .i64 5) = some (.int .i64 ((a % 5 : Nat) : Int)) := by
  rw [V.bin_rem _ _ _ (by omega)]; congr 2
theorem toU8 {a : Nat} : V.toInt .u8 (.int .i64 (a : Int)) = some (.int .u8 (((UInt8.ofNat a).toNat : Nat) : Int)) := by
  rw [V.toInt_int, u8_wrapN]
theorem setLine (l : Line) : V.setN 0 8 (.agg l.cs) (.agg [.int .i64 0, .str [], .int .i64 0, .int .i64 0, .int .i64 0, .int .u8 0, .int .i64 0, .str []]) = some (.agg l.cs) := by simp
theorem bldX (s : UInt8) (d : Int) (c : List UInt8) : A.bld [(0, none, (.int .i64 1)), (1, none, (.str [65])), (2, none, (.int .i64 1)), (5, none, .int .u8 ((s.toNat : Nat) : Int)), (6, none, .int .i64 d), (7, none, .str c)] [.int .i64 0, .str [], .int .i64 0, .int .i64 0, .int .i64 0, .int .u8 0, .int .i64 0, .str []] = some (.agg (Line.cs ⟨1, [65], 1, 0, 0, s, d, c⟩)) := by simp [A.bld]
theorem bldZ (s : List UInt8) (q a : Int) : A.bld [(0, none, (.int .i64 2)), (1, none, .str s), (2, none, .int .i64 q), (3, none, .int .i64 a), (4, none, (.int .i64 99)), (5, none, (.int .u8 1)), (6, none, (.int .i64 (-1)))] [.int .i64 0, .str [], .int .i64 0, .int .i64 0, .int .i64 0, .int .u8 0, .int .i64 0, .str []] = some (.agg (Line.cs ⟨2, s, q, a, 99, 1, -1, []⟩)) := by simp [A.bld]
theorem bldV (q r : Int) : A.bld [(0, none, (.int .i64 2)), (1, none, (.str [65])), (2, none, .int .i64 q), (4, none, .int .i64 r), (5, none, (.int .u8 1)), (6, none, (.int .i64 (-1)))] [.int .i64 0, .str [], .int .i64 0, .int .i64 0, .int .i64 0, .int .u8 0, .int .i64 0, .str []] = some (.agg (Line.cs ⟨2, [65], q, 0, r, 1, -1, []⟩)) := by simp [A.bld]
theorem fillLine1 (a : Line) : fillL [(0, some 8, .agg a.cs)] (repL 1 [.int .i64 0, .str [], .int .i64 0, .int .i64 0, .int .i64 0, .int .u8 0, .int .i64 0, .str []]) = some a.cs := by simp [repL]
section
variable {h0 h : AHeap} {vi vq vt : AVal} {Q : AVal → AHeap → Prop} {Y2 Y3 : List AVal → AHeap → Prop}
theorem rankIn (s1 : law09_line.Spec C N) (s2 : law09_RankRights.Spec C N) (ls : LitN h0 vi vq vt) {y : AVal} {M : List Line} {i j n : Nat} (hi : i < 13) (hj : j < 5) (hn : n ≤ 1000) (al : AllN h0 h y M n) (hY : ∀ y' h' M', AllN h0 h' y' M' (n + 4) → Y3 [y', .int .i64 ((j + 1 : Nat) : Int)] h') :
    LoopR (law09_RankNumbers.l5 C N Q Y2 Y3 vi vq vt (.int .i64 (i : Int)) (.int .i64 (j : Int))) [y, .int .i64 0] h := by
  refine LoopR.intro (fun t vs hh => ∃ (k : Nat) (y : AVal) (M : List Line), k + t = 4 ∧ vs = [y, .int .i64 (k : Int)] ∧ AllN h0 hh y M (n + k)) 4 ?_ ⟨0, y, M, by omega, rfl, al⟩
  rintro Y t vs hh ⟨k, y, M, ht, rfl, al⟩ hY6
  have l2 := ls.mono al.own.le
  simp -dsimp only [law09_RankNumbers.l5, law09_RankNumbers.k4, V.bin_lss, B.pv_some]
  refine B.cond_bool (fun hb => ?_) (fun hb => ?_) <;> simp only [decide_eq_true_eq, decide_eq_false_iff_not] at hb
  · have hk : k < 4 := by omega
    have m1 : i < intsN.length := hi
    have m2 : k < itemsL.length := hk
    have m3 : (i + k) % 13 < intsN.length := Nat.mod_lt _ (by decide)
    have m4 : i % 5 < qtysN.length := Nat.mod_lt _ (by decide)
    have hit := itemsL_len k
    have hln := al.len
    simp -dsimp only [toU8, ixI l2.i m1, ldI l2.i m1, ixT l2.t m2, ldT l2.t m2, bldX, setLine, add64 (a := i) (b := k) (by omega), rem13, ixI l2.i m3, ldI l2.i m3, B.ld_eq, B.pv_some]
    refine s1 _ _ _ _ _ ?_
    simp -dsimp only [setLine, ixT l2.t m2, ldT l2.t m2, rem5, ixI l2.q m4, ldI l2.q m4, ixI l2.i m1, ldI l2.i m1, bldZ, fieldLine, fillLine1, B.ld_eq, B.pv_some]
    generalize hx1 : (⟨1, [65], 1, 0, 0, UInt8.ofNat j, intsN.getD i 0, itemsL.getD k []⟩ : Line) = lx
    generalize hz1 : (⟨2, itemsL.getD k [], qtysN.getD (i % 5) 0, intsN.getD i 0, 99, 1, -1, []⟩ : Line) = lz
    generalize hy1 : lineOf (intsN.getD i 0) (intsN.getD ((i + k) % 13) 0) (UInt8.ofNat j) = ly
    refine litP (es := 8) (n := 1) ([ly].map Line.cs) (by simp) (by simp) rfl fun i1 h1 o1 => ?_
    refine (al.own.grow o1.le).appW 0 rfl (o1.slAt 0 rfl) (by omega) (by simp; omega) (by simp [maxLen]; omega) fun y' h2 o2 _ => ?_
    have l3 := ls.mono o2.le
    simp -dsimp only [fieldLine, B.pv_some]
    refine s2 lx ly _ _ ?_
    simp -dsimp only [V.un_not, Bool.not_true, B.pv_some, B.gd_f, Bool.not_false, B.gdb_true, gv_true, fieldLine]
    refine s2 ly lz _ _ ?_
    simp -dsimp only [V.un_not, Bool.not_true, B.pv_some, B.gd_f, Bool.not_false, B.gdb_true, gv_true, fieldLine, B.pick_f]
    refine s2 lz lx _ _ ?_
    simp -dsimp only [V.un_not, Bool.not_true, B.pv_some, B.gd_f, Bool.not_false, B.gdb_true, gv_true, fieldLine, B.pick_f, rem5, ixI l3.q m4, ldI l3.q m4, ixI l3.i m1, ldI l3.i m1, B.ld_eq, bldV]
    refine s2 _ lz _ _ ?_
    simp -dsimp only [V.un_not, Bool.not_true, B.pv_some, B.gd_f, Bool.not_false, B.gdb_true, gv_true, B.pick_f, B.cond_false, add1 (a := k) (by omega)]
    refine hY6 (4 - (k + 1)) _ _ (by omega) ⟨k + 1, y', M ++ [ly], by omega, rfl, ?_, by simp; omega, ?_⟩
    · rw [List.map_append]; exact o2
    · intro l hl
      simp only [List.mem_append, List.mem_cons, List.not_mem_nil, or_false] at hl
      rcases hl with hl | rfl
      · exact al.item l hl
      · rw [← hy1]; simp [lineOf]
  · have hk : k = 4 := by omega
    subst hk
    simp -dsimp only [add1 (a := j) (by omega), B.pv_some]
    exact hY y hh M al
theorem rankMid (s1 : law09_line.Spec C N) (s2 : law09_RankRights.Spec C N) (ls : LitN h0 vi vq vt) {y : AVal} {M : List Line} {i : Nat} (hi : i < 13) (al : AllN h0 h y M (20 * i)) (hY : ∀ y' h' M', AllN h0 h' y' M' (20 * (i + 1)) → Y2 [y', .int .i64 ((i + 1 : Nat) : Int)] h') :
    LoopR (law09_RankNumbers.l7 C N Q Y2 vi vq vt (.int .i64 (i : Int))) [y, .int .i64 0] h := by
  refine LoopR.intro (fun t vs hh => ∃ (j : Nat) (y : AVal) (M : List Line), j + t = 5 ∧ vs = [y, .int .i64 (j : Int)] ∧ AllN h0 hh y M (20 * i + 4 * j)) 5 ?_ ⟨0, y, M, by omega, rfl, al⟩
  rintro Y t vs hh ⟨j, y, M, ht, rfl, al⟩ hY6
  simp -dsimp only [law09_RankNumbers.l7, law09_RankNumbers.k6, V.bin_lss, B.pv_some]
  refine B.cond_bool (fun hb => ?_) (fun hb => ?_) <;> simp only [decide_eq_true_eq, decide_eq_false_iff_not] at hb
  · exact rankIn s1 s2 ls hi (by omega) (by omega) al fun y' h' M' al' => hY6 (5 - (j + 1)) _ _ (by omega) ⟨j + 1, y', M', by omega, rfl, by rw [show 20 * i + 4 * (j + 1) = 20 * i + 4 * j + 4 by omega]; exact al'⟩
  · have hj : j = 5 := by omega
    subst hj
    simp -dsimp only [add1 (a := i) (by omega), B.pv_some]
    exact hY y hh M (by rw [show 20 * (i + 1) = 20 * i + 4 * 5 by omega]; exact al)
theorem rankOut (s1 : law09_line.Spec C N) (s2 : law09_RankRights.Spec C N) (ls : LitN h0 vi vq vt) (hQ : ∀ y' h' M', AllN h0 h' y' M' 260 → LoopR (law09_RankNumbers.l3 C N Q vi y') [.int .i64 0] h') (hle : h0.le h) :
    LoopR (law09_RankNumbers.l9 C N Q vi vq vt) [.nils, .int .i64 0] h := by
  refine LoopR.intro (fun t vs hh => ∃ (i : Nat) (y : AVal) (M : List Line), i + t = 13 ∧ vs = [y, .int .i64 (i : Int)] ∧ AllN h0 hh y M (20 * i)) 13 ?_ ⟨0, .nils, [], by omega, rfl, ⟨(Owns.nil hle).nils 8, rfl, by simp⟩⟩
  rintro Y t vs hh ⟨i, y, M, ht, rfl, al⟩ hY
  have e1 := (ls.mono al.own.le).i.lenSl
  have e0 : (intsN.map ic).length = 13 := rfl
  rw [e0] at e1
  simp -dsimp only [law09_RankNumbers.l9, law09_RankNumbers.k8, e1, lssN, B.pv_some]
  refine B.cond_bool (fun hb => ?_) (fun hb => ?_) <;> simp only [decide_eq_true_eq, decide_eq_false_iff_not] at hb
  · exact rankMid s1 s2 ls hb al fun y' h' M' al' => hY (13 - (i + 1)) _ _ (by omega) ⟨i + 1, y', M', by omega, rfl, al'⟩
  · have hk : i = 13 := by omega
    subst hk
    exact hQ y hh M al
end
def law09_RankNumbers.Spec (C : CSem) (N : Nat → Nat) : Prop := ∀ (h : AHeap) (Q : AVal → AHeap → Prop), Q (.bool true) h → C (N 197) [] h Q
theorem law09_RankNumbers.spec (i : law09_RankNumbers.Imp C N) (s1 : law09_line.Spec C N) (s2 : law09_RankRights.Spec C N) (s3 : law09_RankLists.Spec C N) (s4 : law09_four.Spec C N) (s5 : law09_awake.Spec C N) : law09_RankNumbers.Spec C N := by
  intro h Q hq
  apply i
  simp -dsimp only [law09_RankNumbers.cps, law09_RankNumbers.k12, law09_RankNumbers.k11, law09_RankNumbers.k10]
  simp -dsimp [repL]
  refine litP (es := 1) (n := 13) (intsN.map ic) rfl (by simp [ic]) rfl fun i1 h1 o1 => ?_
  refine litP (es := 1) (n := 5) (qtysN.map ic) rfl (by simp [ic]) rfl fun i2 h2 o2 => ?_
  refine litP (es := 1) (n := 4) (itemsL.map tc) rfl (by simp [tc]) rfl fun i4 h4 o4 => ?_
  have ls : LitN h4 _ _ _ := ⟨((o1.slAt 0 rfl).mono o2.le).mono o4.le, (o2.slAt 0 rfl).mono o4.le, o4.slAt 0 rfl⟩
  refine rankOut s1 s2 ls (fun y h5 M al => ?_) (AHeap.le_refl h4)
  have hle5 : h.le h5 := AHeap.le_trans o1.le (AHeap.le_trans o2.le (AHeap.le_trans o4.le al.own.le))
  have l5 := ls.mono al.own.le
  have y5 := al.own.slAt 0 rfl
  have ln := al.len
  refine LoopR.intro (fun t vs hh => hh = h5 ∧ ∃ k : Nat, k + t = 13 ∧ vs = [.int .i64 (k : Int)]) 13 ?_ ⟨rfl, 0, rfl, rfl⟩
  rintro Y t vs h5 ⟨rfl, k, ht, rfl⟩ hY
  have e1 := l5.i.lenSl
  have e0 : (intsN.map ic).length = 13 := rfl
  rw [e0] at e1
  simp -dsimp only [law09_RankNumbers.l3, law09_RankNumbers.k2, e1, lssN, B.pv_some]
  refine B.cond_bool (fun hb => ?_) (fun hb => ?_) <;> simp only [decide_eq_true_eq, decide_eq_false_iff_not] at hb
  · have m4 : k < intsN.length := hb
    simp -dsimp only [ixI l5.i m4, ldI l5.i m4, B.ld_eq, B.pv_some]
    refine s3 _ _ _ _ _ _ y5 (by omega) (fun l hl => by have := al.item l hl; omega) ?_
    simp -dsimp only [V.un_not, Bool.not_true, B.cond_false, B.pv_some, add1 (a := k) (by omega)]
    exact hY (13 - (k + 1)) _ _ (by omega) ⟨rfl, k + 1, by omega, rfl⟩
  simp -dsimp only [law09_RankNumbers.k1]
  refine s4 _ _ fun x1 h6 o6 => ?_
  refine s4 _ _ fun x2 h7 o7 => ?_
  refine (o6.grow o7.le).appW 0 rfl (o7.slAt 0 rfl) (by omega) (by simp [fourL]) (by simp [maxLen, fourL]) fun x3 h8 o8 _ => ?_
  have y8 := o8.slAt 0 rfl
  rw [← List.map_append] at y8
  refine s3 x3 _ _ _ _ _ y8 (by decide) (by decide) ?_
  simp -dsimp only [B.gd_t, B.gdb_true]
  refine s5 _ _ ?_
  simp -dsimp only [B.pick_t]
  exact dn_le (AHeap.le_trans hle5 o8.le) hq
end Go.Ab

/- What is proved: lists of lines among the arguments, read in the abstract memory. No conditions. -/
set_option linter.unusedVariables false
namespace Go.Ab
theorem dLineL {H : AHeap} {p : List AVal} (h : AbsOk H tyLine p) : ∃ w : Line, p = w.cs ∧ w.Item.length < 4611686018427387904 ∧ w.Code.length < 4611686018427387904 := by
  obtain ⟨a, r, rfl, ⟨n1, rfl, _⟩, ⟨b, r2, rfl, ⟨n2, rfl, q1⟩, ⟨c, r3, rfl, ⟨n3, rfl, _⟩, ⟨d, r4, rfl, ⟨n4, rfl, _⟩, ⟨e, r5, rfl, ⟨n5, rfl, _⟩, ⟨f, r6, rfl, ⟨n6, rfl, k1, k2⟩, ⟨g, r7, rfl, ⟨n7, rfl, _⟩, ⟨i, r8, rfl, ⟨n8, rfl, q2⟩, hr⟩⟩⟩⟩⟩⟩⟩⟩ := h
  cases hr
  refine ⟨⟨n1, n2, n3, n4, n5, UInt8.ofNat n6.toNat, n7, n8⟩, ?_, by unfold reach at q1; show n2.length < _; omega, by unfold reach at q2; show n8.length < _; omega⟩
  rw [Line.cs, u8_of k1 k2]; rfl
theorem dLines {H : AHeap} {v : AVal} (h : AbsOk H (.sl 80 8 tyLine) [v]) : ∃ L : List Line, SlIs H 8 v (L.map Line.cs) ∧ L.length < 4611686018427387904 ∧ ∀ l ∈ L, l.Item.length < 4611686018427387904 ∧ l.Code.length < 4611686018427387904 := by
  obtain ⟨L, h1, h2, h3⟩ := arg_sliceP Line.cs (fun l => l.Item.length < 4611686018427387904 ∧ l.Code.length < 4611686018427387904) (fun p hp => dLineL hp) h
  exact ⟨L, h1, by unfold reach at h2; omega, h3⟩
end Go.Ab
