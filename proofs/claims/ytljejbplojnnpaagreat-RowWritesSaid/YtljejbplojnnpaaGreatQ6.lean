/- What is proved: a part of the way to the statement: AcJ. No conditions. -/
import Derived.Test.YtljejbplojnnpaaGreatQ3
import Derived.Test.YtljejbplojnnpaaGreatQ5
import Derived.KernelRfl
import Derived.Test.YtljejbplojnnpaaGreatQ2
import Derived.Lib.Bytealg
set_option linter.unusedVariables false
set_option linter.unusedSimpArgs false
namespace Go.Ab
theorem arg_slice {T : Type} {H : za} {bytes es : Nat} {e : Ty} {v : AVal} (cs : T → List AVal) (hd : ∀ p, zhc H e p → ∃ t, p = cs t) (h : zhc H (.sl bytes es e) [v]) :
  ∃ L : List T, SlIs H es v (L.map cs) ∧ L.length * bytes ≤ reach := by
 rcases h with h | h | ⟨id, parts, h1, h2, h3, h4⟩
 ·cases h; exact ⟨[], SlX.nils H es, by simp⟩
 ·cases h; exact ⟨[], SlX.sz H es, by simp⟩
 ·cases h1
  have : ∃ L : List T, parts = L.map cs := by
   clear h2 h3
   induction parts with
   | nil => exact ⟨[], rfl⟩
   | cons p r ih =>
    obtain ⟨L, rfl⟩ := ih fun q hq => h4 q (by simp [hq])
    obtain ⟨t, rfl⟩ := hd p (h4 p (by simp)).1
    exact ⟨t :: L, rfl⟩
  obtain ⟨L, rfl⟩ := this
  have hl : ∀ p ∈ L.map cs ++ [], p.length = es := fun p hp => (h4 p (by simpa using hp)).2
  have hfl : (L.map cs).flatten.length = L.length * es := by
   have := zkl (css := L.map cs) (n := es) fun p hp => (h4 p hp).2
   simpa using this
  refine ⟨L, ⟨hl, .inr ⟨id, 0, 0, (L.map cs).length, roOf (L.map cs).flatten, (L.map cs).flatten.length, rfl, by simp, h2, zhv .., ?_, Nat.le_refl _, ?_⟩⟩, by simpa using h3⟩
  ·rw [hfl]; simp
  ·simp only [roOf, List.drop_zero, List.append_nil, List.length_nil, Nat.add_zero, List.length_map]
   rw [← hfl, List.take_length]
variable {C : CSem} {N : Nat → Nat}
structure zf0 where
 es : Nat
 bytes : Nat
 z : List AVal
 f : Nat
 kp : Option Nat
 ld : za → AVal → (AVal → Prop) → Prop
 st : za → AVal → AVal → (za → Prop) → Prop
 eq : za → AVal → AVal → (AVal → za → Prop) → Prop
section
variable (E : zf0)
@[simp] def zcf.k3 (C : CSem) (Q : AVal → za → Prop) (Y1 Y2 : List AVal → za → Prop) (v0 v5 v14 v15 : AVal) (h : za) : Prop :=
 B.pv (V.idxS 1 v0 v14) fun v161 =>
  B.ld h v161 fun v162 =>
  B.pv (V.zi v162) fun v163 =>
  B.pv (V.bin .lss v15 v163) fun v164 =>
  B.cond v164
  (B.pv (V.idxS 1 v0 v14) fun v169 =>
  B.ld h v169 fun v170 =>
  B.pv (V.idxS E.es v170 v15) fun v172 =>
  E.ld h v172 fun v173 =>
  B.call C E.f [v14, v15] h (B.zlj h [(v169, none), (v172, E.kp)] (fun v176 h => E.eq h v173 v176 fun v177 h =>
  B.pv (V.un .not v177) fun v178 =>
  B.gd h v178 false (fun K => K v5 h) fun v180 h =>
  B.gd h v178 false (fun K => K v14 h) fun v181 h =>
  B.gd h v178 false (fun K => B.pv (V.idxS 1 v180 v181) fun v => K v h) fun v182 h =>
  B.gd h v178 false (fun K => B.ld h v182 fun v => K v h) fun v183 h =>
  B.gd h v178 false (fun K => K v15 h) fun v184 h =>
  B.gd h v178 false (fun K => B.pv (V.idxS E.es v183 v184) fun v => K v h) fun v185 h =>
  B.gd h v178 false (fun K => E.ld h v185 fun v => K v h) fun v186 h =>
  B.gd h v178 false (fun K => K v14 h) fun v187 h =>
  B.gd h v178 false (fun K => K v15 h) fun v188 h =>
  B.gd h v178 false (fun K => B.call C E.f [v187, v188] h (B.zlj h [(v182, none), (v185, E.kp)] K)) fun v189 h =>
  B.gd h v178 false (fun K => E.eq h v186 v189 K) fun v190 h =>
  B.gd h v178 false (fun K => B.pv (V.un .not v190) fun v => K v h) fun v191 h =>
  B.pick v178 (.bool true) v191 fun v192 =>
  B.cond v192
  (Q (.bool false) h)
  (B.pv (V.bin .add v15 (.int .i64 1)) fun v166 =>
  Y2 [v166] h))))
  (B.pv (V.bin .add v14 (.int .i64 1)) fun v157 =>
  Y1 [v157] h)
@[simp] def zcf.l5 (C : CSem) (Q : AVal → za → Prop) (Y1 : List AVal → za → Prop) (v0 v5 v14 : AVal) : List AVal → za → (List AVal → za → Prop) → Prop
 | [v15], h, Y2 => zcf.k3 E C Q Y1 Y2 v0 v5 v14 v15 h
 | _, _, _ => False
@[simp] def zcf.k12 (C : CSem) (Q : AVal → za → Prop) (Y1 : List AVal → za → Prop) (v0 v5 v14 : AVal) (h : za) : Prop :=
 B.pv (V.zi v0) fun v154 =>
  B.pv (V.bin .lss v14 v154) fun v155 =>
  B.cond v155
  (zg (zcf.l5 E C Q Y1 v0 v5 v14) [(.int .i64 0)] h)
  (Q (.bool true) h)
@[simp] def zcf.l15 (C : CSem) (Q : AVal → za → Prop) (v0 v5 : AVal) : List AVal → za → (List AVal → za → Prop) → Prop
 | [v14], h, Y1 => zcf.k12 E C Q Y1 v0 v5 v14 h
 | _, _, _ => False
@[simp] def zcf.k22 (C : CSem) (Q : AVal → za → Prop) (Y3 : List AVal → za → Prop) (v0 v5 v11 v12 : AVal) (h : za) : Prop :=
 B.pv (V.idxS 1 v0 v11) fun v147 =>
  B.ld h v147 fun v148 =>
  B.appW h E.es E.bytes v148 v12 fun v150 h =>
  B.pv (V.idxS 1 v5 v11) fun v151 =>
  B.st h v151 v150 fun h =>
  B.pv (V.bin .add v11 (.int .i64 1)) fun v128 =>
  Y3 [v128] h
@[simp] def zcf.k24 (C : CSem) (Q : AVal → za → Prop) (Y3 Y4 : List AVal → za → Prop) (v0 v5 v11 v12 v13 : AVal) (h : za) : Prop :=
 B.pv (V.bin .lss v13 (.int .i64 64)) fun v131 =>
  B.cond v131
  (B.pv (V.zi v0) fun v138 =>
  B.pv (V.bin .add v11 v138) fun v139 =>
  B.call C E.f [v139, v13] h fun v141 h =>
  B.pv (V.idxS E.es v12 v13) fun v142 =>
  E.st h v142 v141 fun h =>
  B.pv (V.bin .add v13 (.int .i64 1)) fun v133 =>
  Y4 [v133] h)
  (zcf.k22 E C Q Y3 v0 v5 v11 v12 h)
@[simp] def zcf.l26 (C : CSem) (Q : AVal → za → Prop) (Y3 : List AVal → za → Prop) (v0 v5 v11 v12 : AVal) : List AVal → za → (List AVal → za → Prop) → Prop
 | [v13], h, Y4 => zcf.k24 E C Q Y3 Y4 v0 v5 v11 v12 v13 h
 | _, _, _ => False
@[simp] def zcf.k37 (C : CSem) (Q : AVal → za → Prop) (Y3 : List AVal → za → Prop) (v0 v5 v11 : AVal) (h : za) : Prop :=
 B.pv (V.zi v0) fun v125 =>
  B.pv (V.bin .lss v11 v125) fun v126 =>
  B.cond v126
  (0 < E.es ∧ B.mks h E.bytes (some E.z) (.int .i64 64) (.int .i64 64) fun v129 h =>
  zg (zcf.l26 E C Q Y3 v0 v5 v11 v129) [(.int .i64 0)] h)
  (zg (zcf.l15 E C Q v0 v5) [(.int .i64 0)] h)
@[simp] def zcf.l40 (C : CSem) (Q : AVal → za → Prop) (v0 v5 : AVal) : List AVal → za → (List AVal → za → Prop) → Prop
 | [v11], h, Y3 => zcf.k37 E C Q Y3 v0 v5 v11 h
 | _, _, _ => False
@[simp] def zcf.k47 (C : CSem) (Q : AVal → za → Prop) (Y5 Y6 : List AVal → za → Prop) (v0 v5 v9 v10 : AVal) (h : za) : Prop :=
 B.pv (V.idxS 1 v5 v9) fun v82 =>
  B.ld h v82 fun v83 =>
  B.pv (V.zi v83) fun v84 =>
  B.pv (V.bin .lss v10 v84) fun v85 =>
  B.cond v85
  (B.pv (V.idxS 1 v5 v9) fun v90 =>
  B.ld h v90 fun v91 =>
  B.pv (V.idxS E.es v91 v10) fun v93 =>
  E.ld h v93 fun v94 =>
  B.call C E.f [v9, v10] h (B.zlj h [(v90, none), (v93, E.kp)] (fun v97 h => E.eq h v94 v97 fun v98 h =>
  B.pv (V.un .not v98) fun v99 =>
  B.gd h v99 false (fun K => K v10 h) fun v101 h =>
  B.gd h v99 false (fun K => K v0 h) fun v102 h =>
  B.gd h v99 false (fun K => K v9 h) fun v103 h =>
  B.gd h v99 false (fun K => B.pv (V.idxS 1 v102 v103) fun v => K v h) fun v104 h =>
  B.gd h v99 false (fun K => B.ld h v104 fun v => K v h) fun v105 h =>
  B.gd h v99 false (fun K => B.pv (V.zi v105) fun v => K v h) fun v106 h =>
  B.gd h v99 false (fun K => B.pv (V.bin .lss v101 v106) fun v => K v h) fun v107 h =>
  B.gd h v99 false (fun K => K v107 h) fun v108 h =>
  B.gd h v108 true (fun K => K v0 h) fun v109 h =>
  B.gd h v108 true (fun K => K v9 h) fun v110 h =>
  B.gd h v108 true (fun K => B.pv (V.idxS 1 v109 v110) fun v => K v h) fun v111 h =>
  B.gd h v108 true (fun K => B.ld h v111 fun v => K v h) fun v112 h =>
  B.gd h v108 true (fun K => K v10 h) fun v113 h =>
  B.gd h v108 true (fun K => B.pv (V.idxS E.es v112 v113) fun v => K v h) fun v114 h =>
  B.gd h v108 true (fun K => E.ld h v114 fun v => K v h) fun v115 h =>
  B.gd h v108 true (fun K => K v9 h) fun v116 h =>
  B.gd h v108 true (fun K => K v10 h) fun v117 h =>
  B.gd h v108 true (fun K => B.call C E.f [v116, v117] h (B.zlj h [(v111, none), (v114, E.kp)] K)) fun v118 h =>
  B.gd h v108 true (fun K => E.eq h v115 v118 K) fun v119 h =>
  B.gd h v108 true (fun K => B.pv (V.un .not v119) fun v => K v h) fun v120 h =>
  B.gd h v99 false (fun K => B.pick v108 v120 (.bool false) fun v => K v h) fun v121 h =>
  B.pick v99 (.bool true) v121 fun v122 =>
  B.cond v122
  (Q (.bool false) h)
  (B.pv (V.bin .add v10 (.int .i64 1)) fun v87 =>
  Y6 [v87] h))))
  (B.pv (V.bin .add v9 (.int .i64 1)) fun v78 =>
  Y5 [v78] h)
@[simp] def zcf.l49 (C : CSem) (Q : AVal → za → Prop) (Y5 : List AVal → za → Prop) (v0 v5 v9 : AVal) : List AVal → za → (List AVal → za → Prop) → Prop
 | [v10], h, Y6 => zcf.k47 E C Q Y5 Y6 v0 v5 v9 v10 h
 | _, _, _ => False
@[simp] def zcf.k56 (C : CSem) (Q : AVal → za → Prop) (Y5 : List AVal → za → Prop) (v0 v5 v9 : AVal) (h : za) : Prop :=
 B.pv (V.zi v0) fun v75 =>
  B.pv (V.bin .lss v9 v75) fun v76 =>
  B.cond v76
  (zg (zcf.l49 E C Q Y5 v0 v5 v9) [(.int .i64 0)] h)
  (zg (zcf.l40 E C Q v0 v5) [(.int .i64 0)] h)
@[simp] def zcf.l59 (C : CSem) (Q : AVal → za → Prop) (v0 v5 : AVal) : List AVal → za → (List AVal → za → Prop) → Prop
 | [v9], h, Y5 => zcf.k56 E C Q Y5 v0 v5 v9 h
 | _, _, _ => False
@[simp] def zcf.k67 (C : CSem) (Q : AVal → za → Prop) (Y7 Y8 : List AVal → za → Prop) (v0 v5 v6 v7 v8 : AVal) (h : za) : Prop :=
 B.pv (V.bin .lss v8 (.int .i64 64)) fun v54 =>
  B.cond v54
  (B.pv (V.idxS 1 v0 v6) fun v61 =>
  B.ld h v61 fun v62 =>
  B.pv (V.zi v62) fun v63 =>
  B.pv (V.bin .add v63 v8) fun v65 =>
  B.call C E.f [v6, v65] h fun v66 h =>
  B.newO h (zc7 [(0, E.kp, v66)] (repL 1 E.z)) fun i67 h =>
  B.appW h E.es E.bytes v7 (.sl i67 0 0 1 E.es 1) fun v68 h =>
  B.pv (V.bin .add v8 (.int .i64 1)) fun v56 =>
  Y8 [v68, v56] h)
  (B.pv (V.idxS 1 v5 v6) fun v72 =>
  B.st h v72 v7 fun h =>
  B.pv (V.bin .add v6 (.int .i64 1)) fun v48 =>
  Y7 [v48] h)
@[simp] def zcf.l69 (C : CSem) (Q : AVal → za → Prop) (Y7 : List AVal → za → Prop) (v0 v5 v6 : AVal) : List AVal → za → (List AVal → za → Prop) → Prop
 | [v7, v8], h, Y8 => zcf.k67 E C Q Y7 Y8 v0 v5 v6 v7 v8 h
 | _, _, _ => False
@[simp] def zcf.k79 (C : CSem) (Q : AVal → za → Prop) (Y7 : List AVal → za → Prop) (v0 v5 v6 : AVal) (h : za) : Prop :=
 B.pv (V.zi v0) fun v45 =>
  B.pv (V.bin .lss v6 v45) fun v46 =>
  B.cond v46
  (B.pv (V.idxS 1 v0 v6) fun v51 =>
  B.ld h v51 fun v52 =>
  zg (zcf.l69 E C Q Y7 v0 v5 v6) [v52, (.int .i64 0)] h)
  (zg (zcf.l59 E C Q v0 v5) [(.int .i64 0)] h)
@[simp] def zcf.l82 (C : CSem) (Q : AVal → za → Prop) (v0 v5 : AVal) : List AVal → za → (List AVal → za → Prop) → Prop
 | [v6], h, Y7 => zcf.k79 E C Q Y7 v0 v5 v6 h
 | _, _, _ => False
@[simp] def zcf.k91 (C : CSem) (Q : AVal → za → Prop) (Y9 Y10 : List AVal → za → Prop) (v0 v3 v4 : AVal) (h : za) : Prop :=
 B.pv (V.idxS 1 v0 v3) fun v25 =>
  B.ld h v25 fun v26 =>
  B.pv (V.zi v26) fun v27 =>
  B.pv (V.bin .lss v4 v27) fun v28 =>
  B.cond v28
  (B.pv (V.idxS 1 v0 v3) fun v33 =>
  B.ld h v33 fun v34 =>
  B.call C E.f [v3, v4] h (B.zlj h [(v33, none)] (fun v38 h => B.pv (V.idxS E.es v34 v4) fun v39 =>
  E.st h v39 v38 fun h =>
  B.pv (V.bin .add v4 (.int .i64 1)) fun v30 =>
  Y10 [v30] h)))
  (B.pv (V.bin .add v3 (.int .i64 1)) fun v21 =>
  Y9 [v21] h)
@[simp] def zcf.l93 (C : CSem) (Q : AVal → za → Prop) (Y9 : List AVal → za → Prop) (v0 v3 : AVal) : List AVal → za → (List AVal → za → Prop) → Prop
 | [v4], h, Y10 => zcf.k91 E C Q Y9 Y10 v0 v3 v4 h
 | _, _, _ => False
@[simp] def zcf.k100 (C : CSem) (Q : AVal → za → Prop) (Y9 : List AVal → za → Prop) (v0 v3 : AVal) (h : za) : Prop :=
 B.pv (V.zi v0) fun v18 =>
  B.pv (V.bin .lss v3 v18) fun v19 =>
  B.cond v19
  (zg (zcf.l93 E C Q Y9 v0 v3) [(.int .i64 0)] h)
  (B.pv (V.zi v0) fun v41 =>
  0 < 1 ∧ B.mks h 24 (some [.nils]) v41 v41 fun v42 h =>
  zg (zcf.l82 E C Q v0 v42) [(.int .i64 0)] h)
@[simp] def zcf.l103 (C : CSem) (Q : AVal → za → Prop) (v0 : AVal) : List AVal → za → (List AVal → za → Prop) → Prop
 | [v3], h, Y9 => zcf.k100 E C Q Y9 v0 v3 h
 | _, _, _ => False
def zcf (C : CSem) (v0 : AVal) (h : za) (Q : AVal → za → Prop) : Prop :=
 zg (zcf.l103 E C Q v0) [(.int .i64 0)] h
def opsS (bytes : Nat) (z : AVal) (f : Nat) : zf0 where
 es := 1; bytes := bytes; z := [z]; f := f; kp := none
 ld := fun h p K => B.ld h p K
 st := fun h p v K => B.st h p v K
 eq := fun h a b K => B.pv (V.bin .eql a b) fun v => K v h
def opsD (C : CSem) (es bytes : Nat) (z : List AVal) (f g : Nat) : zf0 where
 es := es; bytes := bytes; z := z; f := f; kp := some es
 ld := fun h p K => B.ldn h p es K
 st := fun h p v K => B.stn h p es v K
 eq := fun h a b K => B.call C g [a, b] h K
end
def aoff : AVal → Nat
 | .sl _ _ off _ _ _ => off
 | _ => 0
theorem zvd (g hi e : Nat) : ∀ (gens : List (Nat × Nat)), gens.lookup g = some hi → (zrp gens e).lookup g = some (min hi e)
 | [], h => by cases h
 | (g', k) :: r, h => by
  unfold zrp
  rw [List.map_cons]
  by_cases e1 : (g == g') = true
  ·simp only [List.lookup, e1] at h ⊢
   rw [Option.some.inj h]
  ·simp only [Bool.not_eq_true] at e1
   simp only [List.lookup, e1] at h ⊢
   exact zvd g hi e r h
theorem SlX.oldApp {h : za} {es : Nat} {x : AVal} {L R : List (List AVal)} (hs : SlX h es x L R) {id : Nat} {b : Blk} (hf : foot x = some id) (hb : h id = some b) {e : Nat} (he : aoff x + L.length * es ≤ e) (hb2 : e ≤ b.cells.length) (news : List AVal) :
  SlX (Ab.upd h id (zgc b e news)) es x L [] := by
 have h0 := hs.cut
 refine ⟨h0.len, ?_⟩
 rcases h0.at_ with e1 | ⟨id', g, off, cp, b', hi, h1, h1', h2, h3, h4, hh, h5⟩
 ·exact .inl e1
 ·subst h1
  cases hf
  rw [hb] at h2
  cases h2
  simp only [aoff] at he
  simp only [List.length_nil, Nat.add_zero] at h4 h5 h1'
  have hcells : ((b.cells.take e ++ news).drop off).take (L.length * es) = (L ++ []).flatten := by
   rw [← h5]
   apply List.ext_getElem?
   intro k
   by_cases hk : k < L.length * es
   ·rw [List.getElem?_take_of_lt hk, List.getElem?_take_of_lt hk, List.getElem?_drop, List.getElem?_drop, List.getElem?_append_left (by simp; omega), List.getElem?_take_of_lt (by omega)]
   ·rw [List.getElem?_take_eq_none (by omega), List.getElem?_take_eq_none (by omega)]
  by_cases hg : g = b.next
  ·refine .inr ⟨_, g, off, cp, _, e + news.length, rfl, by simpa using h1', z7 .., by simp [zgc, hg, List.lookup], by simp; omega, by simp [zgc]; omega, ?_⟩
   simpa [zgc] using hcells
  ·refine .inr ⟨_, g, off, cp, _, min hi e, rfl, by simpa using h1', z7 .., ?_, by simp; omega, by simp [zgc]; omega, ?_⟩
   ·simp only [zgc, List.lookup]
    rw [show (g == b.next) = false by simpa using hg]
    exact zvd g hi e b.gens h3
   ·simpa [zgc] using hcells
structure Old (h : za) (es : Nat) (x : AVal) (L : List (List AVal)) (y : AVal) (M : List (List AVal)) : Prop where
 at_ : SlX h es x L []
 ft : foot x = none ∨ (foot x = foot y ∧ aoff x = aoff y)
 len : L.length ≤ M.length
theorem Old.refl {h : za} {es : Nat} {x : AVal} {L R : List (List AVal)} (hs : SlX h es x L R) : Old h es x L x L := ⟨hs.cut, .inr ⟨rfl, rfl⟩, Nat.le_refl _⟩
theorem Old.other {h h' : za} {es : Nat} {x y z : AVal} {L M : List (List AVal)} (ho : Old h es x L y M) (hb : But z h h') (hne : ∀ id, foot y = some id → foot z ≠ some id) : Old h' es x L y M :=
 ⟨hb.sl ho.at_ fun id hf => hne id (by rcases ho.ft with e | ⟨e, _⟩ <;> rw [e] at hf; cases hf; exact hf), ho.ft, ho.len⟩
theorem Old.mono {h h' : za} {es : Nat} {x y : AVal} {L M : List (List AVal)} (ho : Old h es x L y M) (hle : h.le h') : Old h' es x L y M := ⟨ho.at_.mono hle, ho.ft, ho.len⟩
section
variable {h H h0 : za} {es : Nat} {x : AVal} {L R : List (List AVal)}
theorem SlX.app2 {bytes : Nat} {M : List (List AVal)} {K : AVal → za → Prop} (ho : SlX h es x L R) (hown : ∀ id b, foot x = some id → h id = some b → b.own = true) (hes : 0 < es) (hM : ∀ p ∈ M, p.length = es) (hb : (L.length + M.length) * bytes ≤ 140737488355328) (hm : L.length + M.length ≤ maxLen)
  (hk : ∀ x' h', SlIs h' es x' (L ++ M) → (∀ id b, foot x' = some id → h' id = some b → b.own = true) → But x h h' → (foot x' = foot x ∨ ∀ id, foot x' = some id → h id = none) → (∀ u U, Old h es u U x L → Old h' es u U x' (L ++ M)) → K x' h') : A.app h es bytes x (some M.flatten) K := by
 have hl := zkl hM
 have hd : M.flatten.length / es = M.length := by rw [hl, Nat.mul_div_cancel _ hes]
 have hall : ∀ p ∈ (L ++ M) ++ [], p.length = es := fun p hp => by
  rw [List.append_nil] at hp
  rcases List.mem_append.1 hp with hp | hp
  ·exact ho.len p (List.mem_append_left _ hp)
  ·exact hM p hp
 have fresh : L = [] → foot x = none → (M ≠ [] → (M.flatten.length / es) * bytes ≤ 140737488355328 ∧ M.flatten.length / es ≤ maxLen ∧ A.new h M.flatten fun id h => K (.sl id 0 0 (M.flatten.length / es) es (M.flatten.length / es)) h) := fun e hfx hne => by
  subst e
  rw [hd]
  simp only [List.length_nil, Nat.zero_add] at hb hm
  refine ⟨hb, hm, fun id hid => ?_⟩
  refine hk _ _ ⟨hall, .inr ⟨id, 0, 0, _, zel M.flatten, M.flatten.length, by simp only [List.nil_append]; exact rfl, by simp, z7 .., zhv .., by simp [hl], Nat.le_refl _, ?_⟩⟩ (fun j b hj hb' => ?_) (But.of_le _ (zha _ hid)) (.inr fun j hj => ?_) (fun u U hu => ⟨hu.at_.mono (zha _ hid), .inl ?_, ?_⟩)
  ·simp only [List.nil_append, List.append_nil, List.length_nil, Nat.add_zero, ← hl, zel, List.drop_zero, List.take_length]
  ·cases hj
   rw [z7] at hb'; cases hb'; rfl
  ·cases hj; exact hid
  ·rcases hu.ft with e | ⟨e, _⟩
   ·exact e
   ·rw [e, hfx]
  ·have := hu.len; simp at this; simp [this]
 have hnil : M = [] ∨ M.flatten.length ≠ 0 := by
  cases M with
  | nil => exact .inl rfl
  | cons a r =>
   refine .inr ?_
   rw [hl, List.length_cons, Nat.add_mul]
   omega
 have h0 := ho.cut
 rcases h0.at_ with ⟨e, _, e' | e'⟩ | ⟨id, g, off, cp, b, hi, h1, h1', h2, h3, h4, hh, h5⟩
 ·subst e'
  simp only [A.app]
  split
  ·rename_i hz
   rcases hnil with hn | hn
   ·subst hn; exact hk _ _ (by simpa using h0) (fun _ _ hj => by cases hj) (But.of_le _ (za.le_refl h)) (.inl rfl) (fun u U hu => by simpa using hu)
   ·exact absurd hz hn
  ·rename_i hz
   exact fresh e rfl fun hn => hz (by rw [hn]; rfl)
 ·subst e'
  simp only [A.app]
  split
  ·rename_i hz
   rcases hnil with hn | hn
   ·subst hn; exact hk _ _ (by simpa using h0) (fun _ _ hj => by cases hj) (But.of_le _ (za.le_refl h)) (.inl rfl) (fun u U hu => by simpa using hu)
   ·exact absurd hz hn
  ·rename_i hz
   exact fresh e rfl fun hn => hz (by rw [hn]; rfl)
 ·have hown' := hown id b (by rw [h1]; rfl) h2
  subst h1
  simp only [List.length_nil, Nat.add_zero, List.append_nil] at h4 h5
  simp only [A.app, h2, h3, hd, hown', cond_true]
  have hcl : off + L.length * es ≤ b.cells.length := by omega
  have htl : (b.cells.take (off + L.length * es)).length = off + L.length * es := by simp; omega
  refine ⟨trivial, trivial, h4, hb, hm, hk _ _ ⟨hall, .inr ⟨id, b.next, off, _, _, off + L.length * es + M.flatten.length, by rw [List.length_append], by simp, z7 .., zhv .., ?_, ?_, ?_⟩⟩ (fun j b1 hj hb1 => ?_) (fun j b1 e1 e2 => ?_) (.inl rfl) (fun u U hu => ⟨?_, ?_, ?_⟩)⟩
  ·rw [List.length_append, List.length_nil, Nat.add_zero, Nat.add_mul, hl]; omega
  ·simp only [zgc, List.length_append, htl]; omega
  ·simp only [zgc, List.append_nil, List.length_nil, Nat.add_zero]
   rw [List.drop_append_of_le_length (by omega), List.length_append, Nat.add_mul, ← hl, List.flatten_append, ← h5]
   have e1 : (b.cells.take (off + L.length * es)).drop off = (b.cells.drop off).take (L.length * es) := by
    rw [List.drop_take]; congr 1; omega
   have e2 : ((b.cells.drop off).take (L.length * es)).length = L.length * es := by simp; omega
   rw [e1, List.take_of_length_le]
   rw [List.length_append, e2]; omega
  ·cases hj
   rw [z7] at hb1; cases hb1; exact hown'
  ·rw [zk]
   ·exact e1
   ·intro e; subst e; exact e2 rfl
  ·by_cases hf : foot u = some id
   ·refine hu.at_.oldApp hf h2 ?_ hcl _
    have e1 := hu.len
    have e2 : aoff u = off := by
     rcases hu.ft with e | ⟨_, e⟩
     ·rw [e] at hf; cases hf
     ·exact e
    rw [e2]
    have := Nat.mul_le_mul_right es e1
    omega
   ·exact hu.at_.upd hf
  ·rcases hu.ft with e | ⟨e, e'⟩
   ·exact .inl e
   ·exact .inr ⟨e, e'⟩
  ·have := hu.len; rw [List.length_append]; omega
theorem SlX.appW2 {bytes : Nat} {y : AVal} {M R' : List (List AVal)} {K : AVal → za → Prop} (ho : SlX h es x L R) (hown : ∀ id b, foot x = some id → h id = some b → b.own = true) (hs : SlX h es y M R') (hes : 0 < es) (hb : (L.length + M.length) * bytes ≤ 140737488355328) (hm : L.length + M.length ≤ maxLen)
  (hk : ∀ x' h', SlIs h' es x' (L ++ M) → (∀ id b, foot x' = some id → h' id = some b → b.own = true) → But x h h' → (foot x' = foot x ∨ ∀ id, foot x' = some id → h id = none) → (∀ u U, Old h es u U x L → Old h' es u U x' (L ++ M)) → K x' h') : A.appW h es bytes x y K := by
 unfold A.appW
 rw [hs.zgz]
 simp only
 rw [hs.rdv]
 exact ho.app2 hown hes (fun p hp => hs.len p (List.mem_append_left _ hp)) hb hm hk
end
section
variable {h0 h h' : za} {l : List Ob}
theorem Owns.ne (ho : Owns h0 h l) {i j : Nat} {a b : Ob} (hi : l[i]? = some a) (hj : l[j]? = some b) (hij : i ≠ j) : ∀ id, a.foot = some id → b.foot ≠ some id := fun id ha hb => by
 rcases Nat.lt_or_gt_of_ne hij with hlt | hgt
 ·have := List.pairwise_iff_getElem.1 ho.apart i j (List.getElem?_eq_some_iff.1 hi).1 (List.getElem?_eq_some_iff.1 hj).1 hlt
  rw [(List.getElem?_eq_some_iff.1 hi).2, (List.getElem?_eq_some_iff.1 hj).2] at this
  exact this id ha hb
 ·have := List.pairwise_iff_getElem.1 ho.apart j i (List.getElem?_eq_some_iff.1 hj).1 (List.getElem?_eq_some_iff.1 hi).1 hgt
  rw [(List.getElem?_eq_some_iff.1 hj).2, (List.getElem?_eq_some_iff.1 hi).2] at this
  exact this id hb ha
end
def upf {α : Type} (f : Nat → α) (k : Nat) (v : α) : Nat → α := fun j => if j = k then v else f j
def Objs (es n : Nat) (xs : Nat → AVal) (D R : Nat → List (List AVal)) : List Ob := (List.range n).map fun j => Ob.sl es (xs j) (D j) (R j)
section
variable {es n k : Nat} {xs : Nat → AVal} {D R : Nat → List (List AVal)}
@[simp] theorem Objs.length : (Objs es n xs D R).length = n := by simp [Objs]
theorem Objs.get (hk : k < n) : (Objs es n xs D R)[k]? = some (.sl es (xs k) (D k) (R k)) := by simp [Objs, hk]
theorem Objs.set {x : AVal} {L M : List (List AVal)} : (Objs es n xs D R).set k (.sl es x L M) = Objs es n (upf xs k x) (upf D k L) (upf R k M) := by
 apply List.ext_getElem?
 intro j
 by_cases hj : j < n
 ·rw [Objs.get hj]
  by_cases e : k = j
  ·subst e; rw [List.getElem?_set_self (by simpa using hj)]; simp [upf]
  ·rw [List.getElem?_set_ne e, Objs.get hj]; simp [upf, Ne.symm e]
 ·rw [List.getElem?_eq_none (by simp; omega), List.getElem?_eq_none (by simp; omega)]
theorem Objs.getA {l : List Ob} (hk : k < n) : (Objs es n xs D R ++ l)[k]? = some (.sl es (xs k) (D k) (R k)) := by
 rw [List.getElem?_append_left (by simpa using hk)]; exact Objs.get hk
theorem Objs.setA {l : List Ob} (hk : k < n) {x : AVal} {L M : List (List AVal)} : (Objs es n xs D R ++ l).set k (.sl es x L M) = Objs es n (upf xs k x) (upf D k L) (upf R k M) ++ l := by
 rw [List.set_append_left _ _ (by simpa using hk), Objs.set]
theorem Objs.getL {o : Ob} : (Objs es n xs D R ++ [o])[n]? = some o := by
 rw [List.getElem?_append_right (by simp)]; simp
theorem Objs.setL {o o' : Ob} : (Objs es n xs D R ++ [o]).set n o' = Objs es n xs D R ++ [o'] := by
 rw [List.set_append_right _ _ (by simp)]; simp
end
theorem Owns.cutR {h0 h : za} {es n : Nat} {xs : Nat → AVal} {D R : Nat → List (List AVal)} {l : List Ob} (ho : Owns h0 h (Objs es n xs D R ++ l)) : Owns h0 h (Objs es n xs D (fun _ => []) ++ l) := by
 have mem : ∀ o ∈ Objs es n xs D (fun _ => []), ∃ o' ∈ Objs es n xs D R, o'.foot = o.foot ∧ (o'.at h → o.at h) := fun o hm => by
  obtain ⟨j, hj, rfl⟩ := List.mem_map.1 hm
  exact ⟨_, List.mem_map.2 ⟨j, hj, rfl⟩, rfl, fun h => SlX.cut h⟩
 refine ⟨ho.le, fun o hm => ?_, fun o hm => ?_, ?_⟩
 ·rcases List.mem_append.1 hm with hm | hm
  ·obtain ⟨o', h1, _, h3⟩ := mem o hm
   exact h3 (ho.is _ (List.mem_append_left _ h1))
  ·exact ho.is _ (List.mem_append_right _ hm)
 ·rcases List.mem_append.1 hm with hm | hm
  ·obtain ⟨o', h1, h2, _⟩ := mem o hm
   rw [← h2]
   exact ho.own _ (List.mem_append_left _ h1)
  ·exact ho.own _ (List.mem_append_right _ hm)
 ·obtain ⟨a, b, c⟩ := List.pairwise_append.1 ho.apart
  refine List.pairwise_append.2 ⟨?_, b, fun x hx y hy => ?_⟩
  ·unfold Objs at a ⊢
   rw [List.pairwise_map] at a ⊢
   exact a.imp fun h => h
  ·obtain ⟨o', h1, h2, _⟩ := mem x hx
   rw [← h2]
   exact c o' h1 y hy
section
variable {m : Int → Int → List AVal} {k n i : Nat}
end
theorem ze6 {α : Type} (f : Nat → α) (k : Nat) (v : α) : upf f k v k = v := by simp [upf]
theorem zkd {α : Type} (f : Nat → α) {k j : Nat} (v : α) (h : j ≠ k) : upf f k v j = f j := by simp [upf, h]
theorem zm1 {α : Type} (f : Nat → α) (k : Nat) : upf f k (f k) = f := by funext j; unfold upf; split <;> simp_all
theorem upf_const {α : Type} (k : Nat) (v : α) : upf (fun _ => v) k v = fun _ => v := by funext j; unfold upf; split <;> rfl
theorem ztc {α : Type} (f : Nat → α) (k : Nat) (v w : α) : upf (upf f k v) k w = upf f k w := by funext j; unfold upf; split <;> rfl
section
variable {h : za} {x : AVal} {n k : Nat} {xs : Nat → AVal} {W : List (List AVal)} (hx : SlX h 1 x (zgo n fun j => [xs j]) W)
include hx
theorem zub : V.zi x = some (.int .i64 n) := by rw [hx.zi, fills_len]
theorem zkh (hk : k < n) : V.idxS 1 x (.int .i64 (k : Int)) = some (elp 1 x k 0) := hx.idxN (by simpa using hk)
theorem zrh (hk : k < n) : A.ldv h (elp 1 x k 0) = some (xs k) := by rw [hx.ldv (zmm _ hk) (by omega)]; rfl
end
section
variable {E : zf0} {m : Int → Int → List AVal} {v : Int → Int → AVal} {h0 h h' : za} {x v5 : AVal} {n k : Nat} {xs ys gs : Nat → AVal} {len : Nat → Nat} {F : Nat → List (List AVal)} {W : List (List AVal)} {Q : AVal → za → Prop}
end
structure Scal (T : Type) [DecidableEq T] where
 c : T → AVal
 cell : ∀ t, (c t).zl = true
 eql : ∀ a b, V.bin .eql (c a) (c b) = some (.bool (decide (a = b)))
 neq : ∀ a b, V.bin .neq (c a) (c b) = some (.bool (!decide (a = b)))
theorem SlX.cell {h : za} {x c : AVal} {L R : List (List AVal)} {i : Nat} (hs : SlX h 1 x L R) (hc : L[i]? = some [c]) : A.ldv h (elp 1 x i 0) = some c := by
 rw [hs.ldv hc (by omega)]; rfl
section
variable {T : Type} [DecidableEq T] (F : Scal T)
abbrev Scal.cs (t : T) : List AVal := [F.c t]
@[simp] def zp3.k2 (Q : AVal → za → Prop) (Y1 : List AVal → za → Prop) (v0 v1 v5 : AVal) (h : za) : Prop :=
 B.pv (V.zi v0) fun v13 =>
  B.pv (V.bin .lss v5 v13) fun v14 =>
  B.cond v14
  (B.pv (V.idxS 1 v0 v5) fun v19 =>
  B.ld h v19 fun v20 =>
  B.pv (V.idxS 1 v1 v5) fun v23 =>
  B.ld h v23 fun v24 =>
  B.pv (V.bin .neq v20 v24) fun v25 =>
  B.cond v25
  (Q (.bool false) h)
  (B.pv (V.bin .add v5 (.int .i64 1)) fun v16 =>
  Y1 [v16] h))
  (Q (.bool true) h)
@[simp] def zp3.l4 (Q : AVal → za → Prop) (v0 v1 : AVal) : List AVal → za → (List AVal → za → Prop) → Prop
 | [v5], h, Y1 => zp3.k2 Q Y1 v0 v1 v5 h
 | _, _, _ => False
def zp3 (v0 v1 : AVal) (h : za) (Q : AVal → za → Prop) : Prop :=
 B.pv (V.zi v0) fun v7 =>
  B.pv (V.zi v1) fun v9 =>
  B.pv (V.bin .neq v7 v9) fun v10 =>
  B.cond v10
  (Q (.bool false) h)
  (zg (zp3.l4 Q v0 v1) [(.int .i64 0)] h)
theorem zu6 {x y : AVal} {L M : List T} {R S : List (List AVal)} {h : za} {Q : AVal → za → Prop} (hx : SlX h 1 x (L.map F.cs) R) (hy : SlX h 1 y (M.map F.cs) S) (hlen : L.length < 4611686018427387904)
  (hq : Q (.bool (decide (L = M))) h) : zp3 x y h Q := by
 have hlx := hx.zi
 have hly := hy.zi
 rw [List.length_map] at hlx hly
 simp -dsimp [zp3, hlx, hly]
 refine B.ze (fun hb => ?_) (fun hb => ?_) <;> simp -dsimp at hb ⊢
 ·rw [decide_eq_false fun e => hb (by rw [e])] at hq
  exact hq
 ·refine zg.intro (fun n vs hh => ∃ k, k + n = L.length ∧ vs = [.int .i64 k] ∧ hh = h ∧ L.take k = M.take k) L.length ?_ ⟨0, by simp, by simp, rfl, by simp⟩
  rintro Y n vs _ ⟨k, hn, rfl, rfl, he⟩ hY
  simp -dsimp [hlx]
  refine B.ze (fun hc => ?_) (fun hc => ?_) <;> simp -dsimp at hc ⊢
  ·obtain ⟨w, hw⟩ := zc6 hc
   obtain ⟨u, hu⟩ := zc6 (L := M) (k := k) (by omega)
   have hk : k < (L.map F.cs).length := by simpa using hc
   have hk2 : k < (M.map F.cs).length := by simp; omega
   simp only [hx.idxN hk, hy.idxN hk2, hx.cell (get_map hw), hy.cell (get_map hu), B.zf, B.zh0, F.neq]
   refine B.ze (fun hd => ?_) (fun hd => ?_) <;> simp -dsimp at hd ⊢
   ·rw [decide_eq_false fun e => by subst e; rw [hw] at hu; cases hu; exact hd rfl] at hq
    exact hq
   ·simp [zhg (n := k) (by omega)]
    refine hY (L.length - (k + 1)) _ _ (by omega) ⟨k + 1, by omega, by simp, rfl, ?_⟩
    rw [take_succ hw, take_succ hu, he, hd]
  ·rw [List.take_of_length_le (by omega), List.take_of_length_le (by omega)] at he
   rw [decide_eq_true he] at hq
   exact hq
def zgr (mk : Int → T) (n : Nat) : List (List AVal) := (List.range n).map fun (i : Nat) => F.cs (mk (i : Int))
@[simp] theorem cmarks_len (mk : Int → T) (n : Nat) : (zgr F mk n).length = n := by simp [zgr]
theorem cmarks_get (mk : Int → T) {n k : Nat} (hk : k < n) : (zgr F mk n)[k]? = some (F.cs (mk k)) := by simp [zgr, hk]
theorem cmarks_succ (mk : Int → T) (n : Nat) : zgr F mk (n + 1) = zgr F mk n ++ [F.cs (mk n)] := by simp [zgr, List.range_succ]
@[simp] def zss.k2 (C : CSem) (bytes f : Nat) (z : AVal) (m : Int) (Q : AVal → za → Prop) (Y1 : List AVal → za → Prop) (v0 v3 v4 : AVal) (h : za) : Prop :=
 B.pv (V.bin .lss v4 (.int .i64 12)) fun v13 =>
  B.cond v13
  (B.call C f [(.int .i64 m), v4] h fun v18 h =>
  B.newO h (zc7 [(0, none, v18)] (repL 1 [z])) fun i19 h =>
  B.appW h 1 bytes v3 (.sl i19 0 0 1 1 1) fun v20 h =>
  B.pv (V.bin .add v4 (.int .i64 1)) fun v15 =>
  Y1 [v20, v15] h)
  (B.pv (V.zi v0) fun v23 =>
  B.pv (V.zfs 1 v3 none (some v23)) fun v24 =>
  Q v24 h)
@[simp] def zss.l4 (C : CSem) (bytes f : Nat) (z : AVal) (m : Int) (Q : AVal → za → Prop) (v0 : AVal) : List AVal → za → (List AVal → za → Prop) → Prop
 | [v3, v4], h, Y1 => zss.k2 C bytes f z m Q Y1 v0 v3 v4 h
 | _, _, _ => False
def zss (C : CSem) (bytes f : Nat) (z : AVal) (m : Int) (v0 : AVal) (h : za) (Q : AVal → za → Prop) : Prop :=
 B.pv (V.zi v0) fun v6 =>
  B.pv (V.bin .add v6 (.int .i64 12)) fun v7 =>
  0 < 1 ∧ B.mks h bytes (some [z]) (.int .i64 0) v7 fun v8 h =>
  B.appW h 1 bytes v8 v0 fun v11 h =>
  zg (zss.l4 C bytes f z m Q v0) [v11, (.int .i64 0)] h
theorem lentS_specL {bytes f : Nat} {z : AVal} {m : Int} {mk : Int → T} (s1 : ∀ (i : Int) (h : za) (Q : AVal → za → Prop), Q (F.c (mk i)) h → C f [.int .i64 m, .int .i64 i] h Q)
  {x : AVal} {L : List T} {R : List (List AVal)} {h : za} {Q : AVal → za → Prop} (hx : SlX h 1 x (L.map F.cs) R) (hlen : L.length ≤ 4611686018427387000) (hbm : (L.length + 12) * bytes ≤ 140737488355328)
  (hq : ∀ x' h', Owns h h' [.sl 1 x' (L.map F.cs) (zgr F mk 12)] → Q x' h') : zss C bytes f z m x h Q := by
 have hlx := hx.zi
 rw [List.length_map] at hlx
 have hmul : ∀ n : Nat, n ≤ L.length + 12 → n * bytes ≤ 140737488355328 := fun n hn => Nat.le_trans (Nat.mul_le_mul_right bytes hn) hbm
 have e1 : IntKind.i64.wrap ((L.length : Int) + 12) = (L.length : Int) + 12 := wrap_i64 (by omega) (by omega)
 simp -dsimp [zss, hlx, e1]
 refine (Owns.start h).mks (es := 1) rfl (by omega) (by omega) ?_ (by omega) fun y h1 ho => ?_
 ·have := hmul (L.length + 12) (by omega)
  have e : ((L.length : Int) + 12) * bytes = ((L.length + 12) * bytes : Nat) := by simp
  rw [e]; omega
 refine ho.appW 0 rfl (hx.mono ho.le) Nat.one_pos (by simpa using hmul L.length (by omega)) (by simp [maxLen]; omega) fun y2 h2 ho2 _ => ?_
 refine zg.intro (fun n vs hh => ∃ k y, k + n = 12 ∧ vs = [y, .int .i64 k] ∧ Owns h hh [.sl 1 y (L.map F.cs ++ zgr F mk k) []]) 12 ?_ ⟨0, y2, by simp, by simp, by simpa [zgr] using ho2⟩
 rintro Y n vs hh ⟨k, y3, hn, rfl, ho3⟩ hY
 simp -dsimp [hlx]
 refine B.ze (fun hc => ?_) (fun hc => ?_) <;> simp -dsimp at hc ⊢
 ·refine s1 _ _ _ ?_
  have hfill : zc7 [(0, none, F.c (mk k))] (repL 1 [z]) = some (F.cs (mk k)) := by
   simp [F.cell, repL]
  rw [hfill]
  refine ho3.push 0 rfl rfl Nat.one_pos (by simp; have := hmul (L.length + k + 1) (by omega); omega) (by simp [maxLen]; omega) fun z' h4 ho4 _ => ?_
  simp [zhg (n := k) (by omega)]
  refine hY (12 - (k + 1)) _ _ (by omega) ⟨k + 1, z', by omega, by simp, ?_⟩
  rw [cmarks_succ, ← List.append_assoc]
  exact ho4
 ·have : k = 12 := by omega
  subst this
  obtain ⟨x', e2, e3, e4⟩ := (ho3.slAt 0 rfl).slice Nat.one_pos (lo := 0) (hi := L.length) (a := none) (b := some (.int .i64 L.length)) (.inl ⟨rfl, rfl⟩) (.inr ⟨_, rfl⟩) (by omega) (by simp)
  simp -dsimp [hlx, e2]
  refine hq _ _ (ho3.turn 0 rfl (o' := .sl 1 x' (L.map F.cs) (zgr F mk 12)) ?_ (fun id b hf hb => ho3.zod 0 rfl id b (by show foot y3 = some id; rw [← e4]; exact hf) hb) (fun j b hb _ => hb) (.inl e4))
  have h1 : ((L.map F.cs ++ zgr F mk 12 ++ []).take L.length).drop 0 = L.map F.cs := by simp [List.take_append_of_le_length]
  have h2 : (L.map F.cs ++ zgr F mk 12 ++ []).drop L.length = zgr F mk 12 := by simp [List.drop_append_of_le_length]
  rw [h1, h2] at e3
  exact e3
theorem lentS_spec {bytes f : Nat} {z : AVal} {m : Int} {mk : Int → T} (hbm : bytes ≤ 1000) (s1 : ∀ (i : Int) (h : za) (Q : AVal → za → Prop), Q (F.c (mk i)) h → C f [.int .i64 m, .int .i64 i] h Q)
  {x : AVal} {L : List T} {R : List (List AVal)} {h : za} {Q : AVal → za → Prop} (hx : SlX h 1 x (L.map F.cs) R) (hlen : L.length ≤ 100000000)
  (hq : ∀ x' h', Owns h h' [.sl 1 x' (L.map F.cs) (zgr F mk 12)] → Q x' h') : zss C bytes f z m x h Q :=
 lentS_specL F s1 hx (by omega) (by have := Nat.mul_le_mul (show L.length + 12 ≤ 100000100 by omega) hbm; omega) hq
@[simp] def zuc.k2 (C : CSem) (f : Nat) (m : Int) (Q : AVal → za → Prop) (Y1 : List AVal → za → Prop) (v1 v5 v6 : AVal) (h : za) : Prop :=
 B.pv (V.zi v5) fun v19 =>
  B.pv (V.bin .lss v6 v19) fun v20 =>
  B.cond v20
  (B.pv (V.zi v1) fun v25 =>
  B.pv (V.bin .lss v6 v25) fun v26 =>
  B.gd h v26 true (fun K => K v5 h) fun v28 h =>
  B.gd h v26 true (fun K => K v6 h) fun v29 h =>
  B.gd h v26 true (fun K => B.pv (V.idxS 1 v28 v29) fun v => K v h) fun v30 h =>
  B.gd h v26 true (fun K => B.ld h v30 fun v => K v h) fun v31 h =>
  B.gd h v26 true (fun K => K v1 h) fun v32 h =>
  B.gd h v26 true (fun K => K v6 h) fun v33 h =>
  B.gd h v26 true (fun K => B.pv (V.idxS 1 v32 v33) fun v => K v h) fun v34 h =>
  B.gd h v26 true (fun K => B.ld h v34 fun v => K v h) fun v35 h =>
  B.gd h v26 true (fun K => B.pv (V.bin .eql v31 v35) fun v => K v h) fun v36 h =>
  B.gd h v26 true (fun K => B.pv (V.un .not v36) fun v => K v h) fun v37 h =>
  B.pick v26 v37 (.bool false) fun v38 =>
  B.gd h v38 false (fun K => K v6 h) fun v40 h =>
  B.gd h v38 false (fun K => K v1 h) fun v41 h =>
  B.gd h v38 false (fun K => B.pv (V.zi v41) fun v => K v h) fun v42 h =>
  B.gd h v38 false (fun K => B.pv (V.bin .geq v40 v42) fun v => K v h) fun v43 h =>
  B.gd h v38 false (fun K => K v43 h) fun v44 h =>
  B.gd h v44 true (fun K => K v5 h) fun v45 h =>
  B.gd h v44 true (fun K => K v6 h) fun v46 h =>
  B.gd h v44 true (fun K => B.pv (V.idxS 1 v45 v46) fun v => K v h) fun v47 h =>
  B.gd h v44 true (fun K => B.ld h v47 fun v => K v h) fun v48 h =>
  B.gd h v44 true (fun K => K v6 h) fun v49 h =>
  B.gd h v44 true (fun K => K v1 h) fun v50 h =>
  B.gd h v44 true (fun K => B.pv (V.zi v50) fun v => K v h) fun v51 h =>
  B.gd h v44 true (fun K => B.pv (V.bin .sub v49 v51) fun v => K v h) fun v52 h =>
  B.gd h v44 true (fun K => B.call C f [(.int .i64 m), v52] h (B.zlj h [(v47, none)] K)) fun v53 h =>
  B.gd h v44 true (fun K => B.pv (V.bin .eql v48 v53) fun v => K v h) fun v54 h =>
  B.gd h v44 true (fun K => B.pv (V.un .not v54) fun v => K v h) fun v55 h =>
  B.gd h v38 false (fun K => B.pick v44 v55 (.bool false) fun v => K v h) fun v56 h =>
  B.pick v38 (.bool true) v56 fun v57 =>
  B.cond v57
  (Q (.bool false) h)
  (B.pv (V.bin .add v6 (.int .i64 1)) fun v22 =>
  Y1 [v22] h))
  (Q (.bool true) h)
@[simp] def zuc.l4 (C : CSem) (f : Nat) (m : Int) (Q : AVal → za → Prop) (v1 v5 : AVal) : List AVal → za → (List AVal → za → Prop) → Prop
 | [v6], h, Y1 => zuc.k2 C f m Q Y1 v1 v5 v6 h
 | _, _, _ => False
def zuc (C : CSem) (f : Nat) (m : Int) (v0 v1 : AVal) (h : za) (Q : AVal → za → Prop) : Prop :=
 B.pv (V.zi v0) fun v8 =>
  B.pv (V.zi v1) fun v10 =>
  B.pv (V.bin .neq v8 v10) fun v11 =>
  B.cond v11
  (Q (.bool false) h)
  (B.pv (V.zi v1) fun v14 =>
  B.pv (V.bin .add v14 (.int .i64 12)) fun v15 =>
  B.pv (V.zfs 1 v0 none (some v15)) fun v16 =>
  zg (zuc.l4 C f m Q v1 v16) [(.int .i64 0)] h)
theorem keptS_specL {f : Nat} {m : Int} {mk : Int → T} (s1 : ∀ (i : Int) (h : za) (Q : AVal → za → Prop), Q (F.c (mk i)) h → C f [.int .i64 m, .int .i64 i] h Q)
  {x y : AVal} {L M : List T} {R : List (List AVal)} {h : za} {Q : AVal → za → Prop} (hx : SlX h 1 x (L.map F.cs) (zgr F mk 12)) (hy : SlX h 1 y (M.map F.cs) R) (hlen : L.length ≤ 4611686018427387000)
  (hq : Q (.bool (decide (L = M))) h) : zuc C f m x y h Q := by
 have hlx := hx.zi
 have hly := hy.zi
 rw [List.length_map] at hlx hly
 simp -dsimp [zuc, hlx, hly]
 refine B.ze (fun hb => ?_) (fun hb => ?_) <;> simp -dsimp at hb ⊢
 ·rw [decide_eq_false fun e => hb (by rw [e])] at hq
  exact hq
 ·have e1 : IntKind.i64.wrap ((M.length : Int) + 12) = ((M.length + 12 : Nat) : Int) := by rw [wrap_i64 (by omega) (by omega)]; omega
  obtain ⟨z, e2, e3, e4⟩ := hx.slice Nat.one_pos (lo := 0) (hi := M.length + 12) (a := none) (b := some (.int .i64 ((M.length + 12 : Nat) : Int))) (.inl ⟨rfl, rfl⟩) (.inr ⟨_, rfl⟩) (by omega) (by simp; omega)
  have h1 : ((L.map F.cs ++ zgr F mk 12).take (M.length + 12)).drop 0 = L.map F.cs ++ zgr F mk 12 := by rw [List.drop_zero, List.take_of_length_le]; simp; omega
  rw [h1] at e3
  have hlz := e3.zi
  simp only [List.length_append, List.length_map, cmarks_len] at hlz
  simp only [hly, V.zet, e1, e2, B.zf]
  refine zg.intro (fun n vs hh => ∃ k, k + n = L.length + 12 ∧ vs = [.int .i64 k] ∧ hh = h ∧ L.take k = M.take k) (L.length + 12) ?_ ⟨0, by simp, by simp, rfl, by simp⟩
  rintro Y n vs _ ⟨k, hn, rfl, rfl, he⟩ hY
  simp -dsimp [hlz]
  refine B.ze (fun hc => ?_) (fun hc => ?_) <;> simp -dsimp at hc ⊢
  ·have hk : k < (L.map F.cs ++ zgr F mk 12).length := by simp; omega
   by_cases hkL : k < L.length
   ·have ew := zc6 hkL
    have eu := zc6 (L := M) (k := k) (by omega)
    obtain ⟨w, hw⟩ := ew
    obtain ⟨u, hu⟩ := eu
    have hk2 : k < (M.map F.cs).length := by simp; omega
    have hkM : k < M.length := by omega
    have hwz : (L.map F.cs ++ zgr F mk 12)[k]? = some (F.cs w) := by rw [List.getElem?_append_left (by simpa using hkL)]; exact get_map hw
    by_cases hwu : w = u
    ·subst hwu
     simp -dsimp [hly, hkM, e3.idxN hk, hy.idxN hk2, e3.cell hwz, hy.cell (get_map hu), F.eql, show ¬ M.length ≤ k by omega, zhg (n := k) (by omega)]
     refine hY (L.length + 12 - (k + 1)) _ _ (by omega) ⟨k + 1, by omega, by simp, rfl, ?_⟩
     rw [take_succ hw, take_succ hu, he]
    ·simp -dsimp [hly, hkM, e3.idxN hk, hy.idxN hk2, e3.cell hwz, hy.cell (get_map hu), F.eql, hwu]
     rw [decide_eq_false fun e => by subst e; rw [hw] at hu; cases hu; exact hwu rfl] at hq
     exact hq
   ·have hkM : ¬ k < M.length := by omega
    have hmk : (L.map F.cs ++ zgr F mk 12)[k]? = some (F.cs (mk ((k - M.length : Nat) : Int))) := by
     rw [List.getElem?_append_right (by simp; omega), List.length_map, show k - L.length = k - M.length by omega]
     exact cmarks_get F mk (by omega)
    have e5 : IntKind.i64.wrap ((k : Int) - M.length) = ((k - M.length : Nat) : Int) := by rw [wrap_i64 (by omega) (by omega)]; omega
    simp -dsimp [hly, hkM, e3.idxN hk, e3.cell hmk, show M.length ≤ k by omega, e5]
    refine s1 _ _ _ ⟨?_, ?_⟩
    ·intro p hp
     rw [List.mem_singleton.1 hp]
     exact ⟨_, e3.cell hmk, e3.cell hmk⟩
    ·simp [F.eql, zhg (n := k) (by omega)]
     refine hY (L.length + 12 - (k + 1)) _ _ (by omega) ⟨k + 1, by omega, by simp, rfl, ?_⟩
     rw [List.take_of_length_le (by omega), List.take_of_length_le (by omega)] at he ⊢
     exact he
  ·rw [List.take_of_length_le (by omega), List.take_of_length_le (by omega)] at he
   rw [decide_eq_true he] at hq
   exact hq
theorem keptS_spec {f : Nat} {m : Int} {mk : Int → T} (s1 : ∀ (i : Int) (h : za) (Q : AVal → za → Prop), Q (F.c (mk i)) h → C f [.int .i64 m, .int .i64 i] h Q)
  {x y : AVal} {L M : List T} {R : List (List AVal)} {h : za} {Q : AVal → za → Prop} (hx : SlX h 1 x (L.map F.cs) (zgr F mk 12)) (hy : SlX h 1 y (M.map F.cs) R) (hlen : L.length ≤ 100000000)
  (hq : Q (.bool (decide (L = M))) h) : zuc C f m x y h Q := keptS_specL F s1 hx hy (by omega) hq
end
@[simp] def zjx.k1 (C : CSem) (es f : Nat) (st : za → AVal → AVal → (za → Prop) → Prop) (m : Int) (Q : AVal → za → Prop) (Y1 : List AVal → za → Prop) (v2 v3 : AVal) (h : za) : Prop :=
 B.pv (V.zi v2) fun v11 =>
  B.pv (V.bin .lss v3 v11) fun v12 =>
  B.cond v12
  (B.call C f [(.int .i64 m), v3] h fun v18 h =>
  B.pv (V.idxS es v2 v3) fun v19 =>
  st h v19 v18 fun h =>
  B.pv (V.bin .add v3 (.int .i64 1)) fun v14 =>
  Y1 [v14] h)
  (Q (.tup []) h)
@[simp] def zjx.l3 (C : CSem) (es f : Nat) (st : za → AVal → AVal → (za → Prop) → Prop) (m : Int) (Q : AVal → za → Prop) (v2 : AVal) : List AVal → za → (List AVal → za → Prop) → Prop
 | [v3], h, Y1 => zjx.k1 C es f st m Q Y1 v2 v3 h
 | _, _, _ => False
def zjx (C : CSem) (es f : Nat) (st : za → AVal → AVal → (za → Prop) → Prop) (m : Int) (v0 : AVal) (h : za) (Q : AVal → za → Prop) : Prop :=
 B.pv (V.zi v0) fun v6 =>
  B.pv (V.bin .add v6 (.int .i64 12)) fun v7 =>
  B.pv (V.zfs es v0 none (some v7)) fun v8 =>
  zg (zjx.l3 C es f st m Q v8) [(.int .i64 0)] h
theorem overG_specL {es f : Nat} {st : za → AVal → AVal → (za → Prop) → Prop} {m : Int} (hes : 0 < es) {v : Int → AVal} (s1 : ∀ (i : Int) (h : za) (Q : AVal → za → Prop), Q (v i) h → C f [.int .i64 m, .int .i64 i] h Q)
  (s2 : ∀ {h0 h : za} {x : AVal} {L R : List (List AVal)} {i : Nat} {k : Int} {K : za → Prop}, Owns h0 h [.sl es x L R] → i < L.length → (∀ h' L', L'.length = L.length → Owns h0 h' [.sl es x L' R] → K h') → st h (elp es x i 0) (v k) K)
  {h0 h : za} {x : AVal} {L R : List (List AVal)} {Q : AVal → za → Prop} (ho : Owns h0 h [.sl es x L R]) (hR : R.length = 12) (hlen : L.length ≤ 4611686018427387000) (hq : ∀ h', h0.le h' → Q (.tup []) h') : zjx C es f st m x h Q := by
 have hx := ho.slAt 0 rfl
 have hlx := hx.zi
 have e1 : IntKind.i64.wrap ((L.length : Int) + 12) = ((L.length + 12 : Nat) : Int) := by rw [wrap_i64 (by omega) (by omega)]; omega
 obtain ⟨z, e2, e3, e4⟩ := hx.slice hes (lo := 0) (hi := L.length + 12) (a := none) (b := some (.int .i64 ((L.length + 12 : Nat) : Int))) (.inl ⟨rfl, rfl⟩) (.inr ⟨_, rfl⟩) (by omega) (by omega)
 have h1 : ((L ++ R).take (L.length + 12)).drop 0 = L ++ R := by rw [List.drop_zero, List.take_of_length_le]; simp; omega
 rw [h1] at e3
 simp only [zjx, hlx, V.zet, e1, e2, B.zf]
 have hoz : Owns h0 h [.sl es z (L ++ R) ((L ++ R).drop (L.length + 12))] := ho.turn 0 rfl (o' := .sl es z (L ++ R) ((L ++ R).drop (L.length + 12))) e3 (fun id b hf hb => ho.zod 0 rfl id b (by show foot x = some id; rw [← e4]; exact hf) hb) (fun j b hb _ => hb) (.inl e4)
 refine zg.intro (fun n vs hh => ∃ (k : Nat) (L' : List (List AVal)), k + n = L.length + 12 ∧ vs = [.int .i64 k] ∧ L'.length = L.length + 12 ∧ Owns h0 hh [.sl es z L' ((L ++ R).drop (L.length + 12))]) (L.length + 12) ?_ ⟨0, L ++ R, by simp, by simp, by simp [hR], hoz⟩
 rintro Y n vs hh ⟨k, L', hn, rfl, hl', ho'⟩ hY
 have hlz := (ho'.slAt 0 rfl).zi
 rw [hl'] at hlz
 simp -dsimp [hlz]
 refine B.ze (fun hc => ?_) (fun hc => ?_) <;> simp -dsimp at hc ⊢
 ·have hk : k < L'.length := by omega
  refine s1 _ _ _ ?_
  simp -dsimp only [(ho'.slAt 0 rfl).idxN hk, B.zf]
  refine s2 ho' hk fun h' L2 hl2 ho2 => ?_
  simp -dsimp [zhg (n := k) (by omega)]
  exact hY (L.length + 12 - (k + 1)) _ _ (by omega) ⟨k + 1, L2, by omega, by simp, by omega, ho2⟩
 ·exact hq _ ho'.le
theorem zm4 {es f : Nat} {st : za → AVal → AVal → (za → Prop) → Prop} {m : Int} (hes : 0 < es) {v : Int → AVal} (s1 : ∀ (i : Int) (h : za) (Q : AVal → za → Prop), Q (v i) h → C f [.int .i64 m, .int .i64 i] h Q)
  (s2 : ∀ {h0 h : za} {x : AVal} {L R : List (List AVal)} {i : Nat} {k : Int} {K : za → Prop}, Owns h0 h [.sl es x L R] → i < L.length → (∀ h' L', L'.length = L.length → Owns h0 h' [.sl es x L' R] → K h') → st h (elp es x i 0) (v k) K)
  {h0 h : za} {x : AVal} {L R : List (List AVal)} {Q : AVal → za → Prop} (ho : Owns h0 h [.sl es x L R]) (hR : R.length = 12) (hlen : L.length ≤ 100000000) (hq : ∀ h', h0.le h' → Q (.tup []) h') : zjx C es f st m x h Q :=
 overG_specL hes s1 s2 ho hR (by omega) hq
theorem over_stS {v : AVal} (hv : v.zl = true) {h0 h : za} {x : AVal} {L R : List (List AVal)} {i : Nat} {K : za → Prop} (ho : Owns h0 h [.sl 1 x L R]) (hi : i < L.length) (hK : ∀ h' L', L'.length = L.length → Owns h0 h' [.sl 1 x L' R] → K h') : B.st h (elp 1 x i 0) v K := by
 refine ho.st 0 rfl (c := L[i]) (by simp [hi]) (by omega) hv fun h' ho' _ => hK h' _ (by simp) ho'
theorem over_stN {es : Nat} {xs : List AVal} (hxs : xs.length = es) {h0 h : za} {x : AVal} {L R : List (List AVal)} {i : Nat} {K : za → Prop} (ho : Owns h0 h [.sl es x L R]) (hi : i < L.length) (hK : ∀ h' L', L'.length = L.length → Owns h0 h' [.sl es x L' R] → K h') : B.stn h (elp es x i 0) es (.agg xs) K := by
 refine ho.stElem 0 rfl (c := L[i]) (by simp [hi]) hxs fun h' ho' _ => hK h' _ (by simp) ho'
def za.zox (h : za) (l : List Ob) : za := ⟨fun i => bif l.any (fun o => o.foot == some i) then none else h i, by
 obtain ⟨n, k⟩ := h.2
 refine ⟨n, fun i hi => ?_⟩
 show (bif l.any (fun o => o.foot == some i) then none else h i) = none
 cases l.any (fun o => o.foot == some i)
 ·exact k i hi
 ·rfl⟩
theorem zu2 {h : za} {l : List Ob} {i : Nat} {o : Ob} (hm : o ∈ l) (hf : o.foot = some i) : h.zox l i = none := by
 have : (l.any fun o => o.foot == some i) = true := List.any_eq_true.2 ⟨o, hm, by simp [hf]⟩
 show (bif l.any (fun o => o.foot == some i) then none else h i) = none
 rw [this]; rfl
theorem zow {h : za} {l : List Ob} {i : Nat} (hm : ∀ o ∈ l, o.foot ≠ some i) : h.zox l i = h i := by
 have : (l.any fun o => o.foot == some i) = false := by
  rw [← Bool.not_eq_true, List.any_eq_true]
  rintro ⟨o, h1, h2⟩
  exact hm o h1 (by simpa using h2)
 show (bif l.any (fun o => o.foot == some i) then none else h i) = _
 rw [this]; rfl
theorem without_le (h : za) (l : List Ob) : (h.zox l).le h := fun i b e => by
 by_cases hm : ∃ o ∈ l, o.foot = some i
 ·obtain ⟨o, h1, h2⟩ := hm
  rw [zu2 h1 h2] at e; cases e
 ·rw [zow fun o h1 h2 => hm ⟨o, h1, h2⟩] at e; exact e
theorem Owns.out {h0 h : za} {l1 l2 : List Ob} (ho : Owns h0 h (l1 ++ l2)) : Owns h0 (h.zox l2) l1 ∧ Owns (h.zox l2) h l2 := by
 obtain ⟨a1, a2, a3⟩ := List.pairwise_append.1 ho.apart
 have h1 : h0.le (h.zox l2) := fun i b e => by
  rw [zow fun o hm hf => by rw [(ho.own o (List.mem_append_right _ hm) i hf).1] at e; cases e]
  exact ho.le i b e
 have keep : ∀ o ∈ l1, ∀ id, o.foot = some id → (h.zox l2) id = h id := fun o hm id hf => zow fun o2 hm2 hf2 => a3 o hm o2 hm2 id hf hf2
 refine ⟨⟨h1, fun o hm => (ho.is o (List.mem_append_left _ hm)).keep fun id b hf hb => by rw [keep o hm id hf]; exact hb, fun o hm id hf => ?_, a1⟩,
  ⟨without_le h l2, fun o hm => ho.is o (List.mem_append_right _ hm), fun o hm id hf => ⟨zu2 hm hf, (ho.own o (List.mem_append_right _ hm) id hf).2⟩, a2⟩⟩
 obtain ⟨b1, b2⟩ := ho.own o (List.mem_append_left _ hm) id hf
 exact ⟨b1, fun b hb => b2 b (by rw [← keep o hm id hf]; exact hb)⟩
theorem Owns.perm {h0 h : za} {l l' : List Ob} (ho : Owns h0 h l) (hp : l.Perm l') : Owns h0 h l' :=
 ⟨ho.le, fun o hm => ho.is o (hp.mem_iff.2 hm), fun o hm => ho.own o (hp.mem_iff.2 hm), (hp.pairwise_iff fun {a b} hab id hb ha => hab id ha hb).1 ho.apart⟩
structure zmx where
 From : Int
 zog : Int
 deriving DecidableEq
@[simp] def zmx.cs (w : zmx) : List AVal := [.int .i64 w.From, .int .i64 w.zog]
@[simp] theorem zmx.eta (w : zmx) : zmx.mk w.From w.zog = w := rfl
structure Lot where
 Id : Int
 Item : List UInt8
 From : Int
 zog : Int
 Qty : Int
 zj7 : Bool
 deriving DecidableEq
@[simp] def Lot.cs (l : Lot) : List AVal := [.int .i64 l.Id, .str l.Item, .int .i64 l.From, .int .i64 l.zog, .int .i64 l.Qty, .bool l.zj7]
def lotF : Flat Lot where
 cs := Lot.cs
 es := 6
 sh := [.i .i64, .s, .i .i64, .i .i64, .i .i64, .b]
 len _ := rfl
 pos := by omega
 eq a b := by
  cases a; cases b
  simp
structure Use where
 Want : Int
 Lot : Int
 Qty : Int
 deriving DecidableEq
@[simp] def Use.cs (u : Use) : List AVal := [.int .i64 u.Want, .int .i64 u.Lot, .int .i64 u.Qty]
structure Want where
 Item : List UInt8
 Day : Int
 Qty : Int
 deriving DecidableEq
structure Part where
 Item : List UInt8
 Qty : Int
 deriving DecidableEq
@[simp] def Part.cs (u : Part) : List AVal := [.str u.Item, .int .i64 u.Qty]
def partF : Flat Part where
 cs := Part.cs
 es := 2
 sh := [.s, .i .i64]
 len _ := rfl
 pos := by omega
 eq a b := by
  cases a; cases b
  simp
theorem u8_eq (a b : UInt8) : decide ((a.toNat : Int) = b.toNat) = decide (a = b) := by
 rw [decide_eq_decide]
 constructor
 ·intro h; exact UInt8.toNat_inj.1 (by omega)
 ·intro h; rw [h]
structure Line where
 Id : Int
 Item : List UInt8
 Qty : Int
 zu1 : Int
 Rank : Int
 State : UInt8
 Day : Int
 Code : List UInt8
 deriving DecidableEq
@[simp] def Line.cs (u : Line) : List AVal := [.int .i64 u.Id, .str u.Item, .int .i64 u.Qty, .int .i64 u.zu1, .int .i64 u.Rank, .int .u8 (u.State.toNat : Int), .int .i64 u.Day, .str u.Code]
def lineF : Flat Line where
 cs := Line.cs
 es := 8
 sh := [.i .i64, .s, .i .i64, .i .i64, .i .i64, .i .u8, .i .i64, .s]
 len _ := rfl
 pos := by omega
 eq a b := by
  cases a; cases b
  simp [u8_eq]
def bS : Scal UInt8 where
 c b := .int .u8 b.toNat
 cell _ := rfl
 eql a b := by rw [V.zrv, u8_eq]
 neq a b := by rw [V.bin_neq, u8_eq]
abbrev bc : UInt8 → List AVal := bS.cs
def tS : Scal (List UInt8) where
 c b := .str b
 cell _ := rfl
 eql a b := by rw [V.zko]
 neq a b := by rw [V.bin_sneq]
abbrev tc : List UInt8 → List AVal := tS.cs
theorem wrap_u8 (n : Int) : IntKind.u8.wrap n = n % 256 := by
 simp [IntKind.wrap, IntKind.bits, IntKind.signed]
theorem u8_wrapN (n : Nat) : IntKind.u8.wrap (n : Int) = ((UInt8.ofNat n).toNat : Int) := by
 rw [wrap_u8]; simp
def byt (m : Int) : UInt8 := UInt8.ofNat (m % 256).toNat
theorem byt_nat (m : Int) : ((byt m).toNat : Int) = m % 256 := by
 have h1 := Int.emod_nonneg m (show (256 : Int) ≠ 0 by omega)
 have h2 := Int.emod_lt_of_pos m (show (0 : Int) < 256 by omega)
 simp [byt]
 omega
theorem zke (m : Int) : IntKind.u8.wrap m = ((byt m).toNat : Int) := by rw [wrap_u8, byt_nat]
theorem byt_congr {m n : Int} (h : m % 256 = n % 256) : byt m = byt n := by unfold byt; rw [h]
theorem zrs {k j : IntKind} {a b : Int} (h0 : 0 ≤ b) (h1 : b < k.bits) : V.bin .shr (.int k a) (.int j b) = some (.int k (a.fdiv (2 ^ b.toNat))) := by
 simp only [V.bin, V.shift]
 rw [if_neg (by omega), Nat.min_eq_left (by omega)]
theorem wrap_u64 (n : Int) : IntKind.u64.wrap n = n % 18446744073709551616 := by
 simp [IntKind.wrap, IntKind.bits, IntKind.signed]
theorem zvr : ∀ s : List UInt8, V.zkn (s.map bc).flatten = some s
 | [] => rfl
 | a :: r => by
  have := zvr r
  simp only [List.map_cons, List.flatten_cons, List.cons_append, List.nil_append] at this ⊢
  simp only [V.zkn, this]
  simp [V.byteOf?, bS]
theorem ziq {h : za} {x : AVal} {s : List UInt8} {R : List (List AVal)} (hx : SlX h 1 x (s.map bc) R) (K : AVal → Prop) : (B.zek h x K : Prop) = K (.str s) := by
 have h1 := hx.zgz
 have h2 := hx.rdv
 rw [List.length_map] at h1 h2
 simp only [B.zek, A.zek, h1, h2, zvr]
structure zf3 where
 Err : Int
 Id : Int
 Day : Int
 Code : List UInt8
 State : UInt8
 Lots : List Lot
 Uses : List Use
 deriving DecidableEq
@[simp] def zf3.cs (t : zf3) (x y : AVal) : List AVal := [.int .i64 t.Err, .int .i64 t.Id, .int .i64 t.Day, .str t.Code, .int .u8 (t.State.toNat : Int), x, y]
structure zut (h : za) (t : zf3) (x y : AVal) : Prop where
 lots : ∃ R, SlX h 6 x (t.Lots.map Lot.cs) R
 uses : ∃ R, SlX h 3 y (t.Uses.map Use.cs) R
theorem zut.mono {h H : za} {t : zf3} {x y : AVal} (ht : zut h t x y) (hle : h.le H) : zut H t x y := by
 obtain ⟨⟨R, a⟩, ⟨S, b⟩⟩ := ht
 exact ⟨⟨R, a.mono hle⟩, ⟨S, b.mono hle⟩⟩
def inI64 (n : Int) : Prop := -9223372036854775808 ≤ n ∧ n ≤ 9223372036854775807
def Lot.ok (l : Lot) : Prop := inI64 l.Id ∧ inI64 l.Qty
theorem u8_of {n : Int} (h1 : IntKind.u8.min ≤ n) (h2 : n ≤ IntKind.u8.max) : ((UInt8.ofNat n.toNat).toNat : Int) = n := by
 simp [IntKind.min, IntKind.max, IntKind.bits, IntKind.signed] at h1 h2
 simp
 omega
abbrev tyWindow : Ty := .st [.i .i64, .i .i64]
abbrev tyLot : Ty := .st [.i .i64, .s, tyWindow, .i .i64, .b]
abbrev tyPart : Ty := .st [.s, .i .i64]
abbrev tyLine : Ty := .st [.i .i64, .s, .i .i64, .i .i64, .i .i64, .i .u8, .i .i64, .s]
theorem i64_of {n : Int} (h1 : IntKind.i64.min ≤ n) (h2 : n ≤ IntKind.i64.max) : inI64 n := by
 simp [IntKind.min, IntKind.max, IntKind.bits, IntKind.signed] at h1 h2
 exact ⟨h1, h2⟩
theorem znf {T : Type} {H : za} {bytes es : Nat} {e : Ty} {v : AVal} (cs : T → List AVal) (P : T → Prop) (hd : ∀ p, zhc H e p → ∃ t, p = cs t ∧ P t) (h : zhc H (.sl bytes es e) [v]) :
  ∃ L : List T, SlIs H es v (L.map cs) ∧ L.length * bytes ≤ reach ∧ ∀ t ∈ L, P t := by
 obtain ⟨L, h1, h2⟩ := arg_slice (T := { t : T // P t }) (fun t => cs t.1) (fun p hp => by obtain ⟨t, e, k⟩ := hd p hp; exact ⟨⟨t, k⟩, e⟩) h
 refine ⟨L.map (·.1), ?_, by simpa using h2, fun t ht => ?_⟩
 ·rw [List.map_map]; exact h1
 ·obtain ⟨u, _, rfl⟩ := List.mem_map.1 ht; exact u.2
theorem dWindow {H : za} {p : List AVal} (h : zhc H tyWindow p) : ∃ w : zmx, p = w.cs := by
 obtain ⟨a, r, rfl, ⟨n, rfl, _⟩, ⟨b, r2, rfl, ⟨m, rfl, _⟩, hr⟩⟩ := h
 cases hr
 exact ⟨⟨n, m⟩, rfl⟩
def cA : Code → Code
 | .seq a _ => a
 | .cond _ a _ => a
 | .block _ b => b
 | .loop b => b
 | .scope b => b
 | _ => .skip
def cB : Code → Code
 | .seq _ b => b
 | .cond _ _ b => b
 | _ => .skip
def cI : Code → Nat
 | .block i _ => i
 | _ => 0
def isS : Code → Bool
 | .seq _ _ => true
 | _ => false
def isC (t : Nat) : Code → Bool
 | .cond (.tmp k) _ _ => Nat.beq k t
 | _ => false
def isK : Code → Bool
 | .block _ _ => true
 | _ => false
def rA : Code → Code
 | .rangeFunc _ _ a b => .seq a b
 | _ => .skip
def isR (t : Nat) (ps keep : List Nat) : Code → Bool
 | .rangeFunc (.tmp k) qs a b => Nat.beq k t && (zr7 qs.toList ps && (zlb a && keep.all fun k => memB (cutL qs.toList a b) k && !memB ps k))
 | _ => false
def isL : Code → Bool
 | .loop _ => true
 | _ => false
section
variable {P : Program} {C : CSem} {I : Bx}
theorem eS (hC : zjk C) {c : Code} {Q : Ex → z6 → za → Prop} {s : z6} {h : za} (X : z6 → za → Prop) (ha : bwp P C I (cA c) (Ex.then X Q) s h) (hb : ∀ s h, X s h → bwp P C I (cB c) Q s h) (hk : isS c = true := by kernel_rfl) : bwp P C I c Q s h := by
 cases c <;> first | exact seqB hC rfl hb ha | cases hk
theorem eC {c : Code} {Q : Ex → z6 → za → Prop} {p q : Prop} {s : z6} {h : za} (t : Nat) (hr : A.cond (s t) p q) (hx : p → bwp P C I (cA c) Q s h) (hy : q → bwp P C I (cB c) Q s h) (hk : isC t c = true := by kernel_rfl) : bwp P C I c Q s h := by
 cases c with
 | cond o x y =>
  cases o with
  | tmp k =>
   have e : k = t := Nat.eq_of_beq_eq_true hk
   subst e
   exact condB rfl hx hy hr
  | _ => cases hk
 | _ => cases hk
theorem eK {c : Code} {Q : Ex → z6 → za → Prop} {s : z6} {h : za} (hb : bwp P C I (cA c) (Ex.inBlock (cI c) Q) s h) (hk : isK c = true := by kernel_rfl) : bwp P C I c Q s h := by
 cases c <;> first | exact hb | cases hk
theorem eL (hC : zjk C) {c : Code} {Q : Ex → z6 → za → Prop} {s : z6} {h : za} (keep live : List Nat) (G : List AVal → List AVal → za → (List AVal → za → Prop) → Prop)
  (hr : zg (G (keep.map s)) (live.map s) h)
  (hG : ∀ (Y : List AVal → za → Prop) (s : z6) (h : za), G (keep.map s) (live.map s) h Y → bwp P C I (cA c) (Ex.then (fun s h => Y (live.map s) h) Q) s h)
  (hk : isL c = true := by kernel_rfl) (hw : (keep.all fun k => !memB (zhb P I (cA c)) k) = true := by kernel_rfl) : bwp P C I c Q s h := by
 cases c <;> first | exact loopB hC keep live rfl hw hG hr | cases hk
theorem rk_nil {Q : Ex → z6 → za → Prop} {s : z6} : ∀ j h, RK [] j h → Q (unj j) s h := fun _ _ x => x.elim
theorem rk_cons {Q : Ex → z6 → za → Prop} {s : z6} {k : Nat} {p : za → Prop} {r : List (Nat × (za → Prop))} (h1 : ∀ h, p h → Q (unj k) s h) (h2 : ∀ j h, RK r j h → Q (unj j) s h) : ∀ j h, RK ((k, p) :: r) j h → Q (unj j) s h := by
 rintro j h (⟨rfl, x⟩ | x)
 ·exact h1 h x
 ·exact h2 j h x
theorem e0 {q p : Prop} (hR : p) (e : q = p := by kernel_rfl) : q := e.mpr hR
theorem natsEq_eq : ∀ {a b : List Nat}, zr7 a b = true → a = b
 | [], [], _ => rfl
 | x :: a, y :: b, h => by
  simp only [zr7, Bool.and_eq_true] at h
  rw [Nat.eq_of_beq_eq_true h.1, natsEq_eq h.2]
theorem isR_spec {t : Nat} {ps keep : List Nat} {c : Code} (h : isR t ps keep c = true) : ∃ qs a b, c = .rangeFunc (.tmp t) qs a b ∧ qs.toList = ps ∧ zlb a = true ∧ ∀ k ∈ keep, memB (cutL ps a b) k = true ∧ memB ps k = false := by
 cases c <;> (try cases h)
 rename_i g qs a b
 cases g <;> (try cases h)
 rename_i k
 simp only [isR, Bool.and_eq_true, List.all_eq_true, Bool.not_eq_true'] at h
 obtain ⟨h1, h2, h3, h4⟩ := h
 have e1 := Nat.eq_of_beq_eq_true h1
 have e2 := natsEq_eq h2
 subst e1 e2
 exact ⟨qs, a, b, rfl, rfl, h3, h4⟩
theorem mem_memB : ∀ {l : List Nat} {k : Nat}, k ∈ l → memB l k = true
 | x :: r, k, h => by
  simp only [memB]
  rcases List.mem_cons.1 h with rfl | h
  ·rw [Nat.beq_refl]; rfl
  ·rw [mem_memB h]; cases Nat.beq x k <;> rfl
theorem zvg {ps keep : List Nat} {a b : Code} {s : z6} (xs : List AVal) (hk : ∀ k ∈ keep, memB (cutL ps a b) k = true ∧ memB ps k = false) : keep.map (zkv ps xs (cutS (cutL ps a b) s)) = keep.map s := by
 refine List.map_congr_left fun k hk' => ?_
 obtain ⟨h1, h2⟩ := hk k hk'
 rw [zo1 fun p hp e => by subst e; rw [mem_memB hp] at h2; cases h2]
 simp only [cutS, h1, cond_true]
theorem eR1 (hC : zjk C) {c : Code} {Q : Ex → z6 → za → Prop} {s : z6} {h : za} (t p : Nat) (keep : List Nat) (G : List AVal → AVal → za → (Nat → za → Prop) → Prop) {K : Nat → za → Prop}
  (hr : zvt C (s t) (W1 (G (keep.map s))) h K) (hK : ∀ j h, K j h → Q (unj j) s h)
  (hW : ∀ (E : Nat → za → Prop) (s : z6) (h : za), G (keep.map s) (s p) h E → bwp P C I (rA c) (fun e _ h2 => E (jn e) h2) s h)
  (hk : isR t [p] keep c = true := by kernel_rfl) : bwp P C I c Q s h := by
 obtain ⟨qs, a, b, rfl, hq, h1, h2⟩ := isR_spec hk
 refine rangeB hC rfl h1 hr hK fun xs h E w => ?_
 match xs, w with
 | [x], w =>
  refine ⟨by rw [← Array.length_toList, hq]; rfl, ?_⟩
  rw [hq]
  refine hW E _ h ?_
  rw [zvg [x] h2]
  have : zkv [p] [x] (cutS (cutL [p] a b) s) p = x := by simp only [zkv, putS, Nat.beq_refl, cond_true]
  rw [this]; exact w
theorem eR2 (hC : zjk C) {c : Code} {Q : Ex → z6 → za → Prop} {s : z6} {h : za} (t p q : Nat) (keep : List Nat) (G : List AVal → AVal → AVal → za → (Nat → za → Prop) → Prop) {K : Nat → za → Prop}
  (hr : zvt C (s t) (W2 (G (keep.map s))) h K) (hK : ∀ j h, K j h → Q (unj j) s h)
  (hW : ∀ (E : Nat → za → Prop) (s : z6) (h : za), G (keep.map s) (s p) (s q) h E → bwp P C I (rA c) (fun e _ h2 => E (jn e) h2) s h)
  (hk : (isR t [p, q] keep c && !Nat.beq p q) = true := by kernel_rfl) : bwp P C I c Q s h := by
 rw [Bool.and_eq_true, Bool.not_eq_true'] at hk
 obtain ⟨qs, a, b, rfl, hq, h1, h2⟩ := isR_spec hk.1
 refine rangeB hC rfl h1 hr hK fun xs h E w => ?_
 match xs, w with
 | [x, y], w =>
  refine ⟨by rw [← Array.length_toList, hq]; rfl, ?_⟩
  rw [hq]
  refine hW E _ h ?_
  rw [zvg [x, y] h2]
  have e1 : zkv [p, q] [x, y] (cutS (cutL [p, q] a b) s) p = x := by simp only [zkv, putS, Nat.beq_refl, hk.2, cond_true, cond_false]
  have e2 : zkv [p, q] [x, y] (cutS (cutL [p, q] a b) s) q = y := by simp only [zkv, putS, Nat.beq_refl, cond_true]
  rw [e1, e2]; exact w
theorem e1 {c : Code} {Q : Ex → z6 → za → Prop} {s : z6} {h : za} {p : Prop} (hR : p) (e : bwp P C I c Q s h = p := by kernel_rfl) : bwp P C I c Q s h := e.mpr hR
theorem eF (hm : P.follows .mixedOrders = true) {f : FuncId} {fn : Func} {c : Code} {I : Bx} {args : List AVal} {h : za} {Q : AVal → za → Prop}
  (hx : zjk (AC P) → bwp P (AC P) I c (retB P I fn.results.toList (dn Q)) (zw args) h) (hf : P.funcs[f]? = some fn := by kernel_rfl) (hb : fn.body = some c := by kernel_rfl) (h1 : (fn.name == "runtime.NumGoroutine") = false := by kernel_rfl)
  (hc : zjd fn.ntmps c = true := by kernel_rfl) (hne : Nat.beq f zoh = false := by kernel_rfl) (hl : Nat.ble args.length fn.ntmps = true := by kernel_rfl) (hB : Nat.ble args.length I.B = true := by kernel_rfl) (hk : chkC P I c = true := by kernel_rfl) : AC P f args h Q :=
 AC_drop (AC_introB hm hf hb (zot hf (by rw [hb]; rfl) h1) hc hne (Nat.le_of_ble_eq_true hl) (Nat.le_of_ble_eq_true hB) hk (hx (AC_cmono P)))
end
@[simp] def ze7.cps (C : CSem) (N : Nat → Nat) (v0 v1 : AVal) (h : za) (Q : AVal → za → Prop) : Prop :=
 B.pv (V.bin .add v0 (.int .i64 7)) fun v6 =>
  B.pv (V.bin .mul (.int .i64 1000003) v6) fun v7 =>
  B.pv (V.bin .add v7 v1) fun v9 =>
  Q v9 h
def ze7.Imp (C : CSem) (N : Nat → Nat) : Prop := ∀ (v0 v1 : AVal) (h : za) (Q : AVal → za → Prop), ze7.cps C N v0 v1 h (dn Q) → C (N 20) [v0, v1] h Q
@[simp] def zci.k3 (C : CSem) (N : Nat → Nat) (Q : AVal → za → Prop) (v0 v1 : AVal) (h : za) : Prop :=
 B.pv (V.zi v0) fun v7 =>
  B.pv (V.zi v1) fun v9 =>
  B.pv (V.bin .neq v7 v9) fun v10 =>
  B.cond v10
  (Q (.bool false) h)
  (zg (zp3.l4  Q v0 v1) [(.int .i64 0)] h)
def zci.cps (C : CSem) (N : Nat → Nat) (v0 v1 : AVal) (h : za) (Q : AVal → za → Prop) : Prop :=
 zci.k3 C N Q v0 v1 h
def zci.Imp (C : CSem) (N : Nat → Nat) : Prop := ∀ (v0 v1 : AVal) (h : za) (Q : AVal → za → Prop), zci.cps C N v0 v1 h (dn Q) → C (N 34) [v0, v1] h Q
@[simp] def zdb.k3 (C : CSem) (N : Nat → Nat) (Q : AVal → za → Prop) (v0 : AVal) (h : za) : Prop :=
 B.pv (V.zi v0) fun v6 =>
  B.pv (V.bin .add v6 (.int .i64 12)) fun v7 =>
  0 < 6 ∧ B.mks h 56 (some [.int .i64 0, .str [], .int .i64 0, .int .i64 0, .int .i64 0, .bool false]) (.int .i64 0) v7 fun v8 h =>
  B.appW h 6 56 v8 v0 fun v11 h =>
  zg (zkq.l4 C 6 56 (N 77) [.int .i64 0, .str [], .int .i64 0, .int .i64 0, .int .i64 0, .bool false] 1 Q v0) [v11, (.int .i64 0)] h
def zdb.cps (C : CSem) (N : Nat → Nat) (v0 : AVal) (h : za) (Q : AVal → za → Prop) : Prop :=
 zdb.k3 C N Q v0 h
def zdb.Imp (C : CSem) (N : Nat → Nat) : Prop := ∀ (v0 : AVal) (h : za) (Q : AVal → za → Prop), zdb.cps C N v0 h (dn Q) → C (N 48) [v0] h Q
@[simp] def zcj.k3 (C : CSem) (N : Nat → Nat) (Q : AVal → za → Prop) (v0 v1 : AVal) (h : za) : Prop :=
 B.pv (V.zi v1) fun v14 =>
  B.pv (V.bin .add v14 (.int .i64 12)) fun v15 =>
  B.pv (V.zfs 6 v0 none (some v15)) fun v16 =>
  zg (zl7.l4 C 6 (N 77) [.i .i64, .s, .i .i64, .i .i64, .i .i64, .b] 1 Q v1 v16) [(.int .i64 0)] h
@[simp] def zcj.k4 (C : CSem) (N : Nat → Nat) (Q : AVal → za → Prop) (v0 v1 : AVal) (h : za) : Prop :=
 B.pv (V.zi v0) fun v8 =>
  B.pv (V.zi v1) fun v10 =>
  B.pv (V.bin .neq v8 v10) fun v11 =>
  B.cond v11
  (Q (.bool false) h)
  (zcj.k3 C N Q v0 v1 h)
def zcj.cps (C : CSem) (N : Nat → Nat) (v0 v1 : AVal) (h : za) (Q : AVal → za → Prop) : Prop :=
 zcj.k4 C N Q v0 v1 h
def zcj.Imp (C : CSem) (N : Nat → Nat) : Prop := ∀ (v0 v1 : AVal) (h : za) (Q : AVal → za → Prop), zcj.cps C N v0 v1 h (dn Q) → C (N 54) [v0, v1] h Q
@[simp] def zdh.k3 (C : CSem) (N : Nat → Nat) (Q : AVal → za → Prop) (v0 : AVal) (h : za) : Prop :=
 B.pv (V.zi v0) fun v6 =>
  B.pv (V.bin .add v6 (.int .i64 12)) fun v7 =>
  B.pv (V.zfs 6 v0 none (some v7)) fun v8 =>
  zg (zjx.l3 C 6 (N 77) (fun h p v K => B.stn h p 6 v K) 2 Q v8) [(.int .i64 0)] h
def zdh.cps (C : CSem) (N : Nat → Nat) (v0 : AVal) (h : za) (Q : AVal → za → Prop) : Prop :=
 zdh.k3 C N Q v0 h
def zdh.Imp (C : CSem) (N : Nat → Nat) : Prop := ∀ (v0 : AVal) (h : za) (Q : AVal → za → Prop), zdh.cps C N v0 h (dn Q) → C (N 56) [v0] h Q
@[simp] def zdt.k1 (C : CSem) (N : Nat → Nat) (Q : AVal → za → Prop) (v0 : AVal) (h : za) : Prop :=
 B.nilCheck v0 fun v4 =>
  B.pv (V.fieldAddr 0 v4) fun v5 =>
  B.ld h v5 fun v6 =>
  B.call C (N 80) [v6] h fun v7 h =>
  B.gd h v7 true (fun K => K v0 h) fun v9 h =>
  B.gd h v7 true (fun K => B.nilCheck v9 fun v => K v h) fun v10 h =>
  B.gd h v7 true (fun K => B.pv (V.fieldAddr 1 v10) fun v => K v h) fun v11 h =>
  B.gd h v7 true (fun K => B.ld h v11 fun v => K v h) fun v12 h =>
  B.gd h v7 true (fun K => B.call C (N 81) [v12] h K) fun v13 h =>
  B.pick v7 v13 (.bool false) fun v14 =>
  B.gd h v14 true (fun K => K v0 h) fun v16 h =>
  B.gd h v14 true (fun K => B.nilCheck v16 fun v => K v h) fun v17 h =>
  B.gd h v14 true (fun K => B.pv (V.fieldAddr 2 v17) fun v => K v h) fun v18 h =>
  B.gd h v14 true (fun K => B.ld h v18 fun v => K v h) fun v19 h =>
  B.gd h v14 true (fun K => B.call C (N 82) [v19] h K) fun v20 h =>
  B.pick v14 v20 (.bool false) fun v21 =>
  B.gd h v21 true (fun K => K v0 h) fun v23 h =>
  B.gd h v21 true (fun K => B.nilCheck v23 fun v => K v h) fun v24 h =>
  B.gd h v21 true (fun K => B.pv (V.fieldAddr 3 v24) fun v => K v h) fun v25 h =>
  B.gd h v21 true (fun K => B.ld h v25 fun v => K v h) fun v26 h =>
  B.gd h v21 true (fun K => B.call C (N 83) [v26] h K) fun v27 h =>
  B.pick v21 v27 (.bool false) fun v28 =>
  B.gd h v28 true (fun K => K v0 h) fun v30 h =>
  B.gd h v28 true (fun K => B.nilCheck v30 fun v => K v h) fun v31 h =>
  B.gd h v28 true (fun K => B.pv (V.fieldAddr 4 v31) fun v => K v h) fun v32 h =>
  B.gd h v28 true (fun K => B.ld h v32 fun v => K v h) fun v33 h =>
  B.gd h v28 true (fun K => B.call C (N 84) [v33] h K) fun v34 h =>
  B.pick v28 v34 (.bool false) fun v35 =>
  B.gd h v35 true (fun K => K v0 h) fun v37 h =>
  B.gd h v35 true (fun K => B.nilCheck v37 fun v => K v h) fun v38 h =>
  B.gd h v35 true (fun K => B.pv (V.fieldAddr 5 v38) fun v => K v h) fun v39 h =>
  B.gd h v35 true (fun K => B.ld h v39 fun v => K v h) fun v40 h =>
  B.gd h v35 true (fun K => B.call C (N 85) [v40] h K) fun v41 h =>
  B.pick v35 v41 (.bool false) fun v42 =>
  B.gd h v42 true (fun K => K v0 h) fun v44 h =>
  B.gd h v42 true (fun K => B.nilCheck v44 fun v => K v h) fun v45 h =>
  B.gd h v42 true (fun K => B.pv (V.fieldAddr 6 v45) fun v => K v h) fun v46 h =>
  B.gd h v42 true (fun K => B.ld h v46 fun v => K v h) fun v47 h =>
  B.gd h v42 true (fun K => B.call C (N 86) [v47] h K) fun v48 h =>
  B.pick v42 v48 (.bool false) fun v49 =>
  B.gd h v49 true (fun K => K v0 h) fun v51 h =>
  B.gd h v49 true (fun K => B.nilCheck v51 fun v => K v h) fun v52 h =>
  B.gd h v49 true (fun K => B.pv (V.fieldAddr 7 v52) fun v => K v h) fun v53 h =>
  B.gd h v49 true (fun K => B.ld h v53 fun v => K v h) fun v54 h =>
  B.gd h v49 true (fun K => B.call C (N 87) [v54] h K) fun v55 h =>
  B.pick v49 v55 (.bool false) fun v56 =>
  B.gd h v56 true (fun K => K v0 h) fun v58 h =>
  B.gd h v56 true (fun K => B.nilCheck v58 fun v => K v h) fun v59 h =>
  B.gd h v56 true (fun K => B.pv (V.fieldAddr 8 v59) fun v => K v h) fun v60 h =>
  B.gd h v56 true (fun K => B.ld h v60 fun v => K v h) fun v61 h =>
  B.gd h v56 true (fun K => B.call C (N 88) [v61] h K) fun v62 h =>
  B.pick v56 v62 (.bool false) fun v63 =>
  B.gd h v63 true (fun K => K v0 h) fun v65 h =>
  B.gd h v63 true (fun K => B.nilCheck v65 fun v => K v h) fun v66 h =>
  B.gd h v63 true (fun K => B.pv (V.fieldAddr 9 v66) fun v => K v h) fun v67 h =>
  B.gd h v63 true (fun K => B.ld h v67 fun v => K v h) fun v68 h =>
  B.gd h v63 true (fun K => B.call C (N 89) [v68] h K) fun v69 h =>
  B.pick v63 v69 (.bool false) fun v70 =>
  B.gd h v70 true (fun K => K v0 h) fun v72 h =>
  B.gd h v70 true (fun K => B.nilCheck v72 fun v => K v h) fun v73 h =>
  B.gd h v70 true (fun K => B.pv (V.fieldAddr 10 v73) fun v => K v h) fun v74 h =>
  B.gd h v70 true (fun K => B.ld h v74 fun v => K v h) fun v75 h =>
  B.gd h v70 true (fun K => B.call C (N 90) [v75] h K) fun v76 h =>
  B.pick v70 v76 (.bool false) fun v77 =>
  B.gd h v77 true (fun K => K v0 h) fun v79 h =>
  B.gd h v77 true (fun K => B.nilCheck v79 fun v => K v h) fun v80 h =>
  B.gd h v77 true (fun K => B.pv (V.fieldAddr 11 v80) fun v => K v h) fun v81 h =>
  B.gd h v77 true (fun K => B.ld h v81 fun v => K v h) fun v82 h =>
  B.gd h v77 true (fun K => B.call C (N 91) [v82] h K) fun v83 h =>
  B.pick v77 v83 (.bool false) fun v84 =>
  B.gd h v84 true (fun K => K v0 h) fun v86 h =>
  B.gd h v84 true (fun K => B.nilCheck v86 fun v => K v h) fun v87 h =>
  B.gd h v84 true (fun K => B.pv (V.fieldAddr 12 v87) fun v => K v h) fun v88 h =>
  B.gd h v84 true (fun K => B.ld h v88 fun v => K v h) fun v89 h =>
  B.gd h v84 true (fun K => B.call C (N 92) [v89] h K) fun v90 h =>
  B.pick v84 v90 (.bool false) fun v91 =>
  B.gd h v91 true (fun K => K v0 h) fun v93 h =>
  B.gd h v91 true (fun K => B.nilCheck v93 fun v => K v h) fun v94 h =>
  B.gd h v91 true (fun K => B.pv (V.fieldAddr 13 v94) fun v => K v h) fun v95 h =>
  B.gd h v91 true (fun K => B.ld h v95 fun v => K v h) fun v96 h =>
  B.gd h v91 true (fun K => B.call C (N 93) [v96] h K) fun v97 h =>
  B.pick v91 v97 (.bool false) fun v98 =>
  B.gd h v98 true (fun K => K v0 h) fun v100 h =>
  B.gd h v98 true (fun K => B.nilCheck v100 fun v => K v h) fun v101 h =>
  B.gd h v98 true (fun K => B.pv (V.fieldAddr 14 v101) fun v => K v h) fun v102 h =>
  B.gd h v98 true (fun K => B.ld h v102 fun v => K v h) fun v103 h =>
  B.gd h v98 true (fun K => B.call C (N 94) [v103] h K) fun v104 h =>
  B.pick v98 v104 (.bool false) fun v105 =>
  B.gd h v105 true (fun K => K v0 h) fun v107 h =>
  B.gd h v105 true (fun K => B.nilCheck v107 fun v => K v h) fun v108 h =>
  B.gd h v105 true (fun K => B.pv (V.fieldAddr 15 v108) fun v => K v h) fun v109 h =>
  B.gd h v105 true (fun K => B.ld h v109 fun v => K v h) fun v110 h =>
  B.gd h v105 true (fun K => B.call C (N 95) [v110] h K) fun v111 h =>
  B.pick v105 v111 (.bool false) fun v112 =>
  B.gd h v112 true (fun K => K v0 h) fun v114 h =>
  B.gd h v112 true (fun K => B.nilCheck v114 fun v => K v h) fun v115 h =>
  B.gd h v112 true (fun K => B.pv (V.fieldAddr 16 v115) fun v => K v h) fun v116 h =>
  B.gd h v112 true (fun K => B.ld h v116 fun v => K v h) fun v117 h =>
  B.gd h v112 true (fun K => B.call C (N 96) [v117] h K) fun v118 h =>
  B.pick v112 v118 (.bool false) fun v119 =>
  B.gd h v119 true (fun K => K v0 h) fun v121 h =>
  B.gd h v119 true (fun K => B.nilCheck v121 fun v => K v h) fun v122 h =>
  B.gd h v119 true (fun K => B.pv (V.fieldAddr 17 v122) fun v => K v h) fun v123 h =>
  B.gd h v119 true (fun K => B.ld h v123 fun v => K v h) fun v124 h =>
  B.gd h v119 true (fun K => B.call C (N 97) [v124] h K) fun v125 h =>
  B.pick v119 v125 (.bool false) fun v126 =>
  B.gd h v126 true (fun K => K v0 h) fun v128 h =>
  B.gd h v126 true (fun K => B.nilCheck v128 fun v => K v h) fun v129 h =>
  B.gd h v126 true (fun K => B.pv (V.fieldAddr 18 v129) fun v => K v h) fun v130 h =>
  B.gd h v126 true (fun K => B.ld h v130 fun v => K v h) fun v131 h =>
  B.gd h v126 true (fun K => B.call C (N 98) [v131] h K) fun v132 h =>
  B.pick v126 v132 (.bool false) fun v133 =>
  B.gd h v133 true (fun K => K v0 h) fun v135 h =>
  B.gd h v133 true (fun K => B.nilCheck v135 fun v => K v h) fun v136 h =>
  B.gd h v133 true (fun K => B.pv (V.fieldAddr 19 v136) fun v => K v h) fun v137 h =>
  B.gd h v133 true (fun K => B.ld h v137 fun v => K v h) fun v138 h =>
  B.gd h v133 true (fun K => B.call C (N 99) [v138] h K) fun v139 h =>
  B.pick v133 v139 (.bool false) fun v140 =>
  B.gd h v140 true (fun K => K v0 h) fun v142 h =>
  B.gd h v140 true (fun K => B.nilCheck v142 fun v => K v h) fun v143 h =>
  B.gd h v140 true (fun K => B.pv (V.fieldAddr 20 v143) fun v => K v h) fun v144 h =>
  B.gd h v140 true (fun K => B.ld h v144 fun v => K v h) fun v145 h =>
  B.gd h v140 true (fun K => B.call C (N 100) [v145] h K) fun v146 h =>
  B.pick v140 v146 (.bool false) fun v147 =>
  B.gd h v147 true (fun K => K v0 h) fun v149 h =>
  B.gd h v147 true (fun K => B.nilCheck v149 fun v => K v h) fun v150 h =>
  B.gd h v147 true (fun K => B.pv (V.fieldAddr 21 v150) fun v => K v h) fun v151 h =>
  B.gd h v147 true (fun K => B.ld h v151 fun v => K v h) fun v152 h =>
  B.gd h v147 true (fun K => B.call C (N 101) [v152] h K) fun v153 h =>
  B.pick v147 v153 (.bool false) fun v154 =>
  B.gd h v154 true (fun K => K v0 h) fun v156 h =>
  B.gd h v154 true (fun K => B.nilCheck v156 fun v => K v h) fun v157 h =>
  B.gd h v154 true (fun K => B.pv (V.fieldAddr 22 v157) fun v => K v h) fun v158 h =>
  B.gd h v154 true (fun K => B.ld h v158 fun v => K v h) fun v159 h =>
  B.gd h v154 true (fun K => B.call C (N 102) [v159] h K) fun v160 h =>
  B.pick v154 v160 (.bool false) fun v161 =>
  Q v161 h
@[simp] def zdt.cps (C : CSem) (N : Nat → Nat) (v0 : AVal) (h : za) (Q : AVal → za → Prop) : Prop :=
 zdt.k1 C N Q v0 h
def zdt.Imp (C : CSem) (N : Nat → Nat) : Prop := ∀ (v0 : AVal) (h : za) (Q : AVal → za → Prop), zdt.cps C N v0 h (dn Q) → C (N 62) [v0] h Q
@[simp] def zcs.k1 (C : CSem) (N : Nat → Nat) (Q : AVal → za → Prop) (v0 v1 : AVal) (h : za) : Prop :=
 B.nilCheck v0 fun v6 =>
  B.pv (V.fieldAddr 4 v6) fun v7 =>
  B.ld h v7 fun v8 =>
  B.newO h (zc7 [(0, none, v1)] (repL 1 [.nils])) fun i10 h =>
  B.appW h 1 24 v8 (.sl i10 0 0 1 1 1) fun v11 h =>
  B.nilCheck v0 fun v12 =>
  B.pv (V.fieldAddr 4 v12) fun v13 =>
  B.st h v13 v11 fun h =>
  Q (.tup []) h
@[simp] def zcs.cps (C : CSem) (N : Nat → Nat) (v0 v1 : AVal) (h : za) (Q : AVal → za → Prop) : Prop :=
 zcs.k1 C N Q v0 v1 h
def zcs.Imp (C : CSem) (N : Nat → Nat) : Prop := ∀ (v0 v1 : AVal) (h : za) (Q : AVal → za → Prop), zcs.cps C N v0 v1 h (dn Q) → C (N 63) [v0, v1] h Q
@[simp] def zc9.k1 (C : CSem) (N : Nat → Nat) (Q : AVal → za → Prop) (v0 v1 : AVal) (h : za) : Prop :=
 B.call C (N 20) [v0, v1] h fun v7 h =>
  B.pv (V.toInt .u64 v7) fun v8 =>
  B.pv (V.bin .mul v8 (.int .u64 11400714819323198485)) fun v9 =>
  B.pv (V.bin .shr v9 (.int .u64 56)) fun v10 =>
  B.pv (V.toInt .u8 v10) fun v11 =>
  Q v11 h
@[simp] def zc9.cps (C : CSem) (N : Nat → Nat) (v0 v1 : AVal) (h : za) (Q : AVal → za → Prop) : Prop :=
 zc9.k1 C N Q v0 v1 h
def zc9.Imp (C : CSem) (N : Nat → Nat) : Prop := ∀ (v0 v1 : AVal) (h : za) (Q : AVal → za → Prop), zc9.cps C N v0 v1 h (dn Q) → C (N 64) [v0, v1] h Q
@[simp] def zda.k3 (C : CSem) (N : Nat → Nat) (Q : AVal → za → Prop) (v0 v1 : AVal) (h : za) : Prop :=
 B.pv (V.zi v0) fun v7 =>
  B.pv (V.zi v1) fun v9 =>
  B.pv (V.bin .neq v7 v9) fun v10 =>
  B.cond v10
  (Q (.bool false) h)
  (zg (zlx.l4 6 [.i .i64, .s, .i .i64, .i .i64, .i .i64, .b] Q v0 v1) [(.int .i64 0)] h)
def zda.cps (C : CSem) (N : Nat → Nat) (v0 v1 : AVal) (h : za) (Q : AVal → za → Prop) : Prop :=
 zda.k3 C N Q v0 v1 h
def zda.Imp (C : CSem) (N : Nat → Nat) : Prop := ∀ (v0 v1 : AVal) (h : za) (Q : AVal → za → Prop), zda.cps C N v0 v1 h (dn Q) → C (N 74) [v0, v1] h Q
@[simp] def zdn.k1 (C : CSem) (N : Nat → Nat) (Q : AVal → za → Prop) (v0 v1 : AVal) (h : za) : Prop :=
 B.call C (N 20) [v0, v1] h fun v7 h =>
  B.pv (A.bld [(0, none, v7)] [.int .i64 0, .str [], .int .i64 0, .int .i64 0, .int .i64 0, .bool false]) fun v8 =>
  B.pv (V.setN 0 6 v8 (.agg [.int .i64 0, .str [], .int .i64 0, .int .i64 0, .int .i64 0, .bool false])) fun c4 =>
  B.pv (oneOf (zfq (V.zb4 0 6 c4) (some []))) fun v => Q v h
@[simp] def zdn.cps (C : CSem) (N : Nat → Nat) (v0 v1 : AVal) (h : za) (Q : AVal → za → Prop) : Prop :=
 zdn.k1 C N Q v0 v1 h
def zdn.Imp (C : CSem) (N : Nat → Nat) : Prop := ∀ (v0 v1 : AVal) (h : za) (Q : AVal → za → Prop), zdn.cps C N v0 v1 h (dn Q) → C (N 77) [v0, v1] h Q
def zei.cps (C : CSem) (N : Nat → Nat) (v0 : AVal) (h : za) (Q : AVal → za → Prop) : Prop :=
 zg (zcf.l103 (opsS 1 (.int .u8 0) (N 64)) C Q v0) [(.int .i64 0)] h
def zei.Imp (C : CSem) (N : Nat → Nat) : Prop := ∀ (v0 : AVal) (h : za) (Q : AVal → za → Prop), zei.cps C N v0 h (dn Q) → C (N 84) [v0] h Q
def zt.cps (C : CSem) (N : Nat → Nat) (v0 : AVal) (h : za) (Q : AVal → za → Prop) : Prop :=
 zg (zcf.l103 (opsD C 2 48 [.nils, .nils] (N 117) (N 118)) C Q v0) [(.int .i64 0)] h
def zt.Imp (C : CSem) (N : Nat → Nat) : Prop := ∀ (v0 : AVal) (h : za) (Q : AVal → za → Prop), zt.cps C N v0 h (dn Q) → C (N 95) [v0] h Q
@[simp] def zc1.k1 (C : CSem) (N : Nat → Nat) (Q : AVal → za → Prop) (v0 v1 : AVal) (h : za) : Prop :=
 B.pv (V.toInt .u8 v0) fun v6 =>
  B.pv (V.bin .shr v0 (.int .u64 8)) fun v8 =>
  B.pv (V.toInt .u8 v8) fun v9 =>
  B.pv (V.bin .shr v0 (.int .u64 16)) fun v11 =>
  B.pv (V.toInt .u8 v11) fun v12 =>
  B.pv (V.toInt .u8 v1) fun v14 =>
  B.pv (V.bin .shr v1 (.int .u64 8)) fun v16 =>
  B.pv (V.toInt .u8 v16) fun v17 =>
  B.pv (V.bin .shr v1 (.int .u64 16)) fun v19 =>
  B.pv (V.toInt .u8 v19) fun v20 =>
  B.newO h (zc7 [(0, none, (.int .u8 35)), (1, none, v6), (2, none, v9), (3, none, v12), (4, none, (.int .u8 47)), (5, none, v14), (6, none, v17), (7, none, v20)] (repL 8 [.int .u8 0])) fun i21 h =>
  B.zek h (.sl i21 0 0 8 1 8) fun v22 =>
  Q v22 h
@[simp] def zc1.cps (C : CSem) (N : Nat → Nat) (v0 v1 : AVal) (h : za) (Q : AVal → za → Prop) : Prop :=
 zc1.k1 C N Q v0 v1 h
def zc1.Imp (C : CSem) (N : Nat → Nat) : Prop := ∀ (v0 v1 : AVal) (h : za) (Q : AVal → za → Prop), zc1.cps C N v0 v1 h (dn Q) → C (N 106) [v0, v1] h Q
@[simp] def zc2.k1 (C : CSem) (N : Nat → Nat) (Q : AVal → za → Prop) (v0 v1 : AVal) (h : za) : Prop :=
 B.call C (N 20) [v0, v1] h fun v7 h =>
  B.pv (A.bld [(1, none, v7)] [.str [], .int .i64 0]) fun v8 =>
  B.pv (V.setN 0 2 v8 (.agg [.str [], .int .i64 0])) fun c4 =>
  B.pv (oneOf (zfq (V.zb4 0 2 c4) (some []))) fun v => Q v h
@[simp] def zc2.cps (C : CSem) (N : Nat → Nat) (v0 v1 : AVal) (h : za) (Q : AVal → za → Prop) : Prop :=
 zc2.k1 C N Q v0 v1 h
def zc2.Imp (C : CSem) (N : Nat → Nat) : Prop := ∀ (v0 v1 : AVal) (h : za) (Q : AVal → za → Prop), zc2.cps C N v0 v1 h (dn Q) → C (N 108) [v0, v1] h Q
@[simp] def zc4.k1 (C : CSem) (N : Nat → Nat) (Q : AVal → za → Prop) (v0 v1 : AVal) (h : za) : Prop :=
 B.call C (N 20) [v0, v1] h fun v7 h =>
  B.pv (A.bld [(1, none, v7)] [.str [], .int .i64 0, .nils, .nils]) fun v8 =>
  B.pv (V.setN 0 4 v8 (.agg [.str [], .int .i64 0, .nils, .nils])) fun c4 =>
  B.pv (oneOf (zfq (V.zb4 0 4 c4) (some []))) fun v => Q v h
@[simp] def zc4.cps (C : CSem) (N : Nat → Nat) (v0 v1 : AVal) (h : za) (Q : AVal → za → Prop) : Prop :=
 zc4.k1 C N Q v0 v1 h
def zc4.Imp (C : CSem) (N : Nat → Nat) : Prop := ∀ (v0 v1 : AVal) (h : za) (Q : AVal → za → Prop), zc4.cps C N v0 v1 h (dn Q) → C (N 109) [v0, v1] h Q
@[simp] def zc5.k1 (C : CSem) (N : Nat → Nat) (Q : AVal → za → Prop) (v0 v1 : AVal) (h : za) : Prop :=
 B.pv (A.boxN 4 v0) fun c2 =>
  B.pv (A.boxN 4 v1) fun c3 =>
  B.al c2 (B.pv (V.zd 0 c2) fun v6 =>
  B.al c3 (B.pv (V.zd 0 c3) fun v8 =>
  B.pv (V.bin .eql v6 v8) fun v9 =>
  B.al c2 (B.gd h v9 true (fun K => K .undef h) fun _ h =>
  B.gd h v9 true (fun K => B.pv (V.zd 1 c2) fun v => K v h) fun v12 h =>
  B.al c3 (B.gd h v9 true (fun K => K .undef h) fun _ h =>
  B.gd h v9 true (fun K => B.pv (V.zd 1 c3) fun v => K v h) fun v14 h =>
  B.gd h v9 true (fun K => B.pv (V.bin .eql v12 v14) fun v => K v h) fun v15 h =>
  B.pick v9 v15 (.bool false) fun v16 =>
  B.al c2 (B.gd h v16 true (fun K => K .undef h) fun _ h =>
  B.gd h v16 true (fun K => B.pv (V.zd 2 c2) fun v => K v h) fun v19 h =>
  B.al c3 (B.gd h v16 true (fun K => K .undef h) fun _ h =>
  B.gd h v16 true (fun K => B.pv (V.zd 2 c3) fun v => K v h) fun v21 h =>
  B.gd h v16 true (fun K => B.call C (N 132) [v19, v21] h K) fun v22 h =>
  B.pick v16 v22 (.bool false) fun v23 =>
  B.al c2 (B.gd h v23 true (fun K => K .undef h) fun _ h =>
  B.gd h v23 true (fun K => B.pv (V.zd 3 c2) fun v => K v h) fun v26 h =>
  B.al c3 (B.gd h v23 true (fun K => K .undef h) fun _ h =>
  B.gd h v23 true (fun K => B.pv (V.zd 3 c3) fun v => K v h) fun v28 h =>
  B.gd h v23 true (fun K => B.call C (N 133) [v26, v28] h K) fun v29 h =>
  B.pick v23 v29 (.bool false) fun v30 =>
  Q v30 h))))))))
@[simp] def zc5.cps (C : CSem) (N : Nat → Nat) (v0 v1 : AVal) (h : za) (Q : AVal → za → Prop) : Prop :=
 zc5.k1 C N Q v0 v1 h
def zc5.Imp (C : CSem) (N : Nat → Nat) : Prop := ∀ (v0 v1 : AVal) (h : za) (Q : AVal → za → Prop), zc5.cps C N v0 v1 h (dn Q) → C (N 110) [v0, v1] h Q
@[simp] def zc3.k1 (C : CSem) (N : Nat → Nat) (Q : AVal → za → Prop) (v0 v1 : AVal) (h : za) : Prop :=
 B.call C (N 20) [v0, v1] h fun v7 h =>
  B.pv (A.bld [(0, none, v7)] [.int .i64 0, .str [], .int .i64 0, .int .i64 0, .int .i64 0, .int .u8 0, .int .i64 0, .str []]) fun v8 =>
  B.pv (V.setN 0 8 v8 (.agg [.int .i64 0, .str [], .int .i64 0, .int .i64 0, .int .i64 0, .int .u8 0, .int .i64 0, .str []])) fun c4 =>
  B.pv (oneOf (zfq (V.zb4 0 8 c4) (some []))) fun v => Q v h
@[simp] def zc3.cps (C : CSem) (N : Nat → Nat) (v0 v1 : AVal) (h : za) (Q : AVal → za → Prop) : Prop :=
 zc3.k1 C N Q v0 v1 h
def zc3.Imp (C : CSem) (N : Nat → Nat) : Prop := ∀ (v0 v1 : AVal) (h : za) (Q : AVal → za → Prop), zc3.cps C N v0 v1 h (dn Q) → C (N 111) [v0, v1] h Q
@[simp] def zcm.k1 (C : CSem) (N : Nat → Nat) (Q : AVal → za → Prop) (v0 v1 : AVal) (h : za) : Prop :=
 B.pv (A.boxN 6 v0) fun c2 =>
  B.pv (A.boxN 6 v1) fun c3 =>
  B.al c2 (B.pv (V.zd 0 c2) fun v6 =>
  B.al c3 (B.pv (V.zd 0 c3) fun v8 =>
  B.pv (V.bin .eql v6 v8) fun v9 =>
  B.al c2 (B.gd h v9 true (fun K => K .undef h) fun _ h =>
  B.gd h v9 true (fun K => B.pv (V.zd 1 c2) fun v => K v h) fun v12 h =>
  B.al c3 (B.gd h v9 true (fun K => K .undef h) fun _ h =>
  B.gd h v9 true (fun K => B.pv (V.zd 1 c3) fun v => K v h) fun v14 h =>
  B.gd h v9 true (fun K => B.pv (V.bin .eql v12 v14) fun v => K v h) fun v15 h =>
  B.pick v9 v15 (.bool false) fun v16 =>
  B.al c2 (B.gd h v16 true (fun K => K .undef h) fun _ h =>
  B.gd h v16 true (fun K => B.pv (V.zd 2 c2) fun v => K v h) fun v19 h =>
  B.al c3 (B.gd h v16 true (fun K => K .undef h) fun _ h =>
  B.gd h v16 true (fun K => B.pv (V.zd 2 c3) fun v => K v h) fun v21 h =>
  B.gd h v16 true (fun K => B.pv (V.bin .eql v19 v21) fun v => K v h) fun v22 h =>
  B.pick v16 v22 (.bool false) fun v23 =>
  B.al c2 (B.gd h v23 true (fun K => K .undef h) fun _ h =>
  B.gd h v23 true (fun K => B.pv (V.zd 3 c2) fun v => K v h) fun v26 h =>
  B.al c3 (B.gd h v23 true (fun K => K .undef h) fun _ h =>
  B.gd h v23 true (fun K => B.pv (V.zd 3 c3) fun v => K v h) fun v28 h =>
  B.gd h v23 true (fun K => B.call C (N 134) [v26, v28] h K) fun v29 h =>
  B.pick v23 v29 (.bool false) fun v30 =>
  B.al c2 (B.gd h v30 true (fun K => K .undef h) fun _ h =>
  B.gd h v30 true (fun K => B.pv (V.zd 4 c2) fun v => K v h) fun v33 h =>
  B.al c3 (B.gd h v30 true (fun K => K .undef h) fun _ h =>
  B.gd h v30 true (fun K => B.pv (V.zd 4 c3) fun v => K v h) fun v35 h =>
  B.gd h v30 true (fun K => B.call C (N 74) [v33, v35] h K) fun v36 h =>
  B.pick v30 v36 (.bool false) fun v37 =>
  B.al c2 (B.gd h v37 true (fun K => K .undef h) fun _ h =>
  B.gd h v37 true (fun K => B.pv (V.zd 5 c2) fun v => K v h) fun v40 h =>
  B.al c3 (B.gd h v37 true (fun K => K .undef h) fun _ h =>
  B.gd h v37 true (fun K => B.pv (V.zd 5 c3) fun v => K v h) fun v42 h =>
  B.gd h v37 true (fun K => B.call C (N 135) [v40, v42] h K) fun v43 h =>
  B.pick v37 v43 (.bool false) fun v44 =>
  Q v44 h))))))))))))
@[simp] def zcm.cps (C : CSem) (N : Nat → Nat) (v0 v1 : AVal) (h : za) (Q : AVal → za → Prop) : Prop :=
 zcm.k1 C N Q v0 v1 h
def zcm.Imp (C : CSem) (N : Nat → Nat) : Prop := ∀ (v0 v1 : AVal) (h : za) (Q : AVal → za → Prop), zcm.cps C N v0 v1 h (dn Q) → C (N 116) [v0, v1] h Q
@[simp] def zd5.k1 (C : CSem) (N : Nat → Nat) (Q : AVal → za → Prop) (v0 v1 : AVal) (h : za) : Prop :=
 B.call C (N 64) [v0, v1] h fun v7 h =>
  B.newO h (zc7 [(0, none, v7)] (repL 1 [.int .u8 0])) fun i8 h =>
  B.pv (A.bld [(0, none, (.sl i8 0 0 1 1 1))] [.nils, .nils]) fun v9 =>
  B.pv (V.setN 0 2 v9 (.agg [.nils, .nils])) fun c4 =>
  B.pv (oneOf (zfq (V.zb4 0 2 c4) (some []))) fun v => Q v h
@[simp] def zd5.cps (C : CSem) (N : Nat → Nat) (v0 v1 : AVal) (h : za) (Q : AVal → za → Prop) : Prop :=
 zd5.k1 C N Q v0 v1 h
def zd5.Imp (C : CSem) (N : Nat → Nat) : Prop := ∀ (v0 v1 : AVal) (h : za) (Q : AVal → za → Prop), zd5.cps C N v0 v1 h (dn Q) → C (N 117) [v0, v1] h Q
@[simp] def zdw.k1 (C : CSem) (N : Nat → Nat) (Q : AVal → za → Prop) (v0 v1 : AVal) (h : za) : Prop :=
 B.pv (A.boxN 2 v0) fun c2 =>
  B.pv (A.boxN 2 v1) fun c3 =>
  B.al c2 (B.pv (V.zd 0 c2) fun v6 =>
  B.al c3 (B.pv (V.zd 0 c3) fun v8 =>
  B.call C (N 34) [v6, v8] h fun v9 h =>
  B.al c2 (B.gd h v9 true (fun K => K .undef h) fun _ h =>
  B.gd h v9 true (fun K => B.pv (V.zd 1 c2) fun v => K v h) fun v12 h =>
  B.al c3 (B.gd h v9 true (fun K => K .undef h) fun _ h =>
  B.gd h v9 true (fun K => B.pv (V.zd 1 c3) fun v => K v h) fun v14 h =>
  B.gd h v9 true (fun K => B.call C (N 34) [v12, v14] h K) fun v15 h =>
  B.pick v9 v15 (.bool false) fun v16 =>
  Q v16 h))))
@[simp] def zdw.cps (C : CSem) (N : Nat → Nat) (v0 v1 : AVal) (h : za) (Q : AVal → za → Prop) : Prop :=
 zdw.k1 C N Q v0 v1 h
def zdw.Imp (C : CSem) (N : Nat → Nat) : Prop := ∀ (v0 v1 : AVal) (h : za) (Q : AVal → za → Prop), zdw.cps C N v0 v1 h (dn Q) → C (N 118) [v0, v1] h Q
@[simp] def zcn.k3 (C : CSem) (N : Nat → Nat) (Q : AVal → za → Prop) (v0 v1 : AVal) (h : za) : Prop :=
 B.pv (V.zi v0) fun v7 =>
  B.pv (V.zi v1) fun v9 =>
  B.pv (V.bin .neq v7 v9) fun v10 =>
  B.cond v10
  (Q (.bool false) h)
  (zg (zlx.l4 2 [.s, .i .i64] Q v0 v1) [(.int .i64 0)] h)
def zcn.cps (C : CSem) (N : Nat → Nat) (v0 v1 : AVal) (h : za) (Q : AVal → za → Prop) : Prop :=
 zcn.k3 C N Q v0 v1 h
def zcn.Imp (C : CSem) (N : Nat → Nat) : Prop := ∀ (v0 v1 : AVal) (h : za) (Q : AVal → za → Prop), zcn.cps C N v0 v1 h (dn Q) → C (N 132) [v0, v1] h Q
@[simp] def zcl.k3 (C : CSem) (N : Nat → Nat) (Q : AVal → za → Prop) (v0 v1 : AVal) (h : za) : Prop :=
 B.pv (V.zi v0) fun v7 =>
  B.pv (V.zi v1) fun v9 =>
  B.pv (V.bin .neq v7 v9) fun v10 =>
  B.cond v10
  (Q (.bool false) h)
  (zg (zp3.l4  Q v0 v1) [(.int .i64 0)] h)
def zcl.cps (C : CSem) (N : Nat → Nat) (v0 v1 : AVal) (h : za) (Q : AVal → za → Prop) : Prop :=
 zcl.k3 C N Q v0 v1 h
def zcl.Imp (C : CSem) (N : Nat → Nat) : Prop := ∀ (v0 v1 : AVal) (h : za) (Q : AVal → za → Prop), zcl.cps C N v0 v1 h (dn Q) → C (N 133) [v0, v1] h Q
@[simp] def zbq.k1 (C : CSem) (N : Nat → Nat) (Q : AVal → za → Prop) (Y1 : List AVal → za → Prop) (v0 v1 v5 : AVal) (h : za) : Prop :=
 B.pv (V.zi v0) fun v13 =>
  B.pv (V.bin .lss v5 v13) fun v14 =>
  B.cond v14
  (B.pv (V.idxS 4 v0 v5) fun v19 =>
  B.ldn h v19 4 fun v20 =>
  B.pv (V.idxS 4 v1 v5) fun v23 =>
  B.ldn h v23 4 fun v24 =>
  B.call C (N 110) [v20, v24] h fun v25 h =>
  B.pv (V.un .not v25) fun v26 =>
  B.cond v26
  (Q (.bool false) h)
  (B.pv (V.bin .add v5 (.int .i64 1)) fun v16 =>
  Y1 [v16] h))
  (Q (.bool true) h)
@[simp] def zbq.l2 (C : CSem) (N : Nat → Nat) (Q : AVal → za → Prop) (v0 v1 : AVal) : List AVal → za → (List AVal → za → Prop) → Prop
 | [v5], h, Y1 => zbq.k1 C N Q Y1 v0 v1 v5 h
 | _, _, _ => False
@[simp] def zbq.k3 (C : CSem) (N : Nat → Nat) (Q : AVal → za → Prop) (v0 v1 : AVal) (h : za) : Prop :=
 B.pv (V.zi v0) fun v7 =>
  B.pv (V.zi v1) fun v9 =>
  B.pv (V.bin .neq v7 v9) fun v10 =>
  B.cond v10
  (Q (.bool false) h)
  (zg (zbq.l2 C N Q v0 v1) [(.int .i64 0)] h)
@[simp] def zbq.cps (C : CSem) (N : Nat → Nat) (v0 v1 : AVal) (h : za) (Q : AVal → za → Prop) : Prop :=
 zbq.k3 C N Q v0 v1 h
def zbq.Imp (C : CSem) (N : Nat → Nat) : Prop := ∀ (v0 v1 : AVal) (h : za) (Q : AVal → za → Prop), zbq.cps C N v0 v1 h (dn Q) → C (N 134) [v0, v1] h Q
@[simp] def zco.k3 (C : CSem) (N : Nat → Nat) (Q : AVal → za → Prop) (v0 v1 : AVal) (h : za) : Prop :=
 B.pv (V.zi v0) fun v7 =>
  B.pv (V.zi v1) fun v9 =>
  B.pv (V.bin .neq v7 v9) fun v10 =>
  B.cond v10
  (Q (.bool false) h)
  (zg (zlx.l4 8 [.i .i64, .s, .i .i64, .i .i64, .i .i64, .i .u8, .i .i64, .s] Q v0 v1) [(.int .i64 0)] h)
def zco.cps (C : CSem) (N : Nat → Nat) (v0 v1 : AVal) (h : za) (Q : AVal → za → Prop) : Prop :=
 zco.k3 C N Q v0 v1 h
def zco.Imp (C : CSem) (N : Nat → Nat) : Prop := ∀ (v0 v1 : AVal) (h : za) (Q : AVal → za → Prop), zco.cps C N v0 v1 h (dn Q) → C (N 135) [v0, v1] h Q
@[simp] def zcr.k3 (C : CSem) (N : Nat → Nat) (Q : AVal → za → Prop) (v0 : AVal) (h : za) : Prop :=
 B.pv (V.zi v0) fun v6 =>
  B.pv (V.bin .add v6 (.int .i64 12)) fun v7 =>
  0 < 8 ∧ B.mks h 80 (some [.int .i64 0, .str [], .int .i64 0, .int .i64 0, .int .i64 0, .int .u8 0, .int .i64 0, .str []]) (.int .i64 0) v7 fun v8 h =>
  B.appW h 8 80 v8 v0 fun v11 h =>
  zg (zkq.l4 C 8 80 (N 111) [.int .i64 0, .str [], .int .i64 0, .int .i64 0, .int .i64 0, .int .u8 0, .int .i64 0, .str []] 1 Q v0) [v11, (.int .i64 0)] h
def zcr.cps (C : CSem) (N : Nat → Nat) (v0 : AVal) (h : za) (Q : AVal → za → Prop) : Prop :=
 zcr.k3 C N Q v0 h
def zcr.Imp (C : CSem) (N : Nat → Nat) : Prop := ∀ (v0 : AVal) (h : za) (Q : AVal → za → Prop), zcr.cps C N v0 h (dn Q) → C (N 186) [v0] h Q
@[simp] def zcb.k3 (C : CSem) (N : Nat → Nat) (Q : AVal → za → Prop) (v0 v1 : AVal) (h : za) : Prop :=
 B.pv (V.zi v1) fun v14 =>
  B.pv (V.bin .add v14 (.int .i64 12)) fun v15 =>
  B.pv (V.zfs 8 v0 none (some v15)) fun v16 =>
  zg (zl7.l4 C 8 (N 111) [.i .i64, .s, .i .i64, .i .i64, .i .i64, .i .u8, .i .i64, .s] 1 Q v1 v16) [(.int .i64 0)] h
@[simp] def zcb.k4 (C : CSem) (N : Nat → Nat) (Q : AVal → za → Prop) (v0 v1 : AVal) (h : za) : Prop :=
 B.pv (V.zi v0) fun v8 =>
  B.pv (V.zi v1) fun v10 =>
  B.pv (V.bin .neq v8 v10) fun v11 =>
  B.cond v11
  (Q (.bool false) h)
  (zcb.k3 C N Q v0 v1 h)
def zcb.cps (C : CSem) (N : Nat → Nat) (v0 v1 : AVal) (h : za) (Q : AVal → za → Prop) : Prop :=
 zcb.k4 C N Q v0 v1 h
def zcb.Imp (C : CSem) (N : Nat → Nat) : Prop := ∀ (v0 v1 : AVal) (h : za) (Q : AVal → za → Prop), zcb.cps C N v0 v1 h (dn Q) → C (N 189) [v0, v1] h Q
@[simp] def zcy.k3 (C : CSem) (N : Nat → Nat) (Q : AVal → za → Prop) (v0 : AVal) (h : za) : Prop :=
 B.pv (V.zi v0) fun v6 =>
  B.pv (V.bin .add v6 (.int .i64 12)) fun v7 =>
  B.pv (V.zfs 8 v0 none (some v7)) fun v8 =>
  zg (zjx.l3 C 8 (N 111) (fun h p v K => B.stn h p 8 v K) 2 Q v8) [(.int .i64 0)] h
def zcy.cps (C : CSem) (N : Nat → Nat) (v0 : AVal) (h : za) (Q : AVal → za → Prop) : Prop :=
 zcy.k3 C N Q v0 h
def zcy.Imp (C : CSem) (N : Nat → Nat) : Prop := ∀ (v0 : AVal) (h : za) (Q : AVal → za → Prop), zcy.cps C N v0 h (dn Q) → C (N 190) [v0] h Q
@[simp] def zb2.k1 (C : CSem) (N : Nat → Nat) (Q : AVal → za → Prop) (Y1 : List AVal → za → Prop) (v0 v1 v5 : AVal) (h : za) : Prop :=
 B.pv (V.zi v0) fun v13 =>
  B.pv (V.bin .lss v5 v13) fun v14 =>
  B.cond v14
  (B.pv (V.idxS 2 v0 v5) fun v19 =>
  B.ldn h v19 2 fun v20 =>
  B.pv (V.idxS 2 v1 v5) fun v23 =>
  B.ldn h v23 2 fun v24 =>
  B.call C (N 118) [v20, v24] h fun v25 h =>
  B.pv (V.un .not v25) fun v26 =>
  B.cond v26
  (Q (.bool false) h)
  (B.pv (V.bin .add v5 (.int .i64 1)) fun v16 =>
  Y1 [v16] h))
  (Q (.bool true) h)
@[simp] def zb2.l2 (C : CSem) (N : Nat → Nat) (Q : AVal → za → Prop) (v0 v1 : AVal) : List AVal → za → (List AVal → za → Prop) → Prop
 | [v5], h, Y1 => zb2.k1 C N Q Y1 v0 v1 v5 h
 | _, _, _ => False
@[simp] def zb2.k3 (C : CSem) (N : Nat → Nat) (Q : AVal → za → Prop) (v0 v1 : AVal) (h : za) : Prop :=
 B.pv (V.zi v0) fun v7 =>
  B.pv (V.zi v1) fun v9 =>
  B.pv (V.bin .neq v7 v9) fun v10 =>
  B.cond v10
  (Q (.bool false) h)
  (zg (zb2.l2 C N Q v0 v1) [(.int .i64 0)] h)
@[simp] def zb2.cps (C : CSem) (N : Nat → Nat) (v0 v1 : AVal) (h : za) (Q : AVal → za → Prop) : Prop :=
 zb2.k3 C N Q v0 v1 h
def zb2.Imp (C : CSem) (N : Nat → Nat) : Prop := ∀ (v0 v1 : AVal) (h : za) (Q : AVal → za → Prop), zb2.cps C N v0 v1 h (dn Q) → C (N 263) [v0, v1] h Q
@[simp] def zcc.k1 (C : CSem) (N : Nat → Nat) (Q : AVal → za → Prop) (Y1 : List AVal → za → Prop) (v0 v3 v4 : AVal) (h : za) : Prop :=
 B.pv (V.zi v0) fun v9 =>
  B.pv (V.bin .lss v4 v9) fun v10 =>
  B.cond v10
  (B.pv (V.idxS 1 v0 v4) fun v16 =>
  B.ld h v16 fun v17 =>
  B.call C (N 312) [v3, v17] h fun v18 h =>
  B.pv (V.bin .add v4 (.int .i64 1)) fun v12 =>
  Y1 [v12] h)
  (B.call C (N 62) [v3] h fun v20 h =>
  Q v20 h)
@[simp] def zcc.l2 (C : CSem) (N : Nat → Nat) (Q : AVal → za → Prop) (v0 v3 : AVal) : List AVal → za → (List AVal → za → Prop) → Prop
 | [v4], h, Y1 => zcc.k1 C N Q Y1 v0 v3 v4 h
 | _, _, _ => False
@[simp] def zcc.k3 (C : CSem) (N : Nat → Nat) (Q : AVal → za → Prop) (v0 : AVal) (h : za) : Prop :=
 B.pv (A.bld [] [.nils, .nils, .nils, .nils, .nils, .nils, .nils, .nils, .nils, .nils, .nils, .nils, .nils, .nils, .nils, .nils, .nils, .nils, .nils, .nils, .nils, .nils, .nils]) fun v5 =>
  B.newO h (A.zk9 23 v5) fun i6 h =>
  zg (zcc.l2 C N Q v0 (.ptr i6 0 0)) [(.int .i64 0)] h
@[simp] def zcc.cps (C : CSem) (N : Nat → Nat) (v0 : AVal) (h : za) (Q : AVal → za → Prop) : Prop :=
 zcc.k3 C N Q v0 h
def zcc.Imp (C : CSem) (N : Nat → Nat) : Prop := ∀ (v0 : AVal) (h : za) (Q : AVal → za → Prop), zcc.cps C N v0 h (dn Q) → C (N 307) [v0] h Q
@[simp] def zb1.k1 (C : CSem) (N : Nat → Nat) (Q : AVal → za → Prop) (Y1 : List AVal → za → Prop) (v0 v1 v4 : AVal) (h : za) : Prop :=
 B.pv (V.zi v1) fun v17 =>
  B.pv (V.bin .lss v4 v17) fun v18 =>
  B.cond v18
  (B.pv (V.idxS 2 v1 v4) fun v24 =>
  B.ldn h v24 2 fun v25 =>
  B.call C (N 315) [v0, v25] h fun v26 h =>
  B.pv (V.bin .add v4 (.int .i64 1)) fun v20 =>
  Y1 [v20] h)
  (Q (.tup []) h)
@[simp] def zb1.l2 (C : CSem) (N : Nat → Nat) (Q : AVal → za → Prop) (v0 v1 : AVal) : List AVal → za → (List AVal → za → Prop) → Prop
 | [v4], h, Y1 => zb1.k1 C N Q Y1 v0 v1 v4 h
 | _, _, _ => False
@[simp] def zb1.k3 (C : CSem) (N : Nat → Nat) (Q : AVal → za → Prop) (v0 v1 : AVal) (h : za) : Prop :=
 B.nilCheck v0 fun v7 =>
  B.pv (V.fieldAddr 15 v7) fun v8 =>
  B.ld h v8 fun v9 =>
  B.newO h (zc7 [(0, none, v1)] (repL 1 [.nils])) fun i11 h =>
  B.appW h 1 24 v9 (.sl i11 0 0 1 1 1) fun v12 h =>
  B.nilCheck v0 fun v13 =>
  B.pv (V.fieldAddr 15 v13) fun v14 =>
  B.st h v14 v12 fun h =>
  zg (zb1.l2 C N Q v0 v1) [(.int .i64 0)] h
@[simp] def zb1.cps (C : CSem) (N : Nat → Nat) (v0 v1 : AVal) (h : za) (Q : AVal → za → Prop) : Prop :=
 zb1.k3 C N Q v0 v1 h
def zb1.Imp (C : CSem) (N : Nat → Nat) : Prop := ∀ (v0 v1 : AVal) (h : za) (Q : AVal → za → Prop), zb1.cps C N v0 v1 h (dn Q) → C (N 312) [v0, v1] h Q
@[simp] def zdo.k1 (C : CSem) (N : Nat → Nat) (Q : AVal → za → Prop) (v0 v1 : AVal) (h : za) : Prop :=
 B.pv (A.boxN 2 v1) fun c3 =>
  B.al c3 (B.pv (V.zd 0 c3) fun v6 =>
  B.call C (N 63) [v0, v6] h fun v7 h =>
  B.al c3 (B.pv (V.zd 1 c3) fun v10 =>
  B.call C (N 63) [v0, v10] h fun v11 h =>
  Q (.tup []) h))
@[simp] def zdo.cps (C : CSem) (N : Nat → Nat) (v0 v1 : AVal) (h : za) (Q : AVal → za → Prop) : Prop :=
 zdo.k1 C N Q v0 v1 h
def zdo.Imp (C : CSem) (N : Nat → Nat) : Prop := ∀ (v0 v1 : AVal) (h : za) (Q : AVal → za → Prop), zdo.cps C N v0 v1 h (dn Q) → C (N 315) [v0, v1] h Q
@[simp] def zcq.k3 (C : CSem) (N : Nat → Nat) (Q : AVal → za → Prop) (v0 : AVal) (h : za) : Prop :=
 B.pv (V.zi v0) fun v6 =>
  B.pv (V.bin .add v6 (.int .i64 12)) fun v7 =>
  0 < 2 ∧ B.mks h 24 (some [.str [], .int .i64 0]) (.int .i64 0) v7 fun v8 h =>
  B.appW h 2 24 v8 v0 fun v11 h =>
  zg (zkq.l4 C 2 24 (N 108) [.str [], .int .i64 0] 1 Q v0) [v11, (.int .i64 0)] h
def zcq.cps (C : CSem) (N : Nat → Nat) (v0 : AVal) (h : za) (Q : AVal → za → Prop) : Prop :=
 zcq.k3 C N Q v0 h
def zcq.Imp (C : CSem) (N : Nat → Nat) : Prop := ∀ (v0 : AVal) (h : za) (Q : AVal → za → Prop), zcq.cps C N v0 h (dn Q) → C (N 319) [v0] h Q
@[simp] def zca.k3 (C : CSem) (N : Nat → Nat) (Q : AVal → za → Prop) (v0 v1 : AVal) (h : za) : Prop :=
 B.pv (V.zi v1) fun v14 =>
  B.pv (V.bin .add v14 (.int .i64 12)) fun v15 =>
  B.pv (V.zfs 2 v0 none (some v15)) fun v16 =>
  zg (zl7.l4 C 2 (N 108) [.s, .i .i64] 1 Q v1 v16) [(.int .i64 0)] h
@[simp] def zca.k4 (C : CSem) (N : Nat → Nat) (Q : AVal → za → Prop) (v0 v1 : AVal) (h : za) : Prop :=
 B.pv (V.zi v0) fun v8 =>
  B.pv (V.zi v1) fun v10 =>
  B.pv (V.bin .neq v8 v10) fun v11 =>
  B.cond v11
  (Q (.bool false) h)
  (zca.k3 C N Q v0 v1 h)
def zca.cps (C : CSem) (N : Nat → Nat) (v0 v1 : AVal) (h : za) (Q : AVal → za → Prop) : Prop :=
 zca.k4 C N Q v0 v1 h
def zca.Imp (C : CSem) (N : Nat → Nat) : Prop := ∀ (v0 v1 : AVal) (h : za) (Q : AVal → za → Prop), zca.cps C N v0 v1 h (dn Q) → C (N 324) [v0, v1] h Q
@[simp] def zbg.k1 (C : CSem) (N : Nat → Nat) (Q : AVal → za → Prop) (Y1 : List AVal → za → Prop) (v0 v3 v6 : AVal) (h : za) : Prop :=
 B.pv (V.bin .lss v6 (.int .i64 12)) fun v27 =>
  B.cond v27
  (B.call C (N 109) [(.int .i64 1), v6] h fun v32 h =>
  B.newO h (zc7 [(0, some 4, v32)] (repL 1 [.str [], .int .i64 0, .nils, .nils])) fun i33 h =>
  B.appW h 4 72 v3 (.sl i33 0 0 1 4 1) fun v34 h =>
  B.pv (V.bin .add v6 (.int .i64 1)) fun v29 =>
  Y1 [v34, v29] h)
  (B.pv (V.zi v0) fun v37 =>
  B.pv (V.zfs 4 v3 none (some v37)) fun v38 =>
  Q v38 h)
@[simp] def zbg.l2 (C : CSem) (N : Nat → Nat) (Q : AVal → za → Prop) (v0 : AVal) : List AVal → za → (List AVal → za → Prop) → Prop
 | [v3, v6], h, Y1 => zbg.k1 C N Q Y1 v0 v3 v6 h
 | _, _, _ => False
@[simp] def zbg.k3 (C : CSem) (N : Nat → Nat) (Q : AVal → za → Prop) (Y2 : List AVal → za → Prop) (v0 v3 v4 : AVal) (h : za) : Prop :=
 B.pv (V.zi v0) fun v13 =>
  B.pv (V.bin .lss v4 v13) fun v14 =>
  B.cond v14
  (B.pv (V.idxS 4 v0 v4) fun v19 =>
  B.ldn h v19 4 fun v20 =>
  B.call C (N 399) [v20] h fun v21 h =>
  B.pv (V.setN 0 4 v21 (.agg [.str [], .int .i64 0, .nils, .nils])) fun c5 =>
  B.pv (V.zb4 0 4 c5) fun v23 =>
  B.newO h (zc7 [(0, some 4, v23)] (repL 1 [.str [], .int .i64 0, .nils, .nils])) fun i24 h =>
  B.appW h 4 72 v3 (.sl i24 0 0 1 4 1) fun v25 h =>
  B.pv (V.bin .add v4 (.int .i64 1)) fun v16 =>
  Y2 [v25, v16] h)
  (zg (zbg.l2 C N Q v0) [v3, (.int .i64 0)] h)
@[simp] def zbg.l4 (C : CSem) (N : Nat → Nat) (Q : AVal → za → Prop) (v0 : AVal) : List AVal → za → (List AVal → za → Prop) → Prop
 | [v3, v4], h, Y2 => zbg.k3 C N Q Y2 v0 v3 v4 h
 | _, _, _ => False
@[simp] def zbg.k5 (C : CSem) (N : Nat → Nat) (Q : AVal → za → Prop) (v0 : AVal) (h : za) : Prop :=
 B.pv (V.zi v0) fun v8 =>
  B.pv (V.bin .add v8 (.int .i64 12)) fun v9 =>
  0 < 4 ∧ B.mks h 72 (some [.str [], .int .i64 0, .nils, .nils]) (.int .i64 0) v9 fun v10 h =>
  zg (zbg.l4 C N Q v0) [v10, (.int .i64 0)] h
@[simp] def zbg.cps (C : CSem) (N : Nat → Nat) (v0 : AVal) (h : za) (Q : AVal → za → Prop) : Prop :=
 zbg.k5 C N Q v0 h
def zbg.Imp (C : CSem) (N : Nat → Nat) : Prop := ∀ (v0 : AVal) (h : za) (Q : AVal → za → Prop), zbg.cps C N v0 h (dn Q) → C (N 391) [v0] h Q
@[simp] def zbl.k1 (C : CSem) (N : Nat → Nat) (Q : AVal → za → Prop) (Y1 : List AVal → za → Prop) (v1 v5 v6 : AVal) (h : za) : Prop :=
 B.pv (V.zi v5) fun v19 =>
  B.pv (V.bin .lss v6 v19) fun v20 =>
  B.cond v20
  (B.pv (V.zi v1) fun v25 =>
  B.pv (V.bin .lss v6 v25) fun v26 =>
  B.gd h v26 true (fun K => K v5 h) fun v28 h =>
  B.gd h v26 true (fun K => K v6 h) fun v29 h =>
  B.gd h v26 true (fun K => B.pv (V.idxS 4 v28 v29) fun v => K v h) fun v30 h =>
  B.gd h v26 true (fun K => B.ldn h v30 4 fun v => K v h) fun v31 h =>
  B.gd h v26 true (fun K => K v1 h) fun v32 h =>
  B.gd h v26 true (fun K => K v6 h) fun v33 h =>
  B.gd h v26 true (fun K => B.pv (V.idxS 4 v32 v33) fun v => K v h) fun v34 h =>
  B.gd h v26 true (fun K => B.ldn h v34 4 fun v => K v h) fun v35 h =>
  B.gd h v26 true (fun K => B.call C (N 400) [v31, v35] h K) fun v36 h =>
  B.gd h v26 true (fun K => B.pv (V.un .not v36) fun v => K v h) fun v37 h =>
  B.pick v26 v37 (.bool false) fun v38 =>
  B.gd h v38 false (fun K => K v6 h) fun v40 h =>
  B.gd h v38 false (fun K => K v1 h) fun v41 h =>
  B.gd h v38 false (fun K => B.pv (V.zi v41) fun v => K v h) fun v42 h =>
  B.gd h v38 false (fun K => B.pv (V.bin .geq v40 v42) fun v => K v h) fun v43 h =>
  B.gd h v38 false (fun K => K v43 h) fun v44 h =>
  B.gd h v44 true (fun K => K v5 h) fun v45 h =>
  B.gd h v44 true (fun K => K v6 h) fun v46 h =>
  B.gd h v44 true (fun K => B.pv (V.idxS 4 v45 v46) fun v => K v h) fun v47 h =>
  B.gd h v44 true (fun K => B.ldn h v47 4 fun v => K v h) fun v48 h =>
  B.gd h v44 true (fun K => K v6 h) fun v49 h =>
  B.gd h v44 true (fun K => K v1 h) fun v50 h =>
  B.gd h v44 true (fun K => B.pv (V.zi v50) fun v => K v h) fun v51 h =>
  B.gd h v44 true (fun K => B.pv (V.bin .sub v49 v51) fun v => K v h) fun v52 h =>
  B.gd h v44 true (fun K => B.call C (N 109) [(.int .i64 1), v52] h (B.zlj h [(v47, some 4)] K)) fun v53 h =>
  B.gd h v44 true (fun K => B.call C (N 110) [v48, v53] h K) fun v54 h =>
  B.gd h v44 true (fun K => B.pv (V.un .not v54) fun v => K v h) fun v55 h =>
  B.gd h v38 false (fun K => B.pick v44 v55 (.bool false) fun v => K v h) fun v56 h =>
  B.pick v38 (.bool true) v56 fun v57 =>
  B.cond v57
  (Q (.bool false) h)
  (B.pv (V.bin .add v6 (.int .i64 1)) fun v22 =>
  Y1 [v22] h))
  (Q (.bool true) h)
@[simp] def zbl.l2 (C : CSem) (N : Nat → Nat) (Q : AVal → za → Prop) (v1 v5 : AVal) : List AVal → za → (List AVal → za → Prop) → Prop
 | [v6], h, Y1 => zbl.k1 C N Q Y1 v1 v5 v6 h
 | _, _, _ => False
@[simp] def zbl.k3 (C : CSem) (N : Nat → Nat) (Q : AVal → za → Prop) (v0 v1 : AVal) (h : za) : Prop :=
 B.pv (V.zi v1) fun v14 =>
  B.pv (V.bin .add v14 (.int .i64 12)) fun v15 =>
  B.pv (V.zfs 4 v0 none (some v15)) fun v16 =>
  zg (zbl.l2 C N Q v1 v16) [(.int .i64 0)] h
@[simp] def zbl.k4 (C : CSem) (N : Nat → Nat) (Q : AVal → za → Prop) (v0 v1 : AVal) (h : za) : Prop :=
 B.pv (V.zi v0) fun v8 =>
  B.pv (V.zi v1) fun v10 =>
  B.pv (V.bin .neq v8 v10) fun v11 =>
  B.cond v11
  (Q (.bool false) h)
  (zbl.k3 C N Q v0 v1 h)
@[simp] def zbl.cps (C : CSem) (N : Nat → Nat) (v0 v1 : AVal) (h : za) (Q : AVal → za → Prop) : Prop :=
 zbl.k4 C N Q v0 v1 h
def zbl.Imp (C : CSem) (N : Nat → Nat) : Prop := ∀ (v0 v1 : AVal) (h : za) (Q : AVal → za → Prop), zbl.cps C N v0 v1 h (dn Q) → C (N 392) [v0, v1] h Q
@[simp] def zbi.k1 (C : CSem) (N : Nat → Nat) (Q : AVal → za → Prop) (Y1 : List AVal → za → Prop) (v3 v4 : AVal) (h : za) : Prop :=
 B.pv (V.zi v3) fun v23 =>
  B.pv (V.bin .lss v4 v23) fun v24 =>
  B.cond v24
  (B.call C (N 109) [(.int .i64 2), v4] h fun v30 h =>
  B.pv (V.idxS 4 v3 v4) fun v31 =>
  B.stn h v31 4 v30 fun h =>
  B.pv (V.bin .add v4 (.int .i64 1)) fun v26 =>
  Y1 [v26] h)
  (Q (.tup []) h)
@[simp] def zbi.l2 (C : CSem) (N : Nat → Nat) (Q : AVal → za → Prop) (v3 : AVal) : List AVal → za → (List AVal → za → Prop) → Prop
 | [v4], h, Y1 => zbi.k1 C N Q Y1 v3 v4 h
 | _, _, _ => False
@[simp] def zbi.k3 (C : CSem) (N : Nat → Nat) (Q : AVal → za → Prop) (v0 : AVal) (h : za) : Prop :=
 B.pv (V.zi v0) fun v18 =>
  B.pv (V.bin .add v18 (.int .i64 12)) fun v19 =>
  B.pv (V.zfs 4 v0 none (some v19)) fun v20 =>
  zg (zbi.l2 C N Q v20) [(.int .i64 0)] h
@[simp] def zbi.k4 (C : CSem) (N : Nat → Nat) (Q : AVal → za → Prop) (Y2 : List AVal → za → Prop) (v0 v2 : AVal) (h : za) : Prop :=
 B.pv (V.zi v0) fun v7 =>
  B.pv (V.bin .lss v2 v7) fun v8 =>
  B.cond v8
  (B.pv (V.idxS 4 v0 v2) fun v13 =>
  B.ldn h v13 4 fun v14 =>
  B.call C (N 401) [v14] h fun v15 h =>
  B.pv (V.bin .add v2 (.int .i64 1)) fun v10 =>
  Y2 [v10] h)
  (zbi.k3 C N Q v0 h)
@[simp] def zbi.l5 (C : CSem) (N : Nat → Nat) (Q : AVal → za → Prop) (v0 : AVal) : List AVal → za → (List AVal → za → Prop) → Prop
 | [v2], h, Y2 => zbi.k4 C N Q Y2 v0 v2 h
 | _, _, _ => False
@[simp] def zbi.cps (C : CSem) (N : Nat → Nat) (v0 : AVal) (h : za) (Q : AVal → za → Prop) : Prop :=
 zg (zbi.l5 C N Q v0) [(.int .i64 0)] h
def zbi.Imp (C : CSem) (N : Nat → Nat) : Prop := ∀ (v0 : AVal) (h : za) (Q : AVal → za → Prop), zbi.cps C N v0 h (dn Q) → C (N 393) [v0] h Q
@[simp] def zdj.k1 (C : CSem) (N : Nat → Nat) (Q : AVal → za → Prop) (v0 : AVal) (h : za) : Prop :=
 B.pv (A.boxN 4 v0) fun c1 =>
  B.al c1 (B.pv (V.zd 2 c1) fun v4 =>
  B.call C (N 319) [v4] h fun v5 h =>
  B.al c1 (B.pv (V.setF 2 v5 c1) fun c1 =>
  B.al c1 (B.pv (V.zd 3 c1) fun v8 =>
  B.call C (N 406) [v8] h fun v9 h =>
  B.al c1 (B.pv (V.setF 3 v9 c1) fun c1 =>
  B.pv (V.zb4 0 4 c1) fun v11 =>
  B.pv (V.setN 0 4 v11 (.agg [.str [], .int .i64 0, .nils, .nils])) fun c2 =>
  B.pv (oneOf (zfq (V.zb4 0 4 c2) (some []))) fun v => Q v h))))
@[simp] def zdj.cps (C : CSem) (N : Nat → Nat) (v0 : AVal) (h : za) (Q : AVal → za → Prop) : Prop :=
 zdj.k1 C N Q v0 h
def zdj.Imp (C : CSem) (N : Nat → Nat) : Prop := ∀ (v0 : AVal) (h : za) (Q : AVal → za → Prop), zdj.cps C N v0 h (dn Q) → C (N 399) [v0] h Q
@[simp] def zdk.k1 (C : CSem) (N : Nat → Nat) (Q : AVal → za → Prop) (v0 v1 : AVal) (h : za) : Prop :=
 B.pv (A.boxN 4 v0) fun c2 =>
  B.pv (A.boxN 4 v1) fun c3 =>
  B.pv (V.zb4 0 4 c2) fun v5 =>
  B.pv (V.zb4 0 4 c3) fun v6 =>
  B.call C (N 110) [v5, v6] h fun v7 h =>
  B.al c2 (B.gd h v7 true (fun K => K .undef h) fun _ h =>
  B.gd h v7 true (fun K => B.pv (V.zd 2 c2) fun v => K v h) fun v10 h =>
  B.al c3 (B.gd h v7 true (fun K => K .undef h) fun _ h =>
  B.gd h v7 true (fun K => B.pv (V.zd 2 c3) fun v => K v h) fun v12 h =>
  B.gd h v7 true (fun K => B.call C (N 324) [v10, v12] h K) fun v13 h =>
  B.pick v7 v13 (.bool false) fun v14 =>
  B.al c2 (B.gd h v14 true (fun K => K .undef h) fun _ h =>
  B.gd h v14 true (fun K => B.pv (V.zd 3 c2) fun v => K v h) fun v17 h =>
  B.al c3 (B.gd h v14 true (fun K => K .undef h) fun _ h =>
  B.gd h v14 true (fun K => B.pv (V.zd 3 c3) fun v => K v h) fun v19 h =>
  B.gd h v14 true (fun K => B.call C (N 407) [v17, v19] h K) fun v20 h =>
  B.pick v14 v20 (.bool false) fun v21 =>
  Q v21 h))))
@[simp] def zdk.cps (C : CSem) (N : Nat → Nat) (v0 v1 : AVal) (h : za) (Q : AVal → za → Prop) : Prop :=
 zdk.k1 C N Q v0 v1 h
def zdk.Imp (C : CSem) (N : Nat → Nat) : Prop := ∀ (v0 v1 : AVal) (h : za) (Q : AVal → za → Prop), zdk.cps C N v0 v1 h (dn Q) → C (N 400) [v0, v1] h Q
@[simp] def zdi.k1 (C : CSem) (N : Nat → Nat) (Q : AVal → za → Prop) (v0 : AVal) (h : za) : Prop :=
 B.pv (A.boxN 4 v0) fun c1 =>
  B.al c1 (B.pv (V.zd 2 c1) fun v3 =>
  B.call C (N 408) [v3] h fun v4 h =>
  B.al c1 (B.pv (V.zd 3 c1) fun v6 =>
  B.call C (N 409) [v6] h fun v7 h =>
  Q (.tup []) h))
@[simp] def zdi.cps (C : CSem) (N : Nat → Nat) (v0 : AVal) (h : za) (Q : AVal → za → Prop) : Prop :=
 zdi.k1 C N Q v0 h
def zdi.Imp (C : CSem) (N : Nat → Nat) : Prop := ∀ (v0 : AVal) (h : za) (Q : AVal → za → Prop), zdi.cps C N v0 h (dn Q) → C (N 401) [v0] h Q
@[simp] def zcp.k3 (C : CSem) (N : Nat → Nat) (Q : AVal → za → Prop) (v0 : AVal) (h : za) : Prop :=
 B.pv (V.zi v0) fun v6 =>
  B.pv (V.bin .add v6 (.int .i64 12)) fun v7 =>
  0 < 1 ∧ B.mks h 16 (some [.str []]) (.int .i64 0) v7 fun v8 h =>
  B.appW h 1 16 v8 v0 fun v11 h =>
  zg (zss.l4 C 16 (N 106) (.str []) 1 Q v0) [v11, (.int .i64 0)] h
def zcp.cps (C : CSem) (N : Nat → Nat) (v0 : AVal) (h : za) (Q : AVal → za → Prop) : Prop :=
 zcp.k3 C N Q v0 h
def zcp.Imp (C : CSem) (N : Nat → Nat) : Prop := ∀ (v0 : AVal) (h : za) (Q : AVal → za → Prop), zcp.cps C N v0 h (dn Q) → C (N 406) [v0] h Q
@[simp] def zb9.k3 (C : CSem) (N : Nat → Nat) (Q : AVal → za → Prop) (v0 v1 : AVal) (h : za) : Prop :=
 B.pv (V.zi v1) fun v14 =>
  B.pv (V.bin .add v14 (.int .i64 12)) fun v15 =>
  B.pv (V.zfs 1 v0 none (some v15)) fun v16 =>
  zg (zuc.l4 C (N 106) 1 Q v1 v16) [(.int .i64 0)] h
@[simp] def zb9.k4 (C : CSem) (N : Nat → Nat) (Q : AVal → za → Prop) (v0 v1 : AVal) (h : za) : Prop :=
 B.pv (V.zi v0) fun v8 =>
  B.pv (V.zi v1) fun v10 =>
  B.pv (V.bin .neq v8 v10) fun v11 =>
  B.cond v11
  (Q (.bool false) h)
  (zb9.k3 C N Q v0 v1 h)
def zb9.cps (C : CSem) (N : Nat → Nat) (v0 v1 : AVal) (h : za) (Q : AVal → za → Prop) : Prop :=
 zb9.k4 C N Q v0 v1 h
def zb9.Imp (C : CSem) (N : Nat → Nat) : Prop := ∀ (v0 v1 : AVal) (h : za) (Q : AVal → za → Prop), zb9.cps C N v0 v1 h (dn Q) → C (N 407) [v0, v1] h Q
@[simp] def zcx.k3 (C : CSem) (N : Nat → Nat) (Q : AVal → za → Prop) (v0 : AVal) (h : za) : Prop :=
 B.pv (V.zi v0) fun v6 =>
  B.pv (V.bin .add v6 (.int .i64 12)) fun v7 =>
  B.pv (V.zfs 2 v0 none (some v7)) fun v8 =>
  zg (zjx.l3 C 2 (N 108) (fun h p v K => B.stn h p 2 v K) 2 Q v8) [(.int .i64 0)] h
def zcx.cps (C : CSem) (N : Nat → Nat) (v0 : AVal) (h : za) (Q : AVal → za → Prop) : Prop :=
 zcx.k3 C N Q v0 h
def zcx.Imp (C : CSem) (N : Nat → Nat) : Prop := ∀ (v0 : AVal) (h : za) (Q : AVal → za → Prop), zcx.cps C N v0 h (dn Q) → C (N 408) [v0] h Q
@[simp] def zcv.k3 (C : CSem) (N : Nat → Nat) (Q : AVal → za → Prop) (v0 : AVal) (h : za) : Prop :=
 B.pv (V.zi v0) fun v6 =>
  B.pv (V.bin .add v6 (.int .i64 12)) fun v7 =>
  B.pv (V.zfs 1 v0 none (some v7)) fun v8 =>
  zg (zjx.l3 C 1 (N 106) (fun h p v K => B.st h p v K) 2 Q v8) [(.int .i64 0)] h
def zcv.cps (C : CSem) (N : Nat → Nat) (v0 : AVal) (h : za) (Q : AVal → za → Prop) : Prop :=
 zcv.k3 C N Q v0 h
def zcv.Imp (C : CSem) (N : Nat → Nat) : Prop := ∀ (v0 : AVal) (h : za) (Q : AVal → za → Prop), zcv.cps C N v0 h (dn Q) → C (N 409) [v0] h Q
@[simp] def zcz.k1 (C : CSem) (N : Nat → Nat) (Q : AVal → za → Prop) (v0 : AVal) (h : za) : Prop :=
 B.pv (A.boxN 6 v0) fun c1 =>
  B.al c1 (B.pv (V.zd 3 c1) fun v4 =>
  B.call C (N 391) [v4] h fun v5 h =>
  B.al c1 (B.pv (V.setF 3 v5 c1) fun c1 =>
  B.al c1 (B.pv (V.zd 4 c1) fun v8 =>
  B.call C (N 48) [v8] h fun v9 h =>
  B.al c1 (B.pv (V.setF 4 v9 c1) fun c1 =>
  B.al c1 (B.pv (V.zd 5 c1) fun v12 =>
  B.call C (N 186) [v12] h fun v13 h =>
  B.al c1 (B.pv (V.setF 5 v13 c1) fun c1 =>
  B.pv (V.zb4 0 6 c1) fun v15 =>
  B.pv (V.setN 0 6 v15 (.agg [.int .i64 0, .int .i64 0, .int .i64 0, .nils, .nils, .nils])) fun c2 =>
  B.pv (oneOf (zfq (V.zb4 0 6 c2) (some []))) fun v => Q v h))))))
@[simp] def zcz.cps (C : CSem) (N : Nat → Nat) (v0 : AVal) (h : za) (Q : AVal → za → Prop) : Prop :=
 zcz.k1 C N Q v0 h
def zcz.Imp (C : CSem) (N : Nat → Nat) : Prop := ∀ (v0 : AVal) (h : za) (Q : AVal → za → Prop), zcz.cps C N v0 h (dn Q) → C (N 446) [v0] h Q
@[simp] def zc0.k1 (C : CSem) (N : Nat → Nat) (Q : AVal → za → Prop) (v0 v1 : AVal) (h : za) : Prop :=
 B.pv (A.boxN 6 v0) fun c2 =>
  B.pv (A.boxN 6 v1) fun c3 =>
  B.pv (V.zb4 0 6 c2) fun v5 =>
  B.pv (V.zb4 0 6 c3) fun v6 =>
  B.call C (N 116) [v5, v6] h fun v7 h =>
  B.al c2 (B.gd h v7 true (fun K => K .undef h) fun _ h =>
  B.gd h v7 true (fun K => B.pv (V.zd 3 c2) fun v => K v h) fun v10 h =>
  B.al c3 (B.gd h v7 true (fun K => K .undef h) fun _ h =>
  B.gd h v7 true (fun K => B.pv (V.zd 3 c3) fun v => K v h) fun v12 h =>
  B.gd h v7 true (fun K => B.call C (N 392) [v10, v12] h K) fun v13 h =>
  B.pick v7 v13 (.bool false) fun v14 =>
  B.al c2 (B.gd h v14 true (fun K => K .undef h) fun _ h =>
  B.gd h v14 true (fun K => B.pv (V.zd 4 c2) fun v => K v h) fun v17 h =>
  B.al c3 (B.gd h v14 true (fun K => K .undef h) fun _ h =>
  B.gd h v14 true (fun K => B.pv (V.zd 4 c3) fun v => K v h) fun v19 h =>
  B.gd h v14 true (fun K => B.call C (N 54) [v17, v19] h K) fun v20 h =>
  B.pick v14 v20 (.bool false) fun v21 =>
  B.al c2 (B.gd h v21 true (fun K => K .undef h) fun _ h =>
  B.gd h v21 true (fun K => B.pv (V.zd 5 c2) fun v => K v h) fun v24 h =>
  B.al c3 (B.gd h v21 true (fun K => K .undef h) fun _ h =>
  B.gd h v21 true (fun K => B.pv (V.zd 5 c3) fun v => K v h) fun v26 h =>
  B.gd h v21 true (fun K => B.call C (N 189) [v24, v26] h K) fun v27 h =>
  B.pick v21 v27 (.bool false) fun v28 =>
  Q v28 h))))))
@[simp] def zc0.cps (C : CSem) (N : Nat → Nat) (v0 v1 : AVal) (h : za) (Q : AVal → za → Prop) : Prop :=
 zc0.k1 C N Q v0 v1 h
def zc0.Imp (C : CSem) (N : Nat → Nat) : Prop := ∀ (v0 v1 : AVal) (h : za) (Q : AVal → za → Prop), zc0.cps C N v0 v1 h (dn Q) → C (N 447) [v0, v1] h Q
@[simp] def zcw.k1 (C : CSem) (N : Nat → Nat) (Q : AVal → za → Prop) (v0 : AVal) (h : za) : Prop :=
 B.pv (A.boxN 6 v0) fun c1 =>
  B.al c1 (B.pv (V.zd 3 c1) fun v3 =>
  B.call C (N 393) [v3] h fun v4 h =>
  B.al c1 (B.pv (V.zd 4 c1) fun v6 =>
  B.call C (N 56) [v6] h fun v7 h =>
  B.al c1 (B.pv (V.zd 5 c1) fun v9 =>
  B.call C (N 190) [v9] h fun v10 h =>
  Q (.tup []) h)))
@[simp] def zcw.cps (C : CSem) (N : Nat → Nat) (v0 : AVal) (h : za) (Q : AVal → za → Prop) : Prop :=
 zcw.k1 C N Q v0 h
def zcw.Imp (C : CSem) (N : Nat → Nat) : Prop := ∀ (v0 : AVal) (h : za) (Q : AVal → za → Prop), zcw.cps C N v0 h (dn Q) → C (N 448) [v0] h Q
end Go.Ab
set_option maxRecDepth 100000
namespace Go.Ab
variable {C : CSem} {N : Nat → Nat}
@[irreducible] def mark (k i : Int) : Int := IntKind.i64.wrap (IntKind.i64.wrap (1000003 * IntKind.i64.wrap (k + 7)) + i)
def ze7.Spec (C : CSem) (N : Nat → Nat) : Prop := ∀ (k i : Int) (h : za) (Q : AVal → za → Prop), Q (.int .i64 (mark k i)) h → C (N 20) [.int .i64 k, .int .i64 i] h Q
theorem ze7.spec (i : ze7.Imp C N) : ze7.Spec C N := by
 intro k j h Q hq
 apply i
 simp +contextual -dsimp
 unfold mark at hq
 exact zj hq
structure LL where
 x : AVal
 n : Nat
 xs : Nat → AVal
 D : Nat → List (List AVal)
 R : Nat → List (List AVal)
 W : List (List AVal)
def LL.obs (es : Nat) (t : LL) : List Ob := Objs es t.n t.xs t.D t.R
def zbv (C : CSem) (g : Nat) : Prop := ∀ (x : AVal) (W : List (List AVal)) (h0 h : za) (Q : AVal → za → Prop), SlX h0 1 x [] W → h0.le h → (∀ h', h0.le h' → Q (.bool true) h') → C g [x] h Q
def zrg (k i : Int) : Lot := ⟨mark k i, [], 0, 0, 0, false⟩
def zdn.Spec (C : CSem) (N : Nat → Nat) : Prop := ∀ (k i : Int) (h : za) (Q : AVal → za → Prop), Q (.agg (zrg k i).cs) h → C (N 77) [.int .i64 k, .int .i64 i] h Q
theorem zdn.spec (i : zdn.Imp C N) (s1 : ze7.Spec C N) : zdn.Spec C N := by
 intro k j h Q hq
 apply i
 simp +contextual -dsimp
 refine s1 _ _ _ _ ?_
 simp +contextual -dsimp
 exact zj hq
abbrev zm6 : List (List AVal) := marks lotF (zrg 1) 12
def zda.Spec (C : CSem) (N : Nat → Nat) : Prop := ∀ (x y : AVal) (L M : List Lot) (R S : List (List AVal)) (h : za) (Q : AVal → za → Prop), SlX h 6 x (L.map Lot.cs) R → SlX h 6 y (M.map Lot.cs) S → L.length < 4611686018427387904 →
 Q (.bool (decide (L = M))) h → C (N 74) [x, y] h Q
theorem zda.spec (i : zda.Imp C N) : zda.Spec C N := fun x y L M R S h Q hx hy hlen hq =>
 i x y h Q (zq6 lotF hx hy hlen (zj hq))
def zdb.Spec (C : CSem) (N : Nat → Nat) : Prop := ∀ (x : AVal) (L : List Lot) (R : List (List AVal)) (h : za) (Q : AVal → za → Prop), SlX h 6 x (L.map Lot.cs) R → L.length ≤ 100000000 →
 (∀ x' h', Owns h h' [.sl 6 x' (L.map Lot.cs) zm6] → Q x' h') → C (N 48) [x] h Q
theorem zdb.spec (i : zdb.Imp C N) (s1 : zdn.Spec C N) : zdb.Spec C N := fun x L R h Q hx hlen hq =>
 i x h Q (zrk lotF (z := [.int .i64 0, .str [], .int .i64 0, .int .i64 0, .int .i64 0, .bool false]) (m := 1) (mk := zrg 1) rfl (by omega) (s1 1) hx hlen fun x' h' ho => zj (hq x' h' ho))
def zcj.Spec (C : CSem) (N : Nat → Nat) : Prop := ∀ (x y : AVal) (L M : List Lot) (R : List (List AVal)) (h : za) (Q : AVal → za → Prop), SlX h 6 x (L.map Lot.cs) zm6 → SlX h 6 y (M.map Lot.cs) R → L.length ≤ 100000000 →
 Q (.bool (decide (L = M))) h → C (N 54) [x, y] h Q
theorem zcj.spec (i : zcj.Imp C N) (s1 : zdn.Spec C N) : zcj.Spec C N := fun x y L M R h Q hx hy hlen hq =>
 i x y h Q (zrm lotF (m := 1) (mk := zrg 1) (s1 1) hx hy hlen (zj hq))
def zdh.Spec (C : CSem) (N : Nat → Nat) : Prop := ∀ (h0 h : za) (x : AVal) (L R : List (List AVal)) (Q : AVal → za → Prop), Owns h0 h [.sl 6 x L R] → R.length = 12 → L.length ≤ 100000000 → (∀ h', h0.le h' → Q (.tup []) h') → C (N 56) [x] h Q
theorem zdh.spec (i : zdh.Imp C N) (s1 : zdn.Spec C N) : zdh.Spec C N := fun h0 h x L R Q ho hR hlen hq =>
 i x h Q (zm4 (es := 6) (st := fun h p v K => B.stn h p 6 v K) (by omega) (v := fun i => .agg (zrg 2 i).cs) (s1 2) (fun {_ _ _ _ _ _ k _} ho hi hK => over_stN (xs := (zrg 2 k).cs) rfl ho hi hK) ho hR hlen fun h' hle => zj (hq h' hle))
def zm8 (k i : Int) : Part := ⟨[], mark k i⟩
def zc2.Spec (C : CSem) (N : Nat → Nat) : Prop := ∀ (k i : Int) (h : za) (Q : AVal → za → Prop), Q (.agg (zm8 k i).cs) h → C (N 108) [.int .i64 k, .int .i64 i] h Q
theorem zc2.spec (i : zc2.Imp C N) (s1 : ze7.Spec C N) : zc2.Spec C N := by
 intro k j h Q hq
 apply i
 simp +contextual -dsimp
 refine s1 _ _ _ _ ?_
 simp +contextual -dsimp
 exact zj hq
abbrev zj0 : List (List AVal) := marks partF (zm8 1) 12
def zcn.Spec (C : CSem) (N : Nat → Nat) : Prop := ∀ (x y : AVal) (L M : List Part) (R S : List (List AVal)) (h : za) (Q : AVal → za → Prop), SlX h 2 x (L.map Part.cs) R → SlX h 2 y (M.map Part.cs) S → L.length < 4611686018427387904 →
 Q (.bool (decide (L = M))) h → C (N 132) [x, y] h Q
theorem zcn.spec (i : zcn.Imp C N) : zcn.Spec C N := fun x y L M R S h Q hx hy hlen hq =>
 i x y h Q (zq6 partF hx hy hlen (zj hq))
def zcq.Spec (C : CSem) (N : Nat → Nat) : Prop := ∀ (x : AVal) (L : List Part) (R : List (List AVal)) (h : za) (Q : AVal → za → Prop), SlX h 2 x (L.map Part.cs) R → L.length ≤ 100000000 →
 (∀ x' h', Owns h h' [.sl 2 x' (L.map Part.cs) zj0] → Q x' h') → C (N 319) [x] h Q
theorem zcq.spec (i : zcq.Imp C N) (s1 : zc2.Spec C N) : zcq.Spec C N := fun x L R h Q hx hlen hq =>
 i x h Q (zrk partF (z := [.str [], .int .i64 0]) (m := 1) (mk := zm8 1) rfl (by omega) (s1 1) hx hlen fun x' h' ho => zj (hq x' h' ho))
def zca.Spec (C : CSem) (N : Nat → Nat) : Prop := ∀ (x y : AVal) (L M : List Part) (R : List (List AVal)) (h : za) (Q : AVal → za → Prop), SlX h 2 x (L.map Part.cs) zj0 → SlX h 2 y (M.map Part.cs) R → L.length ≤ 100000000 →
 Q (.bool (decide (L = M))) h → C (N 324) [x, y] h Q
theorem zca.spec (i : zca.Imp C N) (s1 : zc2.Spec C N) : zca.Spec C N := fun x y L M R h Q hx hy hlen hq =>
 i x y h Q (zrm partF (m := 1) (mk := zm8 1) (s1 1) hx hy hlen (zj hq))
def zcx.Spec (C : CSem) (N : Nat → Nat) : Prop := ∀ (h0 h : za) (x : AVal) (L R : List (List AVal)) (Q : AVal → za → Prop), Owns h0 h [.sl 2 x L R] → R.length = 12 → L.length ≤ 100000000 → (∀ h', h0.le h' → Q (.tup []) h') → C (N 408) [x] h Q
theorem zcx.spec (i : zcx.Imp C N) (s1 : zc2.Spec C N) : zcx.Spec C N := fun h0 h x L R Q ho hR hlen hq =>
 i x h Q (zm4 (es := 2) (st := fun h p v K => B.stn h p 2 v K) (by omega) (v := fun i => .agg (zm8 2 i).cs) (s1 2) (fun {_ _ _ _ _ _ k _} ho hi hK => over_stN (xs := (zm8 2 k).cs) rfl ho hi hK) ho hR hlen fun h' hle => zj (hq h' hle))
def zm9 (k i : Int) : Line := ⟨mark k i, [], 0, 0, 0, 0, 0, []⟩
def zc3.Spec (C : CSem) (N : Nat → Nat) : Prop := ∀ (k i : Int) (h : za) (Q : AVal → za → Prop), Q (.agg (zm9 k i).cs) h → C (N 111) [.int .i64 k, .int .i64 i] h Q
theorem zc3.spec (i : zc3.Imp C N) (s1 : ze7.Spec C N) : zc3.Spec C N := by
 intro k j h Q hq
 apply i
 simp +contextual -dsimp
 refine s1 _ _ _ _ ?_
 simp +contextual -dsimp
 exact zj hq
abbrev zk3 : List (List AVal) := marks lineF (zm9 1) 12
def zco.Spec (C : CSem) (N : Nat → Nat) : Prop := ∀ (x y : AVal) (L M : List Line) (R S : List (List AVal)) (h : za) (Q : AVal → za → Prop), SlX h 8 x (L.map Line.cs) R → SlX h 8 y (M.map Line.cs) S → L.length < 4611686018427387904 →
 Q (.bool (decide (L = M))) h → C (N 135) [x, y] h Q
theorem zco.spec (i : zco.Imp C N) : zco.Spec C N := fun x y L M R S h Q hx hy hlen hq =>
 i x y h Q (zq6 lineF hx hy hlen (zj hq))
def zcr.Spec (C : CSem) (N : Nat → Nat) : Prop := ∀ (x : AVal) (L : List Line) (R : List (List AVal)) (h : za) (Q : AVal → za → Prop), SlX h 8 x (L.map Line.cs) R → L.length ≤ 100000000 →
 (∀ x' h', Owns h h' [.sl 8 x' (L.map Line.cs) zk3] → Q x' h') → C (N 186) [x] h Q
theorem zcr.spec (i : zcr.Imp C N) (s1 : zc3.Spec C N) : zcr.Spec C N := fun x L R h Q hx hlen hq =>
 i x h Q (zrk lineF (z := [.int .i64 0, .str [], .int .i64 0, .int .i64 0, .int .i64 0, .int .u8 0, .int .i64 0, .str []]) (m := 1) (mk := zm9 1) rfl (by omega) (s1 1) hx hlen fun x' h' ho => zj (hq x' h' ho))
def zcb.Spec (C : CSem) (N : Nat → Nat) : Prop := ∀ (x y : AVal) (L M : List Line) (R : List (List AVal)) (h : za) (Q : AVal → za → Prop), SlX h 8 x (L.map Line.cs) zk3 → SlX h 8 y (M.map Line.cs) R → L.length ≤ 100000000 →
 Q (.bool (decide (L = M))) h → C (N 189) [x, y] h Q
theorem zcb.spec (i : zcb.Imp C N) (s1 : zc3.Spec C N) : zcb.Spec C N := fun x y L M R h Q hx hy hlen hq =>
 i x y h Q (zrm lineF (m := 1) (mk := zm9 1) (s1 1) hx hy hlen (zj hq))
def zcy.Spec (C : CSem) (N : Nat → Nat) : Prop := ∀ (h0 h : za) (x : AVal) (L R : List (List AVal)) (Q : AVal → za → Prop), Owns h0 h [.sl 8 x L R] → R.length = 12 → L.length ≤ 100000000 → (∀ h', h0.le h' → Q (.tup []) h') → C (N 190) [x] h Q
theorem zcy.spec (i : zcy.Imp C N) (s1 : zc3.Spec C N) : zcy.Spec C N := fun h0 h x L R Q ho hR hlen hq =>
 i x h Q (zm4 (es := 8) (st := fun h p v K => B.stn h p 8 v K) (by omega) (v := fun i => .agg (zm9 2 i).cs) (s1 2) (fun {_ _ _ _ _ _ k _} ho hi hK => over_stN (xs := (zm9 2 k).cs) rfl ho hi hK) ho hR hlen fun h' hle => zj (hq h' hle))
@[irreducible] def zg7 (k i : Int) : UInt8 := byt ((IntKind.u64.wrap (IntKind.u64.wrap (mark k i) * 11400714819323198485)).fdiv (2 ^ 56))
def zc9.Spec (C : CSem) (N : Nat → Nat) : Prop := ∀ (k i : Int) (h : za) (Q : AVal → za → Prop), Q (.int .u8 ((zg7 k i).toNat : Int)) h → C (N 64) [.int .i64 k, .int .i64 i] h Q
theorem zc9.spec (i : zc9.Imp C N) (s1 : ze7.Spec C N) : zc9.Spec C N := by
 intro k j h Q hq
 apply i
 simp +contextual -dsimp
 refine s1 _ _ _ _ ?_
 unfold zg7 at hq
 simp +contextual -dsimp [zrs (k := .u64) (j := .u64) (b := 56) (by omega) (by simp [IntKind.bits]), zke]
 exact zj hq
abbrev marksByte : List (List AVal) := zgr bS (zg7 1) 12
@[irreducible] def zm7 (k i : Int) : List UInt8 := [35, byt k, byt (k.fdiv 256), byt (k.fdiv 65536), 47, byt i, byt (i.fdiv 256), byt (i.fdiv 65536)]
def zc1.Spec (C : CSem) (N : Nat → Nat) : Prop := ∀ (k i : Int) (h : za) (Q : AVal → za → Prop), Q (.str (zm7 k i)) h → C (N 106) [.int .i64 k, .int .i64 i] h Q
theorem zc1.spec (i : zc1.Imp C N) : zc1.Spec C N := by
 intro k j h Q hq
 apply i
 simp +contextual -dsimp [zrs (k := .i64) (j := .u64) (b := 8) (by omega) (by simp [IntKind.bits]), zrs (k := .i64) (j := .u64) (b := 16) (by omega) (by simp [IntKind.bits]), zke]
 intro id hid
 unfold zm7 at hq
 have hx : SlX (upd h id (zel [.int .u8 35, .int .u8 ((byt k).toNat : Int), .int .u8 ((byt (k.fdiv 256)).toNat : Int), .int .u8 ((byt (k.fdiv 65536)).toNat : Int), .int .u8 47, .int .u8 ((byt j).toNat : Int), .int .u8 ((byt (j.fdiv 256)).toNat : Int), .int .u8 ((byt (j.fdiv 65536)).toNat : Int)])) 1 (.sl id 0 0 8 1 8) (([35, byt k, byt (k.fdiv 256), byt (k.fdiv 65536), 47, byt j, byt (j.fdiv 256), byt (j.fdiv 65536)] : List UInt8).map bc) [] :=
  SlX.lit (z7 ..) (by simp) rfl (by simp) rfl
 rw [ziq hx]
 exact zsu (zha _ hid) hq
abbrev ziv : List (List AVal) := zgr tS (zm7 1) 12
def zcl.Spec (C : CSem) (N : Nat → Nat) : Prop := ∀ (x y : AVal) (L M : List (List UInt8)) (R S : List (List AVal)) (h : za) (Q : AVal → za → Prop), SlX h 1 x (L.map tc) R → SlX h 1 y (M.map tc) S → L.length < 4611686018427387904 →
 Q (.bool (decide (L = M))) h → C (N 133) [x, y] h Q
theorem zcl.spec (i : zcl.Imp C N) : zcl.Spec C N := fun x y L M R S h Q hx hy hlen hq =>
 i x y h Q (zu6 tS hx hy hlen (zj hq))
def zcp.Spec (C : CSem) (N : Nat → Nat) : Prop := ∀ (x : AVal) (L : List (List UInt8)) (R : List (List AVal)) (h : za) (Q : AVal → za → Prop), SlX h 1 x (L.map tc) R → L.length ≤ 100000000 →
 (∀ x' h', Owns h h' [.sl 1 x' (L.map tc) ziv] → Q x' h') → C (N 406) [x] h Q
theorem zcp.spec (i : zcp.Imp C N) (s1 : zc1.Spec C N) : zcp.Spec C N := fun x L R h Q hx hlen hq =>
 i x h Q (lentS_spec tS (z := .str []) (m := 1) (mk := zm7 1) (by omega) (s1 1) hx hlen fun x' h' ho => zj (hq x' h' ho))
def zb9.Spec (C : CSem) (N : Nat → Nat) : Prop := ∀ (x y : AVal) (L M : List (List UInt8)) (R : List (List AVal)) (h : za) (Q : AVal → za → Prop), SlX h 1 x (L.map tc) ziv → SlX h 1 y (M.map tc) R → L.length ≤ 100000000 →
 Q (.bool (decide (L = M))) h → C (N 407) [x, y] h Q
theorem zb9.spec (i : zb9.Imp C N) (s1 : zc1.Spec C N) : zb9.Spec C N := fun x y L M R h Q hx hy hlen hq =>
 i x y h Q (keptS_spec tS (m := 1) (mk := zm7 1) (s1 1) hx hy hlen (zj hq))
def zcv.Spec (C : CSem) (N : Nat → Nat) : Prop := ∀ (h0 h : za) (x : AVal) (L R : List (List AVal)) (Q : AVal → za → Prop), Owns h0 h [.sl 1 x L R] → R.length = 12 → L.length ≤ 100000000 → (∀ h', h0.le h' → Q (.tup []) h') → C (N 409) [x] h Q
theorem zcv.spec (i : zcv.Imp C N) (s1 : zc1.Spec C N) : zcv.Spec C N := fun h0 h x L R Q ho hR hlen hq =>
 i x h Q (zm4 (es := 1) (st := fun h p v K => B.st h p v K) (by omega) (v := fun i => .str (zm7 2 i)) (s1 2) (fun ho hi hK => over_stS rfl ho hi hK) ho hR hlen fun h' hle => zj (hq h' hle))
abbrev LG := List AVal → za → (List AVal → za → Prop) → Prop
@[simp] def z0 (v0 : AVal) (X : za → Prop) : LG
 | [v], h, Y => B.pv (V.zi v0) fun n => B.pv (V.bin .lss v n) fun b => B.cond b (False) (X h)
 | _, _, _ => False
def z5 (Q : AVal → za → Prop) (v0 w : AVal) (h : za) : Prop := zg (z0 v0 fun h => Q (.bool true) h) [.int .i64 0] h
def z4 (Q : AVal → za → Prop) (v0 w : AVal) (h : za) : Prop := zg (z0 v0 (z5 Q v0 w)) [.int .i64 0] h
def z3 (Q : AVal → za → Prop) (v0 w : AVal) (h : za) : Prop := zg (z0 v0 (z4 Q v0 w)) [.int .i64 0] h
def z2 (Q : AVal → za → Prop) (v0 w : AVal) (h : za) : Prop := zg (z0 v0 (z3 Q v0 w)) [.int .i64 0] h
def z1 (Q : AVal → za → Prop) (v0 : AVal) (h : za) : Prop := B.pv (V.zi v0) fun n => 0 < 1 ∧ B.mks h 24 (some [.nils]) n n fun w h => z2 Q v0 w h
def zf8 (v0 : AVal) (h : za) (Q : AVal → za → Prop) : Prop := zg (z0 v0 (z1 Q v0)) [.int .i64 0] h
theorem z0_nil {h0 h : za} {x : AVal} {W : List (List AVal)} {X : za → Prop} (hx : SlX h0 1 x [] W) (hX : X h) : zg (z0 x X) [.int .i64 0] h := by
 refine zg.intro (fun n vs hh => vs = [.int .i64 0] ∧ hh = h) 0 ?_ ⟨rfl, rfl⟩
 rintro Y n vs hh ⟨rfl, rfl⟩ hY
 have l := hx.zi
 simp -dsimp [l]
 exact hX
theorem zes {C : CSem} {g : Nat} (i : ∀ (v0 : AVal) (h : za) (Q : AVal → za → Prop), zf8 v0 h (dn Q) → C g [v0] h Q) : zbv C g := fun x W h0 h Q hx hle hq => by
 refine i x h Q (z0_nil (hx.mono hle) ?_)
 have l := (hx.mono hle).zi
 unfold z1
 rw [l]
 refine ⟨by omega, ?_⟩
 refine (Owns.start h).mks (bytes := 24) (es := 1) (n := 0) (c := 0) (z := [.nils]) rfl (by omega) (by omega) (by omega) (by omega) fun y h1 ho => ?_
 have h1x := hx.mono (za.le_trans hle ho.le)
 exact z0_nil h1x (z0_nil h1x (z0_nil h1x (z0_nil h1x (zj (hq _ (za.le_trans hle ho.le))))))
def ze8.Imp0 (C : CSem) (N : Nat → Nat) : Prop := ∀ (v0 : AVal) (h : za) (Q : AVal → za → Prop), zf8 v0 h (dn Q) → C (N 80) [v0] h Q
theorem ze8.nil0 {C : CSem} {N : Nat → Nat} (i : ze8.Imp0 C N) : zbv C (N 80) := zes i
def zfv.Imp0 (C : CSem) (N : Nat → Nat) : Prop := ∀ (v0 : AVal) (h : za) (Q : AVal → za → Prop), zf8 v0 h (dn Q) → C (N 81) [v0] h Q
theorem zfv.nil0 {C : CSem} {N : Nat → Nat} (i : zfv.Imp0 C N) : zbv C (N 81) := zes i
def zfh.Imp0 (C : CSem) (N : Nat → Nat) : Prop := ∀ (v0 : AVal) (h : za) (Q : AVal → za → Prop), zf8 v0 h (dn Q) → C (N 82) [v0] h Q
theorem zfh.nil0 {C : CSem} {N : Nat → Nat} (i : zfh.Imp0 C N) : zbv C (N 82) := zes i
def zfb.Imp0 (C : CSem) (N : Nat → Nat) : Prop := ∀ (v0 : AVal) (h : za) (Q : AVal → za → Prop), zf8 v0 h (dn Q) → C (N 83) [v0] h Q
theorem zfb.nil0 {C : CSem} {N : Nat → Nat} (i : zfb.Imp0 C N) : zbv C (N 83) := zes i
def zep.Imp0 (C : CSem) (N : Nat → Nat) : Prop := ∀ (v0 : AVal) (h : za) (Q : AVal → za → Prop), zf8 v0 h (dn Q) → C (N 85) [v0] h Q
theorem zep.nil0 {C : CSem} {N : Nat → Nat} (i : zep.Imp0 C N) : zbv C (N 85) := zes i
def zfu.Imp0 (C : CSem) (N : Nat → Nat) : Prop := ∀ (v0 : AVal) (h : za) (Q : AVal → za → Prop), zf8 v0 h (dn Q) → C (N 86) [v0] h Q
theorem zfu.nil0 {C : CSem} {N : Nat → Nat} (i : zfu.Imp0 C N) : zbv C (N 86) := zes i
def ze9.Imp0 (C : CSem) (N : Nat → Nat) : Prop := ∀ (v0 : AVal) (h : za) (Q : AVal → za → Prop), zf8 v0 h (dn Q) → C (N 87) [v0] h Q
theorem ze9.nil0 {C : CSem} {N : Nat → Nat} (i : ze9.Imp0 C N) : zbv C (N 87) := zes i
def zft.Imp0 (C : CSem) (N : Nat → Nat) : Prop := ∀ (v0 : AVal) (h : za) (Q : AVal → za → Prop), zf8 v0 h (dn Q) → C (N 88) [v0] h Q
theorem zft.nil0 {C : CSem} {N : Nat → Nat} (i : zft.Imp0 C N) : zbv C (N 88) := zes i
def zff.Imp0 (C : CSem) (N : Nat → Nat) : Prop := ∀ (v0 : AVal) (h : za) (Q : AVal → za → Prop), zf8 v0 h (dn Q) → C (N 89) [v0] h Q
theorem zff.nil0 {C : CSem} {N : Nat → Nat} (i : zff.Imp0 C N) : zbv C (N 89) := zes i
def zfj.Imp0 (C : CSem) (N : Nat → Nat) : Prop := ∀ (v0 : AVal) (h : za) (Q : AVal → za → Prop), zf8 v0 h (dn Q) → C (N 90) [v0] h Q
theorem zfj.nil0 {C : CSem} {N : Nat → Nat} (i : zfj.Imp0 C N) : zbv C (N 90) := zes i
def zfi.Imp0 (C : CSem) (N : Nat → Nat) : Prop := ∀ (v0 : AVal) (h : za) (Q : AVal → za → Prop), zf8 v0 h (dn Q) → C (N 91) [v0] h Q
theorem zfi.nil0 {C : CSem} {N : Nat → Nat} (i : zfi.Imp0 C N) : zbv C (N 91) := zes i
def zfw.Imp0 (C : CSem) (N : Nat → Nat) : Prop := ∀ (v0 : AVal) (h : za) (Q : AVal → za → Prop), zf8 v0 h (dn Q) → C (N 92) [v0] h Q
theorem zfw.nil0 {C : CSem} {N : Nat → Nat} (i : zfw.Imp0 C N) : zbv C (N 92) := zes i
def zfc.Imp0 (C : CSem) (N : Nat → Nat) : Prop := ∀ (v0 : AVal) (h : za) (Q : AVal → za → Prop), zf8 v0 h (dn Q) → C (N 93) [v0] h Q
theorem zfc.nil0 {C : CSem} {N : Nat → Nat} (i : zfc.Imp0 C N) : zbv C (N 93) := zes i
def zez.Imp0 (C : CSem) (N : Nat → Nat) : Prop := ∀ (v0 : AVal) (h : za) (Q : AVal → za → Prop), zf8 v0 h (dn Q) → C (N 94) [v0] h Q
theorem zez.nil0 {C : CSem} {N : Nat → Nat} (i : zez.Imp0 C N) : zbv C (N 94) := zes i
def zfa.Imp0 (C : CSem) (N : Nat → Nat) : Prop := ∀ (v0 : AVal) (h : za) (Q : AVal → za → Prop), zf8 v0 h (dn Q) → C (N 96) [v0] h Q
theorem zfa.nil0 {C : CSem} {N : Nat → Nat} (i : zfa.Imp0 C N) : zbv C (N 96) := zes i
def zfk.Imp0 (C : CSem) (N : Nat → Nat) : Prop := ∀ (v0 : AVal) (h : za) (Q : AVal → za → Prop), zf8 v0 h (dn Q) → C (N 97) [v0] h Q
theorem zfk.nil0 {C : CSem} {N : Nat → Nat} (i : zfk.Imp0 C N) : zbv C (N 97) := zes i
def zer.Imp0 (C : CSem) (N : Nat → Nat) : Prop := ∀ (v0 : AVal) (h : za) (Q : AVal → za → Prop), zf8 v0 h (dn Q) → C (N 98) [v0] h Q
theorem zer.nil0 {C : CSem} {N : Nat → Nat} (i : zer.Imp0 C N) : zbv C (N 98) := zes i
def zfg.Imp0 (C : CSem) (N : Nat → Nat) : Prop := ∀ (v0 : AVal) (h : za) (Q : AVal → za → Prop), zf8 v0 h (dn Q) → C (N 99) [v0] h Q
theorem zfg.nil0 {C : CSem} {N : Nat → Nat} (i : zfg.Imp0 C N) : zbv C (N 99) := zes i
def zeq.Imp0 (C : CSem) (N : Nat → Nat) : Prop := ∀ (v0 : AVal) (h : za) (Q : AVal → za → Prop), zf8 v0 h (dn Q) → C (N 100) [v0] h Q
theorem zeq.nil0 {C : CSem} {N : Nat → Nat} (i : zeq.Imp0 C N) : zbv C (N 100) := zes i
def zfe.Imp0 (C : CSem) (N : Nat → Nat) : Prop := ∀ (v0 : AVal) (h : za) (Q : AVal → za → Prop), zf8 v0 h (dn Q) → C (N 101) [v0] h Q
theorem zfe.nil0 {C : CSem} {N : Nat → Nat} (i : zfe.Imp0 C N) : zbv C (N 101) := zes i
def zfd.Imp0 (C : CSem) (N : Nat → Nat) : Prop := ∀ (v0 : AVal) (h : za) (Q : AVal → za → Prop), zf8 v0 h (dn Q) → C (N 102) [v0] h Q
theorem zfd.nil0 {C : CSem} {N : Nat → Nat} (i : zfd.Imp0 C N) : zbv C (N 102) := zes i
section
variable {P : Program} {C : CSem} {I : Bx}
theorem eZ (hC : zjk C) {c : Code} {Q : Ex → z6 → za → Prop} {s : z6} {h : za} (keep live : List Nat) (G : List AVal → LG) (hr : zg (G (keep.map s)) (live.map s) h)
  (hG : ∀ (Y : List AVal → za → Prop) (s : z6) (h : za), bwp P C I (cA (cA (cA c))) (Ex.then (fun _ _ => False) (Ex.then (fun s h => Y (live.map s) h) (Ex.inBlock (cI c) Q))) s h = G (keep.map s) (live.map s) h Y)
  (hk : isK c = true) (hl : isL (cA c) = true) (hw : (keep.all fun k => !memB (zhb P I (cA (cA c))) k) = true) (hs : isS (cA (cA c)) = true) : bwp P C I c Q s h :=
 eK (eL hC keep live G hr (fun Y s h hR => eS hC (fun _ _ => False) ((hG Y s h).mpr hR) (fun _ _ f => f.elim) hs) hl hw) hk
theorem eU (hC : zjk C) {c : Code} {Q : Ex → z6 → za → Prop} {s : z6} {h : za} (keep live : List Nat) (G : List AVal → LG) (X : z6 → za → Prop) (hr : zg (G (keep.map s)) [.int .i64 0] h) (hX : ∀ s h, X s h → bwp P C I (cB c) Q s h)
  (h1 : bwp P C I (cA (cA c)) (Ex.then (fun s h => zg (G (keep.map s)) (live.map s) h) (Ex.then X Q)) s h = zg (G (keep.map s)) [.int .i64 0] h := by kernel_rfl)
  (hG : ∀ (Y : List AVal → za → Prop) (s : z6) (h : za), bwp P C I (cA (cA (cA (cB (cA c))))) (Ex.then (fun _ _ => False) (Ex.then (fun s h => Y (live.map s) h) (Ex.inBlock (cI (cB (cA c))) (Ex.then X Q)))) s h = G (keep.map s) (live.map s) h Y := by intros; kernel_rfl)
  (hk : (isS c && isS (cA c) && isK (cB (cA c)) && isL (cA (cB (cA c))) && isS (cA (cA (cB (cA c)))) && keep.all fun k => !memB (zhb P I (cA (cA (cB (cA c))))) k) = true := by kernel_rfl) : bwp P C I c Q s h := by
 simp only [Bool.and_eq_true] at hk
 obtain ⟨⟨⟨⟨⟨k1, k2⟩, k3⟩, k4⟩, k5⟩, k6⟩ := hk
 exact eS hC X (eS hC (fun s h => zg (G (keep.map s)) (live.map s) h) (h1.mpr hr) (fun s h hR => eZ hC keep live G hR hG k3 k4 k6 k5) k2) hX k1
abbrev F0 (P : Program) (fn : Func) (I : Bx) : Prop := ∀ {C : CSem} (hC : zjk C) (Q : AVal → za → Prop) (s : z6) (h : za), zf8 (s 0) h Q → bwp P C I (fn.body.getD .skip) (retB P I fn.results.toList Q) s h
abbrev g1 (f : AVal → LG) : List AVal → LG := fun kv lv h Y => match kv with | [a] => f a lv h Y | _ => False
abbrev g2 (f : AVal → AVal → LG) : List AVal → LG := fun kv lv h Y => match kv with | [a, b] => f a b lv h Y | _ => False
end
@[simp] def zdx.cps (C : CSem) (N : Nat → Nat) (v0 v1 : AVal) (h : za) (Q : AVal → za → Prop) : Prop :=
 B.zek h v0 fun v6 =>
  B.zek h v1 fun v8 =>
  B.pv (V.bin .eql v6 v8) fun v9 =>
  Q v9 h
def zdx.Imp (C : CSem) (N : Nat → Nat) : Prop := ∀ (v0 v1 : AVal) (h : za) (Q : AVal → za → Prop), zdx.cps C N v0 v1 h (dn Q) → C (N 273) [v0, v1] h Q
@[simp] def zdl.cps (C : CSem) (N : Nat → Nat) (v0 v1 : AVal) (h : za) (Q : AVal → za → Prop) : Prop :=
 B.call C (N 303) [v0, v1] h fun v7 h =>
  Q v7 h
def zdl.Imp (C : CSem) (N : Nat → Nat) : Prop := ∀ (v0 v1 : AVal) (h : za) (Q : AVal → za → Prop), zdl.cps C N v0 v1 h (dn Q) → C (N 274) [v0, v1] h Q
@[simp] def zeb.cps (C : CSem) (N : Nat → Nat) (v0 : AVal) (h : za) (Q : AVal → za → Prop) : Prop :=
 B.pv (V.eqSl .eql v0 .nils) fun v4 =>
  B.cond v4
  (Q .nils h)
  (B.appW h 1 1 .sz v0 fun v7 h =>
  Q v7 h)
def zeb.Imp (C : CSem) (N : Nat → Nat) : Prop := ∀ (v0 : AVal) (h : za) (Q : AVal → za → Prop), zeb.cps C N v0 h (dn Q) → C (N 428) [v0] h Q
@[simp] def zcd.k1 (C : CSem) (N : Nat → Nat) (Q : AVal → za → Prop) (v0 v1 : AVal) (h : za) : Prop :=
 B.pv (V.zi v0) fun v6 =>
  B.pv (V.zi v1) fun v8 =>
  B.pv (V.bin .geq v6 v8) fun v9 =>
  B.gd h v9 true (fun K => K v0 h) fun v11 h =>
  B.gd h v9 true (fun K => K v1 h) fun v12 h =>
  B.gd h v9 true (fun K => B.pv (V.zi v12) fun v => K v h) fun v13 h =>
  B.gd h v9 true (fun K => B.pv (V.zfs 1 v11 none (some v13)) fun v => K v h) fun v14 h =>
  B.gd h v9 true (fun K => K v1 h) fun v15 h =>
  B.gd h v9 true (fun K => B.call C (N 273) [v14, v15] h K) fun v16 h =>
  B.pick v9 v16 (.bool false) fun v17 =>
  Q v17 h
@[simp] def zcd.cps (C : CSem) (N : Nat → Nat) (v0 v1 : AVal) (h : za) (Q : AVal → za → Prop) : Prop :=
 zcd.k1 C N Q v0 v1 h
def zcd.Imp (C : CSem) (N : Nat → Nat) : Prop := ∀ (v0 v1 : AVal) (h : za) (Q : AVal → za → Prop), zcd.cps C N v0 v1 h (dn Q) → C (N 436) [v0, v1] h Q
@[simp] def ze4.k1 (C : CSem) (N : Nat → Nat) (Q : AVal → za → Prop) (v0 : AVal) (h : za) : Prop :=
 B.pv (V.bin .neq v0 (.str [])) fun v4 =>
  B.gd h v4 true (fun K => K v0 h) fun v6 h =>
  B.gd h v4 true (fun K => B.call C (N 53) [v6] h K) fun v7 h =>
  B.gd h v4 true (fun K => B.pv (V.un .not v7) fun v => K v h) fun v8 h =>
  B.pick v4 v8 (.bool false) fun v9 =>
  B.cond v9
  (Q .nils h)
  (B.pv (V.zki v0) fun v11 =>
  B.pv (V.toInt .u8 v11) fun v12 =>
  B.zgk h v0 fun v14 h =>
  B.call C (N 79) [v12, v14] h fun v15 h =>
  Q v15 h)
@[simp] def ze4.cps (C : CSem) (N : Nat → Nat) (v0 : AVal) (h : za) (Q : AVal → za → Prop) : Prop :=
 ze4.k1 C N Q v0 h
def ze4.Imp (C : CSem) (N : Nat → Nat) : Prop := ∀ (v0 : AVal) (h : za) (Q : AVal → za → Prop), ze4.cps C N v0 h (dn Q) → C (N 51) [v0] h Q
@[simp] def zb3.k1 (C : CSem) (N : Nat → Nat) (Q : AVal → za → Prop) (v0 : AVal) (h : za) : Prop :=
 B.pv (V.bin .neq v0 (.str [])) fun v34 =>
  B.gd h v34 true (fun K => K v0 h) fun v36 h =>
  B.gd h v34 true (fun K => B.pv (V.zki v36) fun v => K v h) fun v37 h =>
  B.gd h v34 true (fun K => B.pv (V.bin .leq v37 (.int .i64 12)) fun v => K v h) fun v38 h =>
  B.pick v34 v38 (.bool false) fun v39 =>
  Q v39 h
@[simp] def zb3.k2 (C : CSem) (N : Nat → Nat) (Q : AVal → za → Prop) (Y1 : List AVal → za → Prop) (v0 v6 : AVal) (h : za) : Prop :=
 B.zge h v6 fun v7 h =>
  B.pv (V.ext 0 v7) fun v8 =>
  B.cond v8
  (B.pv (V.ext 1 v7) fun v9 =>
  B.pv (V.ext 2 v7) fun v10 =>
  B.pv (V.bin .geq v10 (.int .i32 65)) fun v13 =>
  B.gd h v13 true (fun K => K v10 h) fun v15 h =>
  B.gd h v13 true (fun K => B.pv (V.bin .leq v15 (.int .i32 90)) fun v => K v h) fun v16 h =>
  B.pick v13 v16 (.bool false) fun v17 =>
  B.cond v17
  (Y1 [] h)
  (B.pv (V.bin .gtr v9 (.int .i64 0)) fun v20 =>
  B.gd h v20 true (fun K => K v10 h) fun v22 h =>
  B.gd h v20 true (fun K => B.pv (V.bin .geq v22 (.int .i32 48)) fun v => K v h) fun v23 h =>
  B.gd h v20 true (fun K => K v23 h) fun v24 h =>
  B.gd h v24 true (fun K => K v10 h) fun v25 h =>
  B.gd h v24 true (fun K => B.pv (V.bin .leq v25 (.int .i32 57)) fun v => K v h) fun v26 h =>
  B.gd h v20 true (fun K => B.pick v24 v26 (.bool false) fun v => K v h) fun v27 h =>
  B.gd h v20 true (fun K => K v27 h) fun v28 h =>
  B.gd h v28 false (fun K => K v10 h) fun v29 h =>
  B.gd h v28 false (fun K => B.pv (V.bin .eql v29 (.int .i32 45)) fun v => K v h) fun v30 h =>
  B.gd h v20 true (fun K => B.pick v28 (.bool true) v30 fun v => K v h) fun v31 h =>
  B.pick v20 v31 (.bool false) fun v32 =>
  B.cond v32
  (Y1 [] h)
  (Q (.bool false) h)))
  (zb3.k1 C N Q v0 h)
@[simp] def zb3.l3 (C : CSem) (N : Nat → Nat) (Q : AVal → za → Prop) (v0 v6 : AVal) : List AVal → za → (List AVal → za → Prop) → Prop
 | [], h, Y1 => zb3.k2 C N Q Y1 v0 v6 h
 | _, _, _ => False
@[simp] def zb3.cps (C : CSem) (N : Nat → Nat) (v0 : AVal) (h : za) (Q : AVal → za → Prop) : Prop :=
 B.zhj h v0 fun v6 h =>
  zg (zb3.l3 C N Q v0 v6) [] h
def zb3.Imp (C : CSem) (N : Nat → Nat) : Prop := ∀ (v0 : AVal) (h : za) (Q : AVal → za → Prop), zb3.cps C N v0 h (dn Q) → C (N 53) [v0] h Q
@[simp] def zf9.cps (C : CSem) (N : Nat → Nat) (v0 v1 : AVal) (h : za) (Q : AVal → za → Prop) : Prop :=
 B.newO h (zc7 [(0, none, v0)] (repL 1 [.int .u8 0])) fun i6 h =>
  B.appW h 1 1 (.sl i6 0 0 1 1 1) v1 fun v8 h =>
  Q v8 h
def zf9.Imp (C : CSem) (N : Nat → Nat) : Prop := ∀ (v0 v1 : AVal) (h : za) (Q : AVal → za → Prop), zf9.cps C N v0 v1 h (dn Q) → C (N 79) [v0, v1] h Q
@[simp] def zfn.k1 (C : CSem) (N : Nat → Nat) (Q : AVal → za → Prop) (v0 : AVal) (h : za) : Prop :=
 B.pv (V.zi v0) fun v7 =>
  B.pv (V.bin .eql v7 (.int .i64 0)) fun v8 =>
  B.gd h v8 false (fun K => K v0 h) fun v10 h =>
  B.gd h v8 false (fun K => B.pv (V.zi v10) fun v => K v h) fun v11 h =>
  B.gd h v8 false (fun K => K v0 h) fun v12 h =>
  B.gd h v8 false (fun K => B.pv (V.idxS 1 v12 (.int .i64 0)) fun v => K v h) fun v13 h =>
  B.gd h v8 false (fun K => B.ld h v13 fun v => K v h) fun v14 h =>
  B.gd h v8 false (fun K => B.pv (V.toInt .i64 v14) fun v => K v h) fun v15 h =>
  B.gd h v8 false (fun K => B.pv (V.bin .add (.int .i64 1) v15) fun v => K v h) fun v16 h =>
  B.gd h v8 false (fun K => B.pv (V.bin .lss v11 v16) fun v => K v h) fun v17 h =>
  B.pick v8 (.bool true) v17 fun v18 =>
  B.cond v18
  (Q (.tup [(.str []), (.int .i64 0), (.bool false)]) h)
  (B.pv (V.idxS 1 v0 (.int .i64 0)) fun v21 =>
  B.ld h v21 fun v22 =>
  B.pv (V.toInt .i64 v22) fun v23 =>
  B.pv (V.bin .add (.int .i64 1) v23) fun v24 =>
  B.pv (V.zfs 1 v0 (some (.int .i64 1)) (some v24)) fun v25 =>
  B.zek h v25 fun v26 =>
  B.pv (V.bin .neq v26 (.str [])) fun v28 =>
  B.gd h v28 true (fun K => K v26 h) fun v30 h =>
  B.gd h v28 true (fun K => B.call C (N 53) [v30] h K) fun v31 h =>
  B.gd h v28 true (fun K => B.pv (V.un .not v31) fun v => K v h) fun v32 h =>
  B.pick v28 v32 (.bool false) fun v33 =>
  B.cond v33
  (Q (.tup [(.str []), (.int .i64 0), (.bool false)]) h)
  (B.pv (V.zki v26) fun v36 =>
  B.pv (V.bin .add (.int .i64 1) v36) fun v37 =>
  Q (.tup [v26, v37, (.bool true)]) h))
@[simp] def zfn.cps (C : CSem) (N : Nat → Nat) (v0 : AVal) (h : za) (Q : AVal → za → Prop) : Prop :=
 zfn.k1 C N Q v0 h
def zfn.Imp (C : CSem) (N : Nat → Nat) : Prop := ∀ (v0 : AVal) (h : za) (Q : AVal → za → Prop), zfn.cps C N v0 h (dn Q) → C (N 103) [v0] h Q
@[simp] def zen.k1 (C : CSem) (N : Nat → Nat) (Q : AVal → za → Prop) (v0 : AVal) (h : za) : Prop :=
 B.pv (V.bin .neq v0 (.str [])) fun v4 =>
  B.gd h v4 true (fun K => K v0 h) fun v6 h =>
  B.gd h v4 true (fun K => B.call C (N 61) [v6] h K) fun v7 h =>
  B.gd h v4 true (fun K => B.pv (V.un .not v7) fun v => K v h) fun v8 h =>
  B.pick v4 v8 (.bool false) fun v9 =>
  B.cond v9
  (Q .nils h)
  (B.pv (V.zki v0) fun v11 =>
  B.pv (V.toInt .u8 v11) fun v12 =>
  B.newO h (zc7 [(0, none, v12)] (repL 1 [.int .u8 0])) fun i13 h =>
  B.appS h 1 (.sl i13 0 0 1 1 1) v0 fun v15 h =>
  Q v15 h)
@[simp] def zen.cps (C : CSem) (N : Nat → Nat) (v0 : AVal) (h : za) (Q : AVal → za → Prop) : Prop :=
 zen.k1 C N Q v0 h
def zen.Imp (C : CSem) (N : Nat → Nat) : Prop := ∀ (v0 : AVal) (h : za) (Q : AVal → za → Prop), zen.cps C N v0 h (dn Q) → C (N 59) [v0] h Q
@[simp] def zbu.k1 (C : CSem) (N : Nat → Nat) (Q : AVal → za → Prop) (Y1 : List AVal → za → Prop) (v0 v3 : AVal) (h : za) : Prop :=
 B.pv (V.zki v0) fun v16 =>
  B.pv (V.bin .lss v3 v16) fun v17 =>
  B.cond v17
  (B.pv (V.zja v0 v3) fun v22 =>
  B.pv (V.bin .geq v22 (.int .u8 65)) fun v23 =>
  B.gd h v23 true (fun K => K v0 h) fun v25 h =>
  B.gd h v23 true (fun K => K v3 h) fun v26 h =>
  B.gd h v23 true (fun K => B.pv (V.zja v25 v26) fun v => K v h) fun v27 h =>
  B.gd h v23 true (fun K => B.pv (V.bin .leq v27 (.int .u8 90)) fun v => K v h) fun v28 h =>
  B.pick v23 v28 (.bool false) fun v29 =>
  B.pv (V.zja v0 v3) fun v32 =>
  B.pv (V.bin .geq v32 (.int .u8 48)) fun v33 =>
  B.gd h v33 true (fun K => K v0 h) fun v35 h =>
  B.gd h v33 true (fun K => K v3 h) fun v36 h =>
  B.gd h v33 true (fun K => B.pv (V.zja v35 v36) fun v => K v h) fun v37 h =>
  B.gd h v33 true (fun K => B.pv (V.bin .leq v37 (.int .u8 57)) fun v => K v h) fun v38 h =>
  B.pick v33 v38 (.bool false) fun v39 =>
  B.gd h v39 false (fun K => K v0 h) fun v41 h =>
  B.gd h v39 false (fun K => K v3 h) fun v42 h =>
  B.gd h v39 false (fun K => B.pv (V.zja v41 v42) fun v => K v h) fun v43 h =>
  B.gd h v39 false (fun K => B.pv (V.bin .eql v43 (.int .u8 45)) fun v => K v h) fun v44 h =>
  B.pick v39 (.bool true) v44 fun v45 =>
  B.pv (V.un .not v29) fun v47 =>
  B.gd h v47 true (fun K => K v3 h) fun v49 h =>
  B.gd h v47 true (fun K => B.pv (V.bin .eql v49 (.int .i64 0)) fun v => K v h) fun v50 h =>
  B.gd h v47 true (fun K => K v50 h) fun v51 h =>
  B.gd h v51 false (fun K => K v45 h) fun v52 h =>
  B.gd h v51 false (fun K => B.pv (V.un .not v52) fun v => K v h) fun v53 h =>
  B.gd h v47 true (fun K => B.pick v51 (.bool true) v53 fun v => K v h) fun v54 h =>
  B.pick v47 v54 (.bool false) fun v55 =>
  B.cond v55
  (Q (.bool false) h)
  (B.pv (V.bin .add v3 (.int .i64 1)) fun v19 =>
  Y1 [v19] h))
  (Q (.bool true) h)
@[simp] def zbu.l2 (C : CSem) (N : Nat → Nat) (Q : AVal → za → Prop) (v0 : AVal) : List AVal → za → (List AVal → za → Prop) → Prop
 | [v3], h, Y1 => zbu.k1 C N Q Y1 v0 v3 h
 | _, _, _ => False
@[simp] def zbu.k3 (C : CSem) (N : Nat → Nat) (Q : AVal → za → Prop) (v0 : AVal) (h : za) : Prop :=
 B.pv (V.zki v0) fun v7 =>
  B.pv (V.bin .lss v7 (.int .i64 1)) fun v8 =>
  B.gd h v8 false (fun K => K v0 h) fun v10 h =>
  B.gd h v8 false (fun K => B.pv (V.zki v10) fun v => K v h) fun v11 h =>
  B.gd h v8 false (fun K => B.pv (V.bin .gtr v11 (.int .i64 12)) fun v => K v h) fun v12 h =>
  B.pick v8 (.bool true) v12 fun v13 =>
  B.cond v13
  (Q (.bool false) h)
  (zg (zbu.l2 C N Q v0) [(.int .i64 0)] h)
@[simp] def zbu.cps (C : CSem) (N : Nat → Nat) (v0 : AVal) (h : za) (Q : AVal → za → Prop) : Prop :=
 zbu.k3 C N Q v0 h
def zbu.Imp (C : CSem) (N : Nat → Nat) : Prop := ∀ (v0 : AVal) (h : za) (Q : AVal → za → Prop), zbu.cps C N v0 h (dn Q) → C (N 61) [v0] h Q
theorem u8_lt (b : UInt8) : b.toNat < 256 := b.toNat_lt
theorem nextStr_at {h : za} {id : Nat} {b : Blk} {s : List UInt8} {pos : Nat} {K : AVal → za → Prop} (hb : h id = some b) (ho : b.obj = some (.iter s pos)) :
  (B.zge h (.ptr id 0 0) K : Prop) = if pos < s.length then K (.tup [.bool true, .int .i64 pos, .int .i32 (A.rune s pos).1]) (upd h id { b with obj := some (.iter s (pos + (A.rune s pos).2)) }) else K (.tup [.bool false]) h := by
 simp only [B.zge, A.zge, hb, ho]
theorem get_bang {s : List UInt8} {pos : Nat} {b : UInt8} (hb : s[pos]? = some b) : ((⟨s.toArray⟩ : ByteArray).get! pos) = b := by
 simp [ByteArray.get!, hb]
theorem rune_ascii {s : List UInt8} {pos : Nat} {b : UInt8} (hb : s[pos]? = some b) (h : b.toNat < 128) : A.rune s pos = (b.toNat, 1) := by
 unfold A.rune Utf8.decode
 simp only [Nat.add_zero, get_bang hb]
 rw [if_pos h]
theorem rune_high {s : List UInt8} {pos : Nat} {b : UInt8} (hb : s[pos]? = some b) (h : 128 ≤ b.toNat) : 128 ≤ (A.rune s pos).1 := by
 unfold A.rune Utf8.decode
 simp only [Nat.add_zero, get_bang hb]
 rw [if_neg (by omega)]
 split
 ·split <;> simp_all [Utf8.runeError]
 ·split
  ·split <;> simp_all [Utf8.runeError]; omega
  ·split
   ·split <;> simp_all [Utf8.runeError]; omega
   ·simp [Utf8.runeError]
def zmq (i : Nat) (b : UInt8) : Bool := (decide (65 ≤ b.toNat) && decide (b.toNat ≤ 90)) || (decide (0 < i) && ((decide (48 ≤ b.toNat) && decide (b.toNat ≤ 57)) || decide (b.toNat = 45)))
def zlw (s : List UInt8) : Nat → Bool
 | 0 => true
 | n + 1 => zlw s n && zmq n (s.getD n 0)
def zbb (s : List UInt8) : Bool := !s.isEmpty && decide (s.length ≤ 12) && zlw s s.length
theorem zvn {s : List UInt8} {k : Nat} (h : zlw s k = true) {b : UInt8} (hb : s[k]? = some b) (hc : zmq k b = false) : ∀ n, k < n → zlw s n = false
 | 0, h => by omega
 | n + 1, hn => by
  by_cases e : n = k
  ·subst e; simp [zlw, List.getD, hb, hc]
  ·rw [zlw, zvn h hb hc n (by omega)]; rfl
theorem zuq {s : List UInt8} {k : Nat} (h : zlw s k = true) {b : UInt8} (hb : s[k]? = some b) (hc : zmq k b = true) : zlw s (k + 1) = true := by
 simp [zlw, List.getD, hb, hc, h]
theorem zlo {s : List UInt8} {k : Nat} (h : zlw s k = true) {b : UInt8} (hb : s[k]? = some b) (hc : zmq k b = false) : zbb s = false := by
 have := zvn h hb hc s.length (List.getElem?_eq_some_iff.1 hb).1
 simp [zbb, this]
def zb3.Spec (C : CSem) (N : Nat → Nat) : Prop := ∀ (s : List UInt8) (h : za) (Q : AVal → za → Prop), Q (.bool (zbb s)) h → C (N 53) [.str s] h Q
def itB (s : List UInt8) (k : Nat) : Blk := { cells := [], gens := [], next := 1, own := true, obj := some (.iter s k) }
theorem zb3.spec (i : zb3.Imp C N) : zb3.Spec C N := by
 intro s h Q hq
 apply i
 simp only [zb3.cps]
 intro id hid
 refine zg.intro (fun n vs hh => ∃ k, k + n = s.length ∧ vs = [] ∧ hh = upd h id (itB s k) ∧ zlw s k = true) s.length ?_ ⟨0, by simp, rfl, rfl, rfl⟩
 rintro Y n vs hh ⟨k, hn, rfl, rfl, hc⟩ hY
 simp only [zb3.l3, zb3.k2]
 rw [nextStr_at (z7 ..) rfl]
 have hle : h.le (upd h id (itB s k)) := zha _ hid
 split
 ·rename_i hk
  obtain ⟨b, hb⟩ := zc6 hk
  by_cases hlt : b.toNat < 128
  ·rw [rune_ascii hb hlt, upd_upd]
   have next : zmq k b = true → Y [] (upd h id { cells := (itB s k).cells, gens := (itB s k).gens, next := (itB s k).next, own := (itB s k).own, obj := some (.iter s (k + 1)) }) := fun hcc =>
    hY (n - 1) _ _ (by omega) ⟨k + 1, by omega, rfl, rfl, zuq hc hb hcc⟩
   simp +contextual -dsimp
   refine B.ze (fun h1 => ?_) (fun h1 => ?_)
   ·exact next (by simp at h1; simp [zmq]; omega)
   ·simp +contextual -dsimp
    refine B.ze (fun h2 => ?_) (fun h2 => ?_)
    ·exact next (by simp at h2; simp [zmq]; omega)
    ·have := zlo hc hb (by simp at h1 h2; simp [zmq]; omega)
     rw [this] at hq
     exact zsu (zha _ hid) hq
  ·have hr := rune_high hb (by omega)
   have := zlo hc hb (by simp [zmq]; omega)
   rw [this] at hq
   simp +contextual -dsimp
   refine B.ze (fun h1 => ?_) (fun h1 => ?_)
   ·simp at h1; omega
   ·simp +contextual -dsimp
    refine B.ze (fun h2 => ?_) (fun h2 => ?_)
    ·simp at h2; omega
    ·exact zsu (zha _ hid) hq
 ·have hk : k = s.length := by omega
  subst hk
  have : zbb s = (!decide (s = []) && decide ((s.length : Int) ≤ 12)) := by
   unfold zbb
   rw [hc, Bool.and_true]
   cases s with
   | nil => rfl
   | cons a r => simp; omega
  rw [this] at hq
  simp +contextual -dsimp
  exact zsu hle hq
def zbu.Spec (C : CSem) (N : Nat → Nat) : Prop := ∀ (s : List UInt8) (h : za) (Q : AVal → za → Prop), Q (.bool (zbb s)) h → C (N 61) [.str s] h Q
theorem zug {s : List UInt8} {k : Nat} {b : UInt8} (hb : s[k]? = some b) : V.zja (.str s) (.int .i64 (k : Int)) = some (.int .u8 b.toNat) := by
 simp [V.zja, hb]
theorem zbu.spec (i : zbu.Imp C N) : zbu.Spec C N := by
 intro s h Q hq
 apply i
 simp +contextual -dsimp
 refine B.ze (fun h1 => ?_) (fun h1 => ?_)
 ·have : zbb s = false := by
   simp at h1
   cases s with
   | nil => rfl
   | cons a r => simp [zbb]; simp at h1; omega
  rw [this] at hq
  exact zj hq
 ·simp at h1
  refine zg.intro (fun n vs hh => ∃ k : Nat, k + n = s.length ∧ vs = [.int .i64 k] ∧ hh = h ∧ zlw s k = true) s.length ?_ ⟨0, by simp, by simp, rfl, rfl⟩
  rintro Y n vs hh ⟨k, hn, rfl, rfl, hc⟩ hY
  simp +contextual -dsimp
  refine B.ze (fun h2 => ?_) (fun h2 => ?_)
  ·simp at h2
   obtain ⟨b, hb⟩ := zc6 h2
   simp +contextual -dsimp [zug hb]
   refine B.ze (fun h3 => ?_) (fun h3 => ?_)
   ·have := zlo hc hb (by simp at h3; simp [zmq]; omega)
    rw [this] at hq
    exact zj hq
   ·simp +contextual -dsimp [zhg (n := k) (by omega)]
    exact hY (n - 1) _ _ (by omega) ⟨k + 1, by omega, by simp, rfl, zuq hc hb (by simp at h3; simp [zmq]; omega)⟩
  ·have hk : k = s.length := by simp at h2; omega
   subst hk
   have : zbb s = true := by
    unfold zbb
    rw [hc]
    cases s with
    | nil => simp at h1
    | cons a r => simp; simp at h1; omega
   rw [this] at hq
   exact zj hq
theorem bc_flat (s : List UInt8) : (s.map bc).flatten = s.map fun b => AVal.int .u8 b.toNat := by
 induction s with
 | nil => rfl
 | cons a r ih => simp only [List.map_cons, List.flatten_cons, ih]; rfl
theorem bc_len (s : List UInt8) : ∀ p ∈ s.map bc, p.length = 1 := fun p hp => by
 obtain ⟨b, _, rfl⟩ := List.mem_map.1 hp; rfl
theorem Owns.appS {h0 h : za} {l : List Ob} (ho : Owns h0 h l) (k : Nat) {bytes : Nat} {x : AVal} {L R : List (List AVal)} {s : List UInt8} {K : AVal → za → Prop} (hk : l[k]? = some (.sl 1 x L R)) (hb : (L.length + s.length) * bytes ≤ 140737488355328) (hm : L.length + s.length ≤ maxLen)
  (hK : ∀ x' h', Owns h0 h' (l.set k (.sl 1 x' (L ++ s.map bc) [])) → But x h h' → K x' h') : B.appS h bytes x (.str s) K := by
 have := (ho.slAt k hk).app (bytes := bytes) (M := s.map bc) (K := K) (ho.zod k hk) (by omega) (bc_len s) (by simpa using hb) (by simpa using hm) fun x' h' h1 h2 h3 h4 => hK x' h' (ho.turn k hk h1 h2 h3 h4) h3
 rw [bc_flat] at this
 exact this
theorem SlX.zjq {T : Type} {h : za} {es : Nat} {x : AVal} {f : T → List AVal} {L : List T} {R : List (List AVal)} (hs : SlX h es x (L.map f) R) (hes : 0 < es) {lo hi : Nat} {a b : Option AVal} (ha : a = none ∧ lo = 0 ∨ ∃ k, a = some (.int k lo)) (hb : b = none ∧ hi = L.length ∨ ∃ k, b = some (.int k hi)) (h1 : lo ≤ hi) (h2 : hi ≤ L.length) :
  ∃ x' R', V.zfs es x a b = some x' ∧ SlX h es x' (((L.take hi).drop lo).map f) R' ∧ foot x' = foot x := by
 obtain ⟨x', e1, e2, e3⟩ := hs.slice hes ha (by simpa using hb) h1 (by simp; omega)
 refine ⟨x', (L.map f ++ R).drop hi, e1, ?_, e3⟩
 rwa [List.take_append_of_le_length (by simpa using h2), ← List.map_take, ← List.map_drop] at e2
def zdq (s : List UInt8) : List UInt8 := if !s.isEmpty && !zbb s then [] else UInt8.ofNat s.length :: s
theorem zdp (s : List UInt8) : (zdq s).length ≤ 13 := by
 unfold zdq
 split
 ·simp
 ·rename_i h
  cases s with
  | nil => simp
  | cons a r => simp [zbb] at h ⊢; omega
theorem zln {s : List UInt8} (h : zbb s = true) : s.length ≤ 12 := by
 simp only [zbb, Bool.and_eq_true, decide_eq_true_eq] at h; omega
def zf9.Spec (C : CSem) (N : Nat → Nat) : Prop := ∀ (a : UInt8) (y : AVal) (M : List UInt8) (R : List (List AVal)) (h : za) (Q : AVal → za → Prop), SlX h 1 y (M.map bc) R → M.length ≤ 100000000 →
 (∀ x' h', Owns h h' [.sl 1 x' ((a :: M).map bc) []] → Q x' h') → C (N 79) [.int .u8 (a.toNat : Int), y] h Q
theorem zf9.spec (i : zf9.Imp C N) : zf9.Spec C N := by
 intro a y M R h Q hy hl hq
 apply i
 simp -dsimp
 intro id hid
 have ho := (Owns.start h).zof (id := id) (n := 1) (cp := 1) (es := 1) (cs := [.int .u8 (a.toNat : Int)]) (L := [bc a]) (R := []) hid (by simp) rfl (by simp) rfl
 exact ho.appW 0 rfl (hy.mono ho.le) (by omega) (by simp; omega) (by simp [maxLen]; omega) fun x' h' ho' _ => zj (hq x' h' ho')
def ze4.Spec (C : CSem) (N : Nat → Nat) : Prop := ∀ (s : List UInt8) (h : za) (Q : AVal → za → Prop), (∀ x' h', Owns h h' [.sl 1 x' ((zdq s).map bc) []] → Q x' h') → C (N 51) [.str s] h Q
theorem zur {s : List UInt8} (h : (!decide (s = []) && !zbb s) = true) : zdq s = [] := by
 unfold zdq
 rw [if_pos]
 cases s <;> simp_all
theorem zsf {s : List UInt8} (h : (!decide (s = []) && !zbb s) = false) : zdq s = UInt8.ofNat s.length :: s ∧ s.length ≤ 12 := by
 unfold zdq
 cases s with
 | nil => simp
 | cons a r =>
  simp only [List.isEmpty_cons, Bool.not_false, Bool.true_and]
  have h : zbb (a :: r) = true := by simpa using h
  rw [h]; exact ⟨rfl, zln h⟩
theorem ze4.spec (i : ze4.Imp C N) (s1 : zb3.Spec C N) (s2 : zf9.Spec C N) : ze4.Spec C N := by
 intro s h Q hq
 apply i
 simp +contextual -dsimp
 refine B.zea (fun _ _ hq => s1 _ _ _ hq) ?_
 simp +contextual -dsimp
 refine B.ze (fun hb => ?_) (fun hb => ?_)
 ·rw [zur hb] at hq
  exact zj (hq _ _ ((Owns.start h).nils 1))
 ·obtain ⟨e1, e2⟩ := zsf hb
  rw [e1] at hq
  simp +contextual -dsimp
  refine ⟨by omega, fun id hid => ?_⟩
  have ho := (Owns.start h).zof (id := id) (n := s.length) (cp := s.length) (es := 1) (cs := s.map fun b => .int .u8 b.toNat) (L := s.map bc) (R := []) hid (by simp) (by simp) (by simp) (by rw [List.append_nil, bc_flat])
  rw [u8_wrapN]
  refine s2 (UInt8.ofNat s.length) _ s [] _ _ (ho.slAt 0 rfl) (by omega) fun x' h' ho' => ?_
  exact zj (hq _ _ (ho'.back ho.le))
def zen.Spec (C : CSem) (N : Nat → Nat) : Prop := ∀ (s : List UInt8) (h : za) (Q : AVal → za → Prop), (∀ x' h', Owns h h' [.sl 1 x' ((zdq s).map bc) []] → Q x' h') → C (N 59) [.str s] h Q
theorem zen.spec (i : zen.Imp C N) (s1 : zbu.Spec C N) : zen.Spec C N := by
 intro s h Q hq
 apply i
 simp +contextual -dsimp
 refine B.zea (fun _ _ hq => s1 _ _ _ hq) ?_
 simp +contextual -dsimp
 refine B.ze (fun hb => ?_) (fun hb => ?_)
 ·rw [zur hb] at hq
  exact zj (hq _ _ ((Owns.start h).nils 1))
 ·obtain ⟨e1, e2⟩ := zsf hb
  rw [e1] at hq
  simp +contextual -dsimp
  intro id hid
  rw [u8_wrapN]
  have ho := (Owns.start h).zof (id := id) (n := 1) (cp := 1) (es := 1) (cs := [.int .u8 ((UInt8.ofNat s.length).toNat : Int)]) (L := [bc (UInt8.ofNat s.length)]) (R := []) hid (by simp) rfl (by simp) rfl
  exact ho.appS 0 rfl (by simp; omega) (by simp [maxLen]; omega) fun x' h' ho' _ => zj (hq x' h' ho')
def zgg : List UInt8 → List UInt8 × Nat × Bool
 | [] => ([], 0, false)
 | c :: r => if r.length < c.toNat ∨ (r.take c.toNat ≠ [] ∧ zbb (r.take c.toNat) = false) then ([], 0, false) else (r.take c.toNat, 1 + c.toNat, true)
theorem zkm (c : UInt8) (r : List UInt8) : zgg (c :: r) = if r.length < c.toNat ∨ (r.take c.toNat ≠ [] ∧ zbb (r.take c.toNat) = false) then ([], 0, false) else (r.take c.toNat, 1 + c.toNat, true) := rfl
@[simp] def cg (x : List UInt8 × Nat × Bool) : AVal := .tup [.str x.1, .int .i64 x.2.1, .bool x.2.2]
def zfn.Spec (C : CSem) (N : Nat → Nat) : Prop := ∀ (x : AVal) (b : List UInt8) (R : List (List AVal)) (h : za) (Q : AVal → za → Prop), SlX h 1 x (b.map bc) R → b.length < 4611686018427387904 → Q (cg (zgg b)) h → C (N 103) [x] h Q
theorem zfn.spec (i : zfn.Imp C N) (s1 : zb3.Spec C N) : zfn.Spec C N := by
 intro x b R h Q hx hl hq
 apply i
 have hlx := hx.zi
 rw [List.length_map] at hlx
 cases b with
 | nil =>
  simp +contextual -dsimp [hlx]
  exact zj hq
 | cons c r =>
  have e0 := hx.idxN (k := .i64) (i := 0) (by simp)
  have e1 : A.ldv h (elp 1 x 0 0) = some (.int .u8 c.toNat) := hx.cell (by simp; rfl)
  have hc := u8_lt c
  have e2 : IntKind.i64.wrap (c.toNat : Int) = (c.toNat : Int) := wrap_i64 (by omega) (by omega)
  have e3 : IntKind.i64.wrap (1 + (c.toNat : Int)) = 1 + (c.toNat : Int) := wrap_i64 (by omega) (by omega)
  have hI : ((1 + c.toNat : Nat) : Int) = 1 + (c.toNat : Int) := by omega
  simp only [Int.ofNat_eq_natCast, Int.natCast_zero] at e0
  simp +contextual -dsimp [hlx, e0, e1, e2, e3]
  simp only [List.length_cons] at hl
  refine B.ze (fun hb => ?_) (fun hb => ?_) <;> simp at hb
  ·have : zgg (c :: r) = ([], 0, false) := by rw [zkm, if_pos]; left; omega
   rw [this] at hq
   exact zj hq
  ·obtain ⟨x', R', e4, e5, _⟩ := hx.zjq (by omega) (lo := 1) (hi := 1 + c.toNat) (a := some (.int .i64 1)) (b := some (.int .i64 ((1 + c.toNat : Nat) : Int))) (.inr ⟨_, rfl⟩) (.inr ⟨_, rfl⟩) (by omega) (by simp; omega)
   have e6 : ((c :: r).take (1 + c.toNat)).drop 1 = r.take c.toNat := by rw [Nat.add_comm, List.take_succ_cons, List.drop_one, List.tail_cons]
   rw [e6] at e5
   rw [hI] at e4
   simp +contextual -dsimp [e0, e1, e2, e3, e4, ziq e5]
   refine B.zea (fun _ _ hq => s1 _ _ _ hq) ?_
   simp +contextual -dsimp
   refine B.ze (fun hd => ?_) (fun hd => ?_)
   ·have : zgg (c :: r) = ([], 0, false) := by rw [zkm, if_pos]; right; simpa using hd
    rw [this] at hq
    exact zj hq
   ·have hlen : (r.take c.toNat).length = c.toNat := by simp; omega
    have : zgg (c :: r) = (r.take c.toNat, 1 + c.toNat, true) := by
     rw [zkm, if_neg]
     rintro (h1 | ⟨h1, h2⟩)
     ·omega
     ·have h3 : c.toNat ≠ 0 := fun e => h1 (by simp [e])
      have h4 : r ≠ [] := fun e => h1 (by simp [e])
      simp [h2, h3, h4] at hd
    rw [this] at hq
    simp only [cg, hI] at hq
    simp +contextual -dsimp
    rw [show ((min c.toNat r.length : Nat) : Int) = (c.toNat : Int) by omega, e3]
    exact zj hq
end Go.Ab
namespace Go.Ab
variable {P : Program} {w0 : World} {ρ : Locs} {h H : za} {w : World}
theorem addr_add_add (a : Addr) (i j : Nat) (ha : a.spot = none) : (a.add i).add j = a.add (i + j) := by
 rw [zih _ _ ha, zih _ _ rfl, zih _ _ ha, Nat.add_assoc]
theorem zqn : ∀ (bs : List UInt8) (a : Addr) (acc : ByteArray), a.spot = none → (∀ j (hj : j < bs.length), w.cell? (a.add j) = some (.int .u8 (bs[j].toNat : Int))) → (Extern.Bytes.loadBytes a bs.length acc).run P w = .ok (bs.foldl (fun x b => x.push b) acc) w
 | [], a, acc, _, _ => rfl
 | b :: bs, a, acc, ha, h => by
  have h0 := h 0 (by simp)
  have e0 : a.add 0 = a := by rw [zih _ _ ha]; cases a; simp at ha; subst ha; rfl
  rw [e0] at h0
  have ih := zqn bs (a.add 1) (acc.push b) (by rw [zih _ _ ha]) fun j hj => by
   rw [addr_add_add _ _ _ ha]
   have := h (j + 1) (by simpa using hj)
   rw [show 1 + j = j + 1 by omega]
   simpa using this
  have hl : (load a).run P w = .ok (.int .u8 (b.toNat : Int)) w := by simp [h0]
  have hb : ((b.toNat : Int).toNat).toUInt8 = b := by simp
  simp only [List.length_cons, Extern.Bytes.loadBytes, Sem.run_bind, List.foldl_cons, hl, Result.andThen_ok]
  rw [hb]
  exact ih
theorem zui : ∀ (bs : List UInt8) (acc : ByteArray), (bs.foldl (fun x b => x.push b) acc).data.toList = acc.data.toList ++ bs
 | [], acc => by simp
 | b :: bs, acc => by rw [List.foldl_cons, zui bs]; simp [ByteArray.push]
theorem zc8.at : ∀ {as1 : List AVal} {l : List Value}, zc8 ρ as1 l → ∀ {j : Nat} {a : AVal}, as1[j]? = some a → ∃ u, l[j]? = some u ∧ VRel ρ a u
 | [], _, _, j, a, h => by simp at h
 | x :: as1, _, ⟨u, us, rfl, h1, h2⟩, 0, a, h => by simp at h; subst h; exact ⟨u, rfl, h1⟩
 | x :: as1, _, ⟨u, us, rfl, h1, h2⟩, j + 1, a, h => by
  obtain ⟨v, e1, e2⟩ := zc8.at h2 (j := j) (by simpa using h)
  exact ⟨v, by simpa using e1, e2⟩
theorem bcs_flat : ∀ bs : List UInt8, (bs.map bc).flatten = bs.map fun b => AVal.int .u8 (b.toNat : Int)
 | [] => rfl
 | b :: bs => by rw [List.map_cons, List.flatten_cons, bcs_flat bs]; rfl
theorem zus (hR : R w0 ρ H w) (hle : h.le H) {x : AVal} {bs : List UInt8} {S : List (List AVal)} (hs : SlX h 1 x (bs.map bc) S) {v : Value} (hv : VRel ρ x v) :
  ∃ b : ByteArray, (Extern.Bytes.bytesOf v).run P w = .ok b w ∧ b.data.toList = bs := by
 have hrd := hs.rdv
 rw [List.length_map] at hrd
 obtain ⟨l, h1, h2, h3, h4, h5⟩ := zp4 (P := P) hR hle hrd hv
 rcases hs.at_ with ⟨e1, e2, rfl | rfl⟩ | ⟨id, g, off, cp, b, hi, rfl, k1, k2, k3, k4, k5, k6⟩
 ·have : bs = [] := by simpa using e1
  subst this
  cases hv
  exact ⟨.empty, rfl, rfl⟩
 ·have : bs = [] := by simpa using e1
  subst this
  obtain ⟨a, rfl⟩ := hv
  exact ⟨.empty, rfl, rfl⟩
 ·obtain ⟨a, c, rfl⟩ := zok hv
  rw [List.length_map]
  rcases h5 with h5 | ⟨ad, m, c', e, h5⟩
  ·have : bs = [] := List.eq_nil_of_length_eq_zero h5
   subst this
   exact ⟨.empty, rfl, rfl⟩
  ·cases e
   by_cases hb0 : bs = []
   ·subst hb0; exact ⟨.empty, rfl, rfl⟩
   have hsp : a.spot = none := by
    obtain ⟨L, _, _, hh⟩ := hv
    rcases hh with ⟨cap, e, _⟩ | ⟨e, _, _, _⟩
    ·cases e; rfl
    ·rw [List.length_map] at e
     exact absurd (List.eq_nil_of_length_eq_zero e) hb0
   refine ⟨_, zqn bs a .empty hsp fun j hj => ?_, by rw [zui]; rfl⟩
   obtain ⟨u, e1, e2⟩ := h2.at (j := j) (a := .int .u8 (bs[j].toNat : Int)) (by rw [bcs_flat, List.getElem?_map, List.getElem?_eq_getElem hj]; rfl)
   rw [h5 j u e1, show u = _ from e2]
theorem zr0 {f : FuncId} {fn : Func} (hf : P.funcs[f]? = some fn) (hname : (fn.name == "runtime.NumGoroutine") = false) (hb : fn.body.isNone = true) (hn : Extern.findNext fn = none) (he : Extern.find fn = some Extern.BytealgCompare.compare)
  {x y : AVal} {a b : List UInt8} {S T : List (List AVal)} {h : za} {Q : AVal → za → Prop} (hx : SlX h 1 x (a.map bc) S) (hy : SlX h 1 y (b.map bc) T) (hq : Q (.int .i64 (Lib.compareBytes a b)) h) : AC P f [x, y] h Q := by
 have hny : isY [x, y] = false := by
  rcases hx.at_ with ⟨_, _, rfl | rfl⟩ | ⟨_, _, _, _, _, _, rfl, _⟩ <;> rfl
 refine fun w0 ρ H w va hle hR hva => ⟨fun _ => ?_, fun h => by rw [hny] at h; cases h⟩
 obtain ⟨u, us, rfl, hu, v, vs, rfl, hv, rfl⟩ := hva.resolve_right (fun ⟨id, xs, us, L, e, _⟩ => by rw [e] at hny; cases hny)
 obtain ⟨c, c1, c2⟩ := zus (P := P) hR hle hx hu
 obtain ⟨d, d1, d2⟩ := zus (P := P) hR hle hy hv
 have hnf : ∀ {z : AVal} {c : List UInt8} {T : List (List AVal)} {u : Value}, SlX h 1 z (c.map bc) T → VRel ρ z u → ∀ l p q, u ≠ .func (.yield l) p q := fun {z c T u} hz hu l p q e => by
  subst e
  rcases hz.at_ with ⟨_, _, rfl | rfl⟩ | ⟨_, _, _, _, _, _, rfl, _⟩
  ·cases hu
  ·obtain ⟨_, e⟩ := hu; cases e
  ·obtain ⟨_, _, _, ⟨_, e, _⟩ | ⟨_, _, _, e⟩⟩ := hu <;> cases e
 refine .inr ⟨.int .i64 (Lib.compareBytes a b), w, ?_, ⟨_, rfl, ⟨⟨.int .i64 (Lib.compareBytes a b), ρ, h, H, Locs.le_refl ρ, rfl, hq, hle, Fr.refl h H, hR⟩⟩⟩, fun z hz => ?_⟩
 rotate_left
 ·rcases List.mem_cons.1 hz with rfl | hz
  ·exact hnf hx hu
  ·rcases List.mem_cons.1 hz with rfl | hz
   ·exact hnf hy hv
   ·cases hz
 rw [run_callFunc_extern hf hname hb hn he]
 have : (Extern.BytealgCompare.compare [u, v].toArray).run P w = .ok (.int .i64 (Lib.compareBytes a b)) w := by
  change Sem.run P (do pure (goInt (Extern.BytealgCompare.cmp (← Extern.Bytes.bytesOf u) (← Extern.Bytes.bytesOf v)))) w = _
  simp only [Sem.run_bind, c1, d1, Result.andThen_ok, Sem.run_pure]
  rw [Lib.cmp_eq, c2, d2]
  rfl
 rw [this]; rfl
end Go.Ab
namespace Go.Ab
def zif.Imp (C : CSem) (N : Nat → Nat) : Prop := ∀ (x y : AVal) (a b : List UInt8) (S T : List (List AVal)) (h : za) (Q : AVal → za → Prop), SlX h 1 x (a.map bc) S → SlX h 1 y (b.map bc) T → Q (.int .i64 (Lib.compareBytes a b)) h → C (N 303) [x, y] h Q
@[simp] def zb8.k1 (C : CSem) (N : Nat → Nat) (Q : AVal → za → Prop) (Y1 : List AVal → za → Prop) (v3 v4 c1 : AVal) (h : za) : Prop :=
 B.al c1 (B.pv (V.zd 3 c1) fun v14 =>
  B.pv (V.zi v14) fun v15 =>
  B.pv (V.bin .lss v4 v15) fun v16 =>
  B.gd h v16 true (fun K => K v3 h) fun v18 h =>
  B.gd h v16 true (fun K => B.pv (V.bin .leq v18 (.int .i64 2000)) fun v => K v h) fun v19 h =>
  B.pick v16 v19 (.bool false) fun v20 =>
  B.cond v20
  (B.pv (V.bin .add v3 (.int .i64 1)) fun v24 =>
  B.al c1 (B.pv (V.zd 3 c1) fun v26 =>
  B.pv (V.idxS 4 v26 v4) fun v28 =>
  B.pv (V.fieldAddr 2 v28) fun v29 =>
  B.ld h v29 fun v30 =>
  B.pv (V.zi v30) fun v31 =>
  B.pv (V.bin .add v24 v31) fun v32 =>
  B.al c1 (B.pv (V.zd 3 c1) fun v34 =>
  B.pv (V.idxS 4 v34 v4) fun v36 =>
  B.pv (V.fieldAddr 3 v36) fun v37 =>
  B.ld h v37 fun v38 =>
  B.pv (V.zi v38) fun v39 =>
  B.pv (V.bin .add v32 v39) fun v40 =>
  B.pv (V.bin .add v4 (.int .i64 1)) fun v22 =>
  Y1 [v40, v22] h)))
  (B.pv (V.bin .gtr v3 (.int .i64 2000)) fun v42 =>
  Q v42 h))
@[simp] def zb8.l2 (C : CSem) (N : Nat → Nat) (Q : AVal → za → Prop) (c1 : AVal) : List AVal → za → (List AVal → za → Prop) → Prop
 | [v3, v4], h, Y1 => zb8.k1 C N Q Y1 v3 v4 c1 h
 | _, _, _ => False
@[simp] def zb8.k3 (C : CSem) (N : Nat → Nat) (Q : AVal → za → Prop) (c1 : AVal) (h : za) : Prop :=
 B.al c1 (B.pv (V.zd 4 c1) fun v6 =>
  B.pv (V.zi v6) fun v7 =>
  B.al c1 (B.pv (V.zd 5 c1) fun v9 =>
  B.pv (V.zi v9) fun v10 =>
  B.pv (V.bin .add v7 v10) fun v11 =>
  zg (zb8.l2 C N Q c1) [v11, (.int .i64 0)] h))
@[simp] def zb8.cps (C : CSem) (N : Nat → Nat) (v0 : AVal) (h : za) (Q : AVal → za → Prop) : Prop :=
 B.pv (A.boxN 6 v0) fun c1 =>
  zb8.k3 C N Q c1 h
def zb8.Imp (C : CSem) (N : Nat → Nat) : Prop := ∀ (v0 : AVal) (h : za) (Q : AVal → za → Prop), zb8.cps C N v0 h (dn Q) → C (N 416) [v0] h Q
@[simp] def zdm.k1 (C : CSem) (N : Nat → Nat) (Q : AVal → za → Prop) (h : za) : Prop :=
 B.call C (N 422) [] h fun v8 h =>
  B.call C (N 412) [v8] h fun v9 h =>
  B.pv (V.zi v9) fun v11 =>
  B.pv (V.bin .neq v11 (.int .i64 5)) fun v12 =>
  B.cond v12
  (Q (.bool false) h)
  (B.call C (N 413) [v9] h fun v15 h =>
  B.pv (V.ext 0 v15) fun v16 =>
  B.pv (V.ext 1 v15) fun v17 =>
  B.pv (V.setN 0 6 v16 (.agg [.int .i64 0, .int .i64 0, .int .i64 0, .nils, .nils, .nils])) fun c2 =>
  B.pv (A.bld [(0, none, (.int .i64 5))] [.int .i64 0, .int .i64 0, .int .i64 0, .str [], .int .u8 0, .nils, .nils]) fun v19 =>
  B.call C (N 415) [(.int .i64 1), (.int .i64 7), v19] h fun v20 h =>
  B.pv (V.ext 0 v20) fun v21 =>
  B.pv (V.ext 1 v20) fun v22 =>
  B.call C (N 414) [(.int .i64 1), (.int .i64 7), v21] h fun v25 h =>
  B.pv (V.ext 0 v25) fun v26 =>
  B.pv (V.ext 1 v25) fun v27 =>
  B.pv (V.setN 0 7 v26 (.agg [.int .i64 0, .int .i64 0, .int .i64 0, .str [], .int .u8 0, .nils, .nils])) fun c6 =>
  B.pv (V.idxS 2 v9 (.int .i64 0)) fun v29 =>
  B.pv (V.fieldAddr 0 v29) fun v30 =>
  B.ld h v30 fun v31 =>
  B.zek h v31 fun v32 =>
  B.pv (V.bin .eql v32 (.str [42, 100, 97, 121])) fun v33 =>
  B.gd h v33 true (fun K => K v9 h) fun v35 h =>
  B.gd h v33 true (fun K => B.pv (V.idxS 2 v35 (.int .i64 4)) fun v => K v h) fun v36 h =>
  B.gd h v33 true (fun K => B.pv (V.fieldAddr 0 v36) fun v => K v h) fun v37 h =>
  B.gd h v33 true (fun K => B.ld h v37 fun v => K v h) fun v38 h =>
  B.gd h v33 true (fun K => B.newO h (zc7 [(0, none, (.int .u8 108)), (1, none, (.int .u8 0)), (2, none, (.int .u8 0)), (3, none, (.int .u8 0)), (4, none, (.int .u8 0)), (5, none, (.int .u8 0)), (6, none, (.int .u8 0)), (7, none, (.int .u8 0)), (8, none, (.int .u8 1))] (repL 9 [.int .u8 0])) fun i h => K (.sl i 0 0 9 1 9) h) fun v39 h =>
  B.gd h v33 true (fun K => B.call C (N 34) [v38, v39] h K) fun v40 h =>
  B.pick v33 v40 (.bool false) fun v41 =>
  B.gd h v41 true (fun K => K v9 h) fun v43 h =>
  B.gd h v41 true (fun K => B.pv (V.idxS 2 v43 (.int .i64 4)) fun v => K v h) fun v44 h =>
  B.gd h v41 true (fun K => B.pv (V.fieldAddr 1 v44) fun v => K v h) fun v45 h =>
  B.gd h v41 true (fun K => B.ld h v45 fun v => K v h) fun v46 h =>
  B.gd h v41 true (fun K => B.newO h (zc7 [(0, none, (.int .u8 1)), (1, none, (.int .u8 65)), (2, none, (.int .u8 0)), (3, none, (.int .u8 3)), (4, none, (.int .u8 0)), (5, none, (.int .u8 8)), (6, none, (.int .u8 0)), (7, none, (.int .u8 0)), (8, none, (.int .u8 0)), (9, none, (.int .u8 5)), (10, none, (.int .u8 1))] (repL 11 [.int .u8 0])) fun i h => K (.sl i 0 0 11 1 11) h) fun v47 h =>
  B.gd h v41 true (fun K => B.call C (N 34) [v46, v47] h K) fun v48 h =>
  B.pick v41 v48 (.bool false) fun v49 =>
  B.gd h v49 true (fun K => K v17 h) fun v51 h =>
  B.gd h v49 true (fun K => B.pv (V.bin .eql v51 (.int .i64 0)) fun v => K v h) fun v52 h =>
  B.pick v49 v52 (.bool false) fun v53 =>
  B.gd h v53 true (fun K => B.pv (V.zb4 0 6 c2) fun v => K v h) fun v55 h =>
  B.al c2 (B.gd h v53 true (fun K => B.call C (N 422) [] h K) fun v56 h =>
  B.gd h v53 true (fun K => B.call C (N 116) [v55, v56] h K) fun v57 h =>
  B.pick v53 v57 (.bool false) fun v58 =>
  B.gd h v58 true (fun K => K v22 h) fun v60 h =>
  B.gd h v58 true (fun K => B.pv (V.bin .eql v60 (.int .i64 0)) fun v => K v h) fun v61 h =>
  B.pick v58 v61 (.bool false) fun v62 =>
  B.gd h v62 true (fun K => K v21 h) fun v64 h =>
  B.gd h v62 true (fun K => B.pv (V.zi v64) fun v => K v h) fun v65 h =>
  B.gd h v62 true (fun K => B.pv (V.bin .eql v65 (.int .i64 1)) fun v => K v h) fun v66 h =>
  B.pick v62 v66 (.bool false) fun v67 =>
  B.gd h v67 true (fun K => K v21 h) fun v69 h =>
  B.gd h v67 true (fun K => B.pv (V.idxS 2 v69 (.int .i64 0)) fun v => K v h) fun v70 h =>
  B.gd h v67 true (fun K => B.pv (V.fieldAddr 0 v70) fun v => K v h) fun v71 h =>
  B.gd h v67 true (fun K => B.ld h v71 fun v => K v h) fun v72 h =>
  B.gd h v67 true (fun K => B.newO h (zc7 [(0, none, (.int .u8 97)), (1, none, (.int .u8 1)), (2, none, (.int .u8 0)), (3, none, (.int .u8 0)), (4, none, (.int .u8 0)), (5, none, (.int .u8 0)), (6, none, (.int .u8 0)), (7, none, (.int .u8 0)), (8, none, (.int .u8 0)), (9, none, (.int .u8 7)), (10, none, (.int .u8 0)), (11, none, (.int .u8 0))] (repL 12 [.int .u8 0])) fun i h => K (.sl i 0 0 12 1 12) h) fun v73 h =>
  B.gd h v67 true (fun K => B.call C (N 34) [v72, v73] h K) fun v74 h =>
  B.pick v67 v74 (.bool false) fun v75 =>
  B.gd h v75 true (fun K => K v27 h) fun v77 h =>
  B.pick v75 v77 (.bool false) fun v78 =>
  B.al c6 (B.gd h v78 true (fun K => K .undef h) fun _ h =>
  B.gd h v78 true (fun K => B.pv (V.zd 0 c6) fun v => K v h) fun v81 h =>
  B.gd h v78 true (fun K => B.pv (V.bin .eql v81 (.int .i64 5)) fun v => K v h) fun v82 h =>
  B.pick v78 v82 (.bool false) fun v83 =>
  B.gd h v83 true (fun K => B.pv (A.bld [] [.int .i64 0, .int .i64 0, .int .i64 0, .nils, .nils, .nils]) fun v => K v h) fun v85 h =>
  B.gd h v83 true (fun K => B.call C (N 412) [v85] h K) fun v86 h =>
  B.gd h v83 true (fun K => B.pv (V.zi v86) fun v => K v h) fun v87 h =>
  B.gd h v83 true (fun K => B.pv (V.bin .eql v87 (.int .i64 0)) fun v => K v h) fun v88 h =>
  B.pick v83 v88 (.bool false) fun v89 =>
  Q v89 h)))
@[simp] def zdm.cps (C : CSem) (N : Nat → Nat) (h : za) (Q : AVal → za → Prop) : Prop :=
 zdm.k1 C N Q h
def zdm.Imp (C : CSem) (N : Nat → Nat) : Prop := ∀ (h : za) (Q : AVal → za → Prop), zdm.cps C N h (dn Q) → C (N 418) [] h Q
@[simp] def zd4.k1 (C : CSem) (N : Nat → Nat) (Q : AVal → za → Prop) (h : za) : Prop :=
 B.pv (A.bld [(0, none, (.str [65])), (1, none, (.int .i64 5))] [.str [], .int .i64 0, .nils, .nils]) fun v1 =>
  B.newO h (zc7 [(0, some 4, v1)] (repL 1 [.str [], .int .i64 0, .nils, .nils])) fun i2 h =>
  B.pv (A.bld [(0, none, (.int .i64 3)), (1, none, (.int .i64 8))] [.int .i64 0, .int .i64 0]) fun v3 =>
  B.pv (A.bld [(0, none, (.int .i64 1)), (1, none, (.str [65])), (2, some 2, v3), (4, none, (.int .i64 5)), (5, none, (.bool true))] [.int .i64 0, .str [], .int .i64 0, .int .i64 0, .int .i64 0, .bool false]) fun v4 =>
  B.newO h (zc7 [(0, some 6, v4)] (repL 1 [.int .i64 0, .str [], .int .i64 0, .int .i64 0, .int .i64 0, .bool false])) fun i5 h =>
  B.pv (A.bld [(0, none, (.int .i64 3)), (1, none, (.int .i64 2)), (2, none, (.int .i64 1)), (3, none, (.sl i2 0 0 1 4 1)), (4, none, (.sl i5 0 0 1 6 1))] [.int .i64 0, .int .i64 0, .int .i64 0, .nils, .nils, .nils]) fun v6 =>
  B.pv (V.setN 0 6 v6 (.agg [.int .i64 0, .int .i64 0, .int .i64 0, .nils, .nils, .nils])) fun c0 =>
  B.pv (oneOf (zfq (V.zb4 0 6 c0) (some []))) fun v => Q v h
@[simp] def zd4.cps (C : CSem) (N : Nat → Nat) (h : za) (Q : AVal → za → Prop) : Prop :=
 zd4.k1 C N Q h
def zd4.Imp (C : CSem) (N : Nat → Nat) : Prop := ∀ (h : za) (Q : AVal → za → Prop), zd4.cps C N h (dn Q) → C (N 422) [] h Q
@[simp] def zcg.k1 (C : CSem) (N : Nat → Nat) (Q : AVal → za → Prop) (v0 : AVal) (h : za) : Prop :=
 B.pv (A.boxN 6 v0) fun c1 =>
  B.pv (V.zb4 0 6 c1) fun v7 =>
  B.call C (N 416) [v7] h fun v8 h =>
  B.cond v8
  (B.call C (N 418) [] h fun v9 h =>
  Q v9 h)
  (B.pv (V.zb4 0 6 c1) fun v10 =>
  B.call C (N 446) [v10] h fun v11 h =>
  B.pv (V.setN 0 6 v11 (.agg [.int .i64 0, .int .i64 0, .int .i64 0, .nils, .nils, .nils])) fun c3 =>
  B.pv (V.zb4 0 6 c3) fun v12 =>
  B.pv (V.zb4 0 6 c3) fun v14 =>
  B.al c3 (B.call C (N 412) [v12] h fun v13 h =>
  B.call C (N 412) [v14] h fun v15 h =>
  B.pv (V.zb4 0 6 c3) fun v16 =>
  B.pv (V.zb4 0 6 c1) fun v17 =>
  B.call C (N 447) [v16, v17] h fun v18 h =>
  B.pv (V.un .not v18) fun v19 =>
  B.cond v19
  (Q (.bool false) h)
  (B.pv (V.zb4 0 6 c3) fun v20 =>
  B.call C (N 448) [v20] h fun v21 h =>
  B.pv (V.zb4 0 6 c1) fun v22 =>
  B.call C (N 449) [v22] h fun v23 h =>
  B.call C (N 263) [v13, v23] h fun v26 h =>
  B.gd h v26 true (fun K => K v15 h) fun v28 h =>
  B.gd h v26 true (fun K => K v23 h) fun v29 h =>
  B.gd h v26 true (fun K => B.call C (N 263) [v28, v29] h K) fun v30 h =>
  B.pick v26 v30 (.bool false) fun v31 =>
  B.gd h v31 true (fun K => K v13 h) fun v33 h =>
  B.gd h v31 true (fun K => K v15 h) fun v34 h =>
  B.gd h v31 true (fun K => B.newO h (zc7 [(0, none, v33), (1, none, v34)] (repL 2 [.nils])) fun i h => K (.sl i 0 0 2 1 2) h) fun v35 h =>
  B.gd h v31 true (fun K => B.call C (N 307) [v35] h K) fun v36 h =>
  B.pick v31 v36 (.bool false) fun v37 =>
  B.gd h v37 true (fun K => B.call C (N 418) [] h K) fun v39 h =>
  B.pick v37 v39 (.bool false) fun v40 =>
  Q v40 h)))
@[simp] def zcg.cps (C : CSem) (N : Nat → Nat) (v0 : AVal) (h : za) (Q : AVal → za → Prop) : Prop :=
 zcg.k1 C N Q v0 h
def zcg.Imp (C : CSem) (N : Nat → Nat) : Prop := ∀ (v0 : AVal) (h : za) (Q : AVal → za → Prop), zcg.cps C N v0 h (dn Q) → C (N 450) [v0] h Q
@[simp] def zew.k1 (C : CSem) (N : Nat → Nat) (Q : AVal → za → Prop) (v0 : AVal) (h : za) : Prop :=
 B.pv (A.boxN 6 v0) fun c1 =>
  B.al c1 (B.pv (V.zd 0 c1) fun v4 =>
  B.pv (V.bin .gtr v4 (.int .i64 0)) fun v5 =>
  B.al c1 (B.gd h v5 true (fun K => K .undef h) fun _ h =>
  B.gd h v5 true (fun K => B.pv (V.zd 1 c1) fun v => K v h) fun v8 h =>
  B.gd h v5 true (fun K => B.call C (N 53) [v8] h K) fun v9 h =>
  B.pick v5 v9 (.bool false) fun v10 =>
  B.al c1 (B.gd h v10 true (fun K => K .undef h) fun _ h =>
  B.gd h v10 true (fun K => B.pv (V.zb4 2 2 c1) fun v => K v h) fun v13 h =>
  B.gd h v10 true (fun K => B.call C (N 5) [v13] h K) fun v14 h =>
  B.pick v10 v14 (.bool false) fun v15 =>
  B.al c1 (B.gd h v15 true (fun K => K .undef h) fun _ h =>
  B.al c1 (B.gd h v15 true (fun K => K .undef h) fun _ h =>
  B.gd h v15 true (fun K => B.pv (V.zd 2 c1) fun v => K v h) fun v19 h =>
  B.al c1 (B.gd h v15 true (fun K => K .undef h) fun _ h =>
  B.al c1 (B.gd h v15 true (fun K => K .undef h) fun _ h =>
  B.gd h v15 true (fun K => B.pv (V.zd 3 c1) fun v => K v h) fun v22 h =>
  B.gd h v15 true (fun K => B.pv (V.bin .lss v19 v22) fun v => K v h) fun v23 h =>
  B.pick v15 v23 (.bool false) fun v24 =>
  B.al c1 (B.gd h v24 true (fun K => K .undef h) fun _ h =>
  B.gd h v24 true (fun K => B.pv (V.zd 4 c1) fun v => K v h) fun v27 h =>
  B.gd h v24 true (fun K => B.pv (V.bin .gtr v27 (.int .i64 0)) fun v => K v h) fun v28 h =>
  B.pick v24 v28 (.bool false) fun v29 =>
  B.al c1 (B.gd h v29 true (fun K => K .undef h) fun _ h =>
  B.gd h v29 true (fun K => B.pv (V.zd 4 c1) fun v => K v h) fun v32 h =>
  B.gd h v29 true (fun K => B.pv (V.bin .leq v32 (.int .i64 1073741824)) fun v => K v h) fun v33 h =>
  B.pick v29 v33 (.bool false) fun v34 =>
  Q v34 h)))))))))
@[simp] def zew.cps (C : CSem) (N : Nat → Nat) (v0 : AVal) (h : za) (Q : AVal → za → Prop) : Prop :=
 zew.k1 C N Q v0 h
def zew.Imp (C : CSem) (N : Nat → Nat) : Prop := ∀ (v0 : AVal) (h : za) (Q : AVal → za → Prop), zew.cps C N v0 h (dn Q) → C (N 52) [v0] h Q
@[simp] def zeg.k1 (C : CSem) (N : Nat → Nat) (Q : AVal → za → Prop) (v0 : AVal) (h : za) : Prop :=
 B.pv (A.boxN 8 v0) fun c1 =>
  B.al c1 (B.pv (V.zd 0 c1) fun v4 =>
  B.pv (V.bin .lss v4 (.int .i64 1)) fun v5 =>
  B.al c1 (B.gd h v5 false (fun K => K .undef h) fun _ h =>
  B.gd h v5 false (fun K => B.pv (V.zd 1 c1) fun v => K v h) fun v8 h =>
  B.gd h v5 false (fun K => B.call C (N 53) [v8] h K) fun v9 h =>
  B.gd h v5 false (fun K => B.pv (V.un .not v9) fun v => K v h) fun v10 h =>
  B.pick v5 (.bool true) v10 fun v11 =>
  B.al c1 (B.gd h v11 false (fun K => K .undef h) fun _ h =>
  B.gd h v11 false (fun K => B.pv (V.zd 2 c1) fun v => K v h) fun v14 h =>
  B.gd h v11 false (fun K => B.pv (V.bin .lss v14 (.int .i64 1)) fun v => K v h) fun v15 h =>
  B.pick v11 (.bool true) v15 fun v16 =>
  B.al c1 (B.gd h v16 false (fun K => K .undef h) fun _ h =>
  B.gd h v16 false (fun K => B.pv (V.zd 2 c1) fun v => K v h) fun v19 h =>
  B.gd h v16 false (fun K => B.pv (V.bin .gtr v19 (.int .i64 1073741824)) fun v => K v h) fun v20 h =>
  B.pick v16 (.bool true) v20 fun v21 =>
  B.al c1 (B.gd h v21 false (fun K => K .undef h) fun _ h =>
  B.gd h v21 false (fun K => B.pv (V.zd 3 c1) fun v => K v h) fun v24 h =>
  B.gd h v21 false (fun K => B.pv (V.bin .lss v24 (.int .i64 0)) fun v => K v h) fun v25 h =>
  B.pick v21 (.bool true) v25 fun v26 =>
  B.al c1 (B.gd h v26 false (fun K => K .undef h) fun _ h =>
  B.gd h v26 false (fun K => B.pv (V.zd 3 c1) fun v => K v h) fun v29 h =>
  B.gd h v26 false (fun K => B.pv (V.bin .gtr v29 (.int .i64 4000)) fun v => K v h) fun v30 h =>
  B.pick v26 (.bool true) v30 fun v31 =>
  B.al c1 (B.gd h v31 false (fun K => K .undef h) fun _ h =>
  B.gd h v31 false (fun K => B.pv (V.zd 4 c1) fun v => K v h) fun v34 h =>
  B.gd h v31 false (fun K => B.pv (V.bin .lss v34 (.int .i64 0)) fun v => K v h) fun v35 h =>
  B.pick v31 (.bool true) v35 fun v36 =>
  B.al c1 (B.gd h v36 false (fun K => K .undef h) fun _ h =>
  B.gd h v36 false (fun K => B.pv (V.zd 4 c1) fun v => K v h) fun v39 h =>
  B.gd h v36 false (fun K => B.pv (V.bin .gtr v39 (.int .i64 99)) fun v => K v h) fun v40 h =>
  B.pick v36 (.bool true) v40 fun v41 =>
  B.cond v41
  (Q (.bool false) h)
  (B.al c1 (B.pv (V.zd 5 c1) fun v43 =>
  B.pv (V.bin .lss v43 (.int .u8 1)) fun v44 =>
  B.al c1 (B.gd h v44 false (fun K => K .undef h) fun _ h =>
  B.gd h v44 false (fun K => B.pv (V.zd 5 c1) fun v => K v h) fun v47 h =>
  B.gd h v44 false (fun K => B.pv (V.bin .gtr v47 (.int .u8 3)) fun v => K v h) fun v48 h =>
  B.pick v44 (.bool true) v48 fun v49 =>
  B.cond v49
  (Q (.bool false) h)
  (B.al c1 (B.pv (V.zd 6 c1) fun v51 =>
  B.pv (V.bin .eql v51 (.int .i64 (-1))) fun v52 =>
  B.cond v52
  (B.al c1 (B.pv (V.zd 7 c1) fun v54 =>
  B.pv (V.bin .eql v54 (.str [])) fun v55 =>
  B.al c1 (B.gd h v55 true (fun K => K .undef h) fun _ h =>
  B.gd h v55 true (fun K => B.pv (V.zd 5 c1) fun v => K v h) fun v58 h =>
  B.gd h v55 true (fun K => B.pv (V.bin .neq v58 (.int .u8 2)) fun v => K v h) fun v59 h =>
  B.pick v55 v59 (.bool false) fun v60 =>
  Q v60 h)))
  (B.al c1 (B.pv (V.zd 6 c1) fun v62 =>
  B.pv (V.bin .geq v62 (.int .i64 0)) fun v63 =>
  B.al c1 (B.gd h v63 true (fun K => K .undef h) fun _ h =>
  B.gd h v63 true (fun K => B.pv (V.zd 6 c1) fun v => K v h) fun v66 h =>
  B.gd h v63 true (fun K => B.pv (V.bin .leq v66 (.int .i64 4000)) fun v => K v h) fun v67 h =>
  B.pick v63 v67 (.bool false) fun v68 =>
  B.al c1 (B.gd h v68 true (fun K => K .undef h) fun _ h =>
  B.gd h v68 true (fun K => B.pv (V.zd 7 c1) fun v => K v h) fun v71 h =>
  B.gd h v68 true (fun K => B.call C (N 53) [v71] h K) fun v72 h =>
  B.pick v68 v72 (.bool false) fun v73 =>
  B.al c1 (B.gd h v73 true (fun K => K .undef h) fun _ h =>
  B.gd h v73 true (fun K => B.pv (V.zd 5 c1) fun v => K v h) fun v76 h =>
  B.gd h v73 true (fun K => B.pv (V.bin .neq v76 (.int .u8 3)) fun v => K v h) fun v77 h =>
  B.pick v73 v77 (.bool false) fun v78 =>
  Q v78 h))))))))))))))))))
@[simp] def zeg.cps (C : CSem) (N : Nat → Nat) (v0 : AVal) (h : za) (Q : AVal → za → Prop) : Prop :=
 zeg.k1 C N Q v0 h
def zeg.Imp (C : CSem) (N : Nat → Nat) : Prop := ∀ (v0 : AVal) (h : za) (Q : AVal → za → Prop), zeg.cps C N v0 h (dn Q) → C (N 179) [v0] h Q
@[simp] def zd3.k1 (C : CSem) (N : Nat → Nat) (Q : AVal → za → Prop) (v0 : AVal) (h : za) : Prop :=
 B.pv (A.boxN 6 v0) fun c1 =>
  B.al c1 (B.pv (V.zd 0 c1) fun v4 =>
  B.pv (V.bin .geq v4 (.int .i64 1)) fun v5 =>
  B.al c1 (B.gd h v5 true (fun K => K .undef h) fun _ h =>
  B.gd h v5 true (fun K => B.pv (V.zd 1 c1) fun v => K v h) fun v8 h =>
  B.gd h v5 true (fun K => B.call C (N 61) [v8] h K) fun v9 h =>
  B.pick v5 v9 (.bool false) fun v10 =>
  B.al c1 (B.gd h v10 true (fun K => K .undef h) fun _ h =>
  B.al c1 (B.gd h v10 true (fun K => K .undef h) fun _ h =>
  B.gd h v10 true (fun K => B.pv (V.zd 2 c1) fun v => K v h) fun v14 h =>
  B.gd h v10 true (fun K => B.pv (V.bin .geq v14 (.int .i64 0)) fun v => K v h) fun v15 h =>
  B.pick v10 v15 (.bool false) fun v16 =>
  B.al c1 (B.gd h v16 true (fun K => K .undef h) fun _ h =>
  B.al c1 (B.gd h v16 true (fun K => K .undef h) fun _ h =>
  B.gd h v16 true (fun K => B.pv (V.zd 2 c1) fun v => K v h) fun v20 h =>
  B.al c1 (B.gd h v16 true (fun K => K .undef h) fun _ h =>
  B.al c1 (B.gd h v16 true (fun K => K .undef h) fun _ h =>
  B.gd h v16 true (fun K => B.pv (V.zd 3 c1) fun v => K v h) fun v23 h =>
  B.gd h v16 true (fun K => B.pv (V.bin .lss v20 v23) fun v => K v h) fun v24 h =>
  B.pick v16 v24 (.bool false) fun v25 =>
  B.al c1 (B.gd h v25 true (fun K => K .undef h) fun _ h =>
  B.al c1 (B.gd h v25 true (fun K => K .undef h) fun _ h =>
  B.gd h v25 true (fun K => B.pv (V.zd 3 c1) fun v => K v h) fun v29 h =>
  B.gd h v25 true (fun K => B.pv (V.bin .leq v29 (.int .i64 4001)) fun v => K v h) fun v30 h =>
  B.pick v25 v30 (.bool false) fun v31 =>
  B.al c1 (B.gd h v31 true (fun K => K .undef h) fun _ h =>
  B.gd h v31 true (fun K => B.pv (V.zd 4 c1) fun v => K v h) fun v34 h =>
  B.gd h v31 true (fun K => B.pv (V.bin .geq v34 (.int .i64 1)) fun v => K v h) fun v35 h =>
  B.pick v31 v35 (.bool false) fun v36 =>
  B.al c1 (B.gd h v36 true (fun K => K .undef h) fun _ h =>
  B.gd h v36 true (fun K => B.pv (V.zd 4 c1) fun v => K v h) fun v39 h =>
  B.gd h v36 true (fun K => B.pv (V.bin .leq v39 (.int .i64 1073741824)) fun v => K v h) fun v40 h =>
  B.pick v36 v40 (.bool false) fun v41 =>
  Q v41 h))))))))))))
@[simp] def zd3.cps (C : CSem) (N : Nat → Nat) (v0 : AVal) (h : za) (Q : AVal → za → Prop) : Prop :=
 zd3.k1 C N Q v0 h
def zd3.Imp (C : CSem) (N : Nat → Nat) : Prop := ∀ (v0 : AVal) (h : za) (Q : AVal → za → Prop), zd3.cps C N v0 h (dn Q) → C (N 60) [v0] h Q
@[simp] def zd2.k1 (C : CSem) (N : Nat → Nat) (Q : AVal → za → Prop) (v0 : AVal) (h : za) : Prop :=
 B.pv (A.boxN 8 v0) fun c1 =>
  B.al c1 (B.pv (V.zd 0 c1) fun v6 =>
  B.pv (V.bin .lss v6 (.int .i64 1)) fun v7 =>
  B.al c1 (B.gd h v7 false (fun K => K .undef h) fun _ h =>
  B.gd h v7 false (fun K => B.pv (V.zd 1 c1) fun v => K v h) fun v10 h =>
  B.gd h v7 false (fun K => B.call C (N 61) [v10] h K) fun v11 h =>
  B.gd h v7 false (fun K => B.pv (V.un .not v11) fun v => K v h) fun v12 h =>
  B.pick v7 (.bool true) v12 fun v13 =>
  B.al c1 (B.gd h v13 false (fun K => K .undef h) fun _ h =>
  B.gd h v13 false (fun K => B.pv (V.zd 2 c1) fun v => K v h) fun v16 h =>
  B.gd h v13 false (fun K => B.pv (V.bin .lss v16 (.int .i64 1)) fun v => K v h) fun v17 h =>
  B.pick v13 (.bool true) v17 fun v18 =>
  B.al c1 (B.gd h v18 false (fun K => K .undef h) fun _ h =>
  B.gd h v18 false (fun K => B.pv (V.zd 2 c1) fun v => K v h) fun v21 h =>
  B.gd h v18 false (fun K => B.pv (V.bin .gtr v21 (.int .i64 1073741824)) fun v => K v h) fun v22 h =>
  B.pick v18 (.bool true) v22 fun v23 =>
  B.al c1 (B.gd h v23 false (fun K => K .undef h) fun _ h =>
  B.gd h v23 false (fun K => B.pv (V.zd 3 c1) fun v => K v h) fun v26 h =>
  B.gd h v23 false (fun K => B.pv (V.bin .lss v26 (.int .i64 0)) fun v => K v h) fun v27 h =>
  B.pick v23 (.bool true) v27 fun v28 =>
  B.al c1 (B.gd h v28 false (fun K => K .undef h) fun _ h =>
  B.gd h v28 false (fun K => B.pv (V.zd 3 c1) fun v => K v h) fun v31 h =>
  B.gd h v28 false (fun K => B.pv (V.bin .gtr v31 (.int .i64 4000)) fun v => K v h) fun v32 h =>
  B.pick v28 (.bool true) v32 fun v33 =>
  B.al c1 (B.gd h v33 false (fun K => K .undef h) fun _ h =>
  B.gd h v33 false (fun K => B.pv (V.zd 4 c1) fun v => K v h) fun v36 h =>
  B.gd h v33 false (fun K => B.pv (V.bin .lss v36 (.int .i64 0)) fun v => K v h) fun v37 h =>
  B.pick v33 (.bool true) v37 fun v38 =>
  B.al c1 (B.gd h v38 false (fun K => K .undef h) fun _ h =>
  B.gd h v38 false (fun K => B.pv (V.zd 4 c1) fun v => K v h) fun v41 h =>
  B.gd h v38 false (fun K => B.pv (V.bin .gtr v41 (.int .i64 99)) fun v => K v h) fun v42 h =>
  B.pick v38 (.bool true) v42 fun v43 =>
  B.cond v43
  (Q (.bool false) h)
  (B.al c1 (B.pv (V.zd 6 c1) fun v45 =>
  B.pv (V.bin .eql v45 (.int .i64 (-1))) fun v46 =>
  B.al c1 (B.gd h v46 true (fun K => K .undef h) fun _ h =>
  B.gd h v46 true (fun K => B.pv (V.zd 7 c1) fun v => K v h) fun v49 h =>
  B.gd h v46 true (fun K => B.pv (V.bin .eql v49 (.str [])) fun v => K v h) fun v50 h =>
  B.pick v46 v50 (.bool false) fun v51 =>
  B.al c1 (B.pv (V.zd 6 c1) fun v53 =>
  B.pv (V.bin .geq v53 (.int .i64 0)) fun v54 =>
  B.al c1 (B.gd h v54 true (fun K => K .undef h) fun _ h =>
  B.gd h v54 true (fun K => B.pv (V.zd 6 c1) fun v => K v h) fun v57 h =>
  B.gd h v54 true (fun K => B.pv (V.bin .leq v57 (.int .i64 4000)) fun v => K v h) fun v58 h =>
  B.pick v54 v58 (.bool false) fun v59 =>
  B.al c1 (B.gd h v59 true (fun K => K .undef h) fun _ h =>
  B.gd h v59 true (fun K => B.pv (V.zd 7 c1) fun v => K v h) fun v62 h =>
  B.gd h v59 true (fun K => B.call C (N 61) [v62] h K) fun v63 h =>
  B.pick v59 v63 (.bool false) fun v64 =>
  B.al c1 (B.pv (V.zd 5 c1) fun v66 =>
  B.pv (V.bin .eql v66 (.int .u8 1)) fun v68 =>
  B.cond v68
  (B.gd h v51 false (fun K => K v64 h) fun v71 h =>
  B.pick v51 (.bool true) v71 fun v72 =>
  Q v72 h)
  (B.pv (V.bin .eql v66 (.int .u8 2)) fun v74 =>
  B.cond v74
  (Q v64 h)
  (B.pv (V.bin .eql v66 (.int .u8 3)) fun v77 =>
  B.cond v77
  (Q v51 h)
  (Q (.bool false) h))))))))))))))))))
@[simp] def zd2.cps (C : CSem) (N : Nat → Nat) (v0 : AVal) (h : za) (Q : AVal → za → Prop) : Prop :=
 zd2.k1 C N Q v0 h
def zd2.Imp (C : CSem) (N : Nat → Nat) : Prop := ∀ (v0 : AVal) (h : za) (Q : AVal → za → Prop), zd2.cps C N v0 h (dn Q) → C (N 180) [v0] h Q
@[simp] def zd1.k1 (C : CSem) (N : Nat → Nat) (Q : AVal → za → Prop) (v0 : AVal) (h : za) : Prop :=
 B.pv (A.boxN 11 v0) fun c1 =>
  B.al c1 (B.pv (V.zd 0 c1) fun v7 =>
  B.call C (N 476) [v7] h fun v8 h =>
  B.pv (V.ext 0 v8) fun v9 =>
  B.pv (V.ext 1 v8) fun v10 =>
  B.pv (V.un .not v10) fun v12 =>
  B.al c1 (B.gd h v12 false (fun K => K .undef h) fun _ h =>
  B.gd h v12 false (fun K => B.pv (V.zd 1 c1) fun v => K v h) fun v15 h =>
  B.gd h v12 false (fun K => B.pv (V.bin .lss v15 (.int .i64 0)) fun v => K v h) fun v16 h =>
  B.pick v12 (.bool true) v16 fun v17 =>
  B.al c1 (B.gd h v17 false (fun K => K .undef h) fun _ h =>
  B.gd h v17 false (fun K => B.pv (V.zd 1 c1) fun v => K v h) fun v20 h =>
  B.gd h v17 false (fun K => B.pv (V.bin .gtr v20 (.int .i64 4611686018427387904)) fun v => K v h) fun v21 h =>
  B.pick v17 (.bool true) v21 fun v22 =>
  B.cond v22
  (Q (.bool false) h)
  (B.al c1 (B.pv (V.zd 2 c1) fun v26 =>
  B.pv (V.bin .neq v26 (.str [])) fun v27 =>
  B.call C (N 477) [v9, (.int .u8 105)] h fun v24 h =>
  B.pv (V.zum .neq v24 v27) fun v28 =>
  B.al c1 (B.gd h v28 false (fun K => K .undef h) fun _ h =>
  B.gd h v28 false (fun K => B.pv (V.zd 2 c1) fun v => K v h) fun v31 h =>
  B.gd h v28 false (fun K => B.pv (V.bin .neq v31 (.str [])) fun v => K v h) fun v32 h =>
  B.gd h v28 false (fun K => K v32 h) fun v33 h =>
  B.al c1 (B.gd h v33 true (fun K => K .undef h) fun _ h =>
  B.gd h v33 true (fun K => B.pv (V.zd 2 c1) fun v => K v h) fun v35 h =>
  B.gd h v33 true (fun K => B.call C (N 61) [v35] h K) fun v36 h =>
  B.gd h v33 true (fun K => B.pv (V.un .not v36) fun v => K v h) fun v37 h =>
  B.gd h v28 false (fun K => B.pick v33 v37 (.bool false) fun v => K v h) fun v38 h =>
  B.pick v28 (.bool true) v38 fun v39 =>
  B.cond v39
  (Q (.bool false) h)
  (B.call C (N 477) [v9, (.int .u8 113)] h fun v41 h =>
  B.al c1 (B.gd h v41 true (fun K => K .undef h) fun _ h =>
  B.gd h v41 true (fun K => B.pv (V.zd 3 c1) fun v => K v h) fun v44 h =>
  B.gd h v41 true (fun K => B.pv (V.bin .lss v44 (.int .i64 1)) fun v => K v h) fun v45 h =>
  B.gd h v41 true (fun K => K v45 h) fun v46 h =>
  B.al c1 (B.gd h v46 false (fun K => K .undef h) fun _ h =>
  B.gd h v46 false (fun K => B.pv (V.zd 3 c1) fun v => K v h) fun v48 h =>
  B.gd h v46 false (fun K => B.pv (V.bin .gtr v48 (.int .i64 1073741824)) fun v => K v h) fun v49 h =>
  B.gd h v41 true (fun K => B.pick v46 (.bool true) v49 fun v => K v h) fun v50 h =>
  B.pick v41 v50 (.bool false) fun v51 =>
  B.gd h v51 false (fun K => K v9 h) fun v53 h =>
  B.gd h v51 false (fun K => B.call C (N 477) [v53, (.int .u8 113)] h K) fun v54 h =>
  B.gd h v51 false (fun K => B.pv (V.un .not v54) fun v => K v h) fun v55 h =>
  B.gd h v51 false (fun K => K v55 h) fun v56 h =>
  B.al c1 (B.gd h v56 true (fun K => K .undef h) fun _ h =>
  B.gd h v56 true (fun K => B.pv (V.zd 3 c1) fun v => K v h) fun v58 h =>
  B.gd h v56 true (fun K => B.pv (V.bin .neq v58 (.int .i64 0)) fun v => K v h) fun v59 h =>
  B.gd h v51 false (fun K => B.pick v56 v59 (.bool false) fun v => K v h) fun v60 h =>
  B.pick v51 (.bool true) v60 fun v61 =>
  B.cond v61
  (Q (.bool false) h)
  (B.al c1 (B.pv (V.zd 4 c1) fun v63 =>
  B.pv (V.bin .lss v63 (.int .i64 0)) fun v64 =>
  B.al c1 (B.gd h v64 false (fun K => K .undef h) fun _ h =>
  B.gd h v64 false (fun K => B.pv (V.zd 4 c1) fun v => K v h) fun v67 h =>
  B.gd h v64 false (fun K => B.pv (V.bin .gtr v67 (.int .i64 4000)) fun v => K v h) fun v68 h =>
  B.pick v64 (.bool true) v68 fun v69 =>
  B.gd h v69 false (fun K => K v9 h) fun v71 h =>
  B.gd h v69 false (fun K => B.call C (N 477) [v71, (.int .u8 100)] h K) fun v72 h =>
  B.gd h v69 false (fun K => B.pv (V.un .not v72) fun v => K v h) fun v73 h =>
  B.gd h v69 false (fun K => K v73 h) fun v74 h =>
  B.al c1 (B.gd h v74 true (fun K => K .undef h) fun _ h =>
  B.gd h v74 true (fun K => B.pv (V.zd 4 c1) fun v => K v h) fun v76 h =>
  B.gd h v74 true (fun K => B.pv (V.bin .neq v76 (.int .i64 0)) fun v => K v h) fun v77 h =>
  B.gd h v69 false (fun K => B.pick v74 v77 (.bool false) fun v => K v h) fun v78 h =>
  B.pick v69 (.bool true) v78 fun v79 =>
  B.cond v79
  (Q (.bool false) h)
  (B.call C (N 477) [v9, (.int .u8 108)] h fun v81 h =>
  B.al c1 (B.gd h v81 true (fun K => K .undef h) fun _ h =>
  B.gd h v81 true (fun K => B.pv (V.zd 5 c1) fun v => K v h) fun v84 h =>
  B.gd h v81 true (fun K => B.pv (V.bin .lss v84 (.int .i64 1)) fun v => K v h) fun v85 h =>
  B.gd h v81 true (fun K => K v85 h) fun v86 h =>
  B.al c1 (B.gd h v86 false (fun K => K .undef h) fun _ h =>
  B.gd h v86 false (fun K => B.pv (V.zd 5 c1) fun v => K v h) fun v88 h =>
  B.gd h v86 false (fun K => B.pv (V.bin .gtr v88 (.int .i64 2000)) fun v => K v h) fun v89 h =>
  B.gd h v81 true (fun K => B.pick v86 (.bool true) v89 fun v => K v h) fun v90 h =>
  B.pick v81 v90 (.bool false) fun v91 =>
  B.gd h v91 false (fun K => K v9 h) fun v93 h =>
  B.gd h v91 false (fun K => B.call C (N 477) [v93, (.int .u8 108)] h K) fun v94 h =>
  B.gd h v91 false (fun K => B.pv (V.un .not v94) fun v => K v h) fun v95 h =>
  B.gd h v91 false (fun K => K v95 h) fun v96 h =>
  B.al c1 (B.gd h v96 true (fun K => K .undef h) fun _ h =>
  B.gd h v96 true (fun K => B.pv (V.zd 5 c1) fun v => K v h) fun v98 h =>
  B.gd h v96 true (fun K => B.pv (V.bin .neq v98 (.int .i64 0)) fun v => K v h) fun v99 h =>
  B.gd h v91 false (fun K => B.pick v96 v99 (.bool false) fun v => K v h) fun v100 h =>
  B.pick v91 (.bool true) v100 fun v101 =>
  B.cond v101
  (Q (.bool false) h)
  (B.al c1 (B.pv (V.zd 6 c1) fun v103 =>
  B.pv (V.bin .lss v103 (.int .i64 0)) fun v104 =>
  B.al c1 (B.gd h v104 false (fun K => K .undef h) fun _ h =>
  B.gd h v104 false (fun K => B.pv (V.zd 6 c1) fun v => K v h) fun v107 h =>
  B.gd h v104 false (fun K => B.pv (V.bin .gtr v107 (.int .i64 99)) fun v => K v h) fun v108 h =>
  B.pick v104 (.bool true) v108 fun v109 =>
  B.gd h v109 false (fun K => K v9 h) fun v111 h =>
  B.gd h v109 false (fun K => B.call C (N 477) [v111, (.int .u8 114)] h K) fun v112 h =>
  B.gd h v109 false (fun K => B.pv (V.un .not v112) fun v => K v h) fun v113 h =>
  B.gd h v109 false (fun K => K v113 h) fun v114 h =>
  B.al c1 (B.gd h v114 true (fun K => K .undef h) fun _ h =>
  B.gd h v114 true (fun K => B.pv (V.zd 6 c1) fun v => K v h) fun v116 h =>
  B.gd h v114 true (fun K => B.pv (V.bin .neq v116 (.int .i64 0)) fun v => K v h) fun v117 h =>
  B.gd h v109 false (fun K => B.pick v114 v117 (.bool false) fun v => K v h) fun v118 h =>
  B.pick v109 (.bool true) v118 fun v119 =>
  B.cond v119
  (Q (.bool false) h)
  (B.call C (N 477) [v9, (.int .u8 116)] h fun v121 h =>
  B.al c1 (B.gd h v121 true (fun K => K .undef h) fun _ h =>
  B.gd h v121 true (fun K => B.pv (V.zd 7 c1) fun v => K v h) fun v124 h =>
  B.gd h v121 true (fun K => B.pv (V.bin .lss v124 (.int .i64 1)) fun v => K v h) fun v125 h =>
  B.pick v121 v125 (.bool false) fun v126 =>
  B.gd h v126 false (fun K => K v9 h) fun v128 h =>
  B.gd h v126 false (fun K => B.call C (N 477) [v128, (.int .u8 116)] h K) fun v129 h =>
  B.gd h v126 false (fun K => B.pv (V.un .not v129) fun v => K v h) fun v130 h =>
  B.gd h v126 false (fun K => K v130 h) fun v131 h =>
  B.al c1 (B.gd h v131 true (fun K => K .undef h) fun _ h =>
  B.gd h v131 true (fun K => B.pv (V.zd 7 c1) fun v => K v h) fun v133 h =>
  B.gd h v131 true (fun K => B.pv (V.bin .neq v133 (.int .i64 0)) fun v => K v h) fun v134 h =>
  B.gd h v126 false (fun K => B.pick v131 v134 (.bool false) fun v => K v h) fun v135 h =>
  B.pick v126 (.bool true) v135 fun v136 =>
  B.gd h v136 false (fun K => K v9 h) fun v138 h =>
  B.gd h v136 false (fun K => B.call C (N 477) [v138, (.int .u8 110)] h K) fun v139 h =>
  B.gd h v136 false (fun K => K v139 h) fun v140 h =>
  B.al c1 (B.gd h v140 true (fun K => K .undef h) fun _ h =>
  B.gd h v140 true (fun K => B.pv (V.zd 8 c1) fun v => K v h) fun v142 h =>
  B.gd h v140 true (fun K => B.pv (V.bin .lss v142 (.int .i64 1)) fun v => K v h) fun v143 h =>
  B.gd h v136 false (fun K => B.pick v140 v143 (.bool false) fun v => K v h) fun v144 h =>
  B.pick v136 (.bool true) v144 fun v145 =>
  B.gd h v145 false (fun K => K v9 h) fun v147 h =>
  B.gd h v145 false (fun K => B.call C (N 477) [v147, (.int .u8 110)] h K) fun v148 h =>
  B.gd h v145 false (fun K => B.pv (V.un .not v148) fun v => K v h) fun v149 h =>
  B.gd h v145 false (fun K => K v149 h) fun v150 h =>
  B.al c1 (B.gd h v150 true (fun K => K .undef h) fun _ h =>
  B.gd h v150 true (fun K => B.pv (V.zd 8 c1) fun v => K v h) fun v152 h =>
  B.gd h v150 true (fun K => B.pv (V.bin .neq v152 (.int .i64 0)) fun v => K v h) fun v153 h =>
  B.gd h v145 false (fun K => B.pick v150 v153 (.bool false) fun v => K v h) fun v154 h =>
  B.pick v145 (.bool true) v154 fun v155 =>
  B.cond v155
  (Q (.bool false) h)
  (B.call C (N 477) [v9, (.int .u8 112)] h fun v157 h =>
  B.al c1 (B.gd h v157 true (fun K => K .undef h) fun _ h =>
  B.gd h v157 true (fun K => B.pv (V.zd 9 c1) fun v => K v h) fun v160 h =>
  B.gd h v157 true (fun K => B.call C (N 478) [v160] h K) fun v161 h =>
  B.gd h v157 true (fun K => B.pv (V.un .not v161) fun v => K v h) fun v162 h =>
  B.pick v157 v162 (.bool false) fun v163 =>
  B.gd h v163 false (fun K => K v9 h) fun v165 h =>
  B.gd h v163 false (fun K => B.call C (N 477) [v165, (.int .u8 112)] h K) fun v166 h =>
  B.gd h v163 false (fun K => B.pv (V.un .not v166) fun v => K v h) fun v167 h =>
  B.gd h v163 false (fun K => K v167 h) fun v168 h =>
  B.al c1 (B.gd h v168 true (fun K => K .undef h) fun _ h =>
  B.gd h v168 true (fun K => B.pv (V.zd 9 c1) fun v => K v h) fun v170 h =>
  B.gd h v168 true (fun K => B.pv (V.zi v170) fun v => K v h) fun v171 h =>
  B.gd h v168 true (fun K => B.pv (V.bin .gtr v171 (.int .i64 0)) fun v => K v h) fun v172 h =>
  B.gd h v163 false (fun K => B.pick v168 v172 (.bool false) fun v => K v h) fun v173 h =>
  B.pick v163 (.bool true) v173 fun v174 =>
  B.cond v174
  (Q (.bool false) h)
  (B.call C (N 477) [v9, (.int .u8 111)] h fun v176 h =>
  B.al c1 (B.gd h v176 true (fun K => K .undef h) fun _ h =>
  B.gd h v176 true (fun K => B.pv (V.zd 10 c1) fun v => K v h) fun v179 h =>
  B.al c1 (B.gd h v176 true (fun K => K .undef h) fun _ h =>
  B.gd h v176 true (fun K => B.pv (V.zd 2 c1) fun v => K v h) fun v181 h =>
  B.gd h v176 true (fun K => B.call C (N 479) [v179, v181] h K) fun v182 h =>
  B.pick v176 v182 (.bool false) fun v183 =>
  B.gd h v183 false (fun K => K v9 h) fun v185 h =>
  B.gd h v183 false (fun K => B.call C (N 477) [v185, (.int .u8 111)] h K) fun v186 h =>
  B.gd h v183 false (fun K => B.pv (V.un .not v186) fun v => K v h) fun v187 h =>
  B.gd h v183 false (fun K => K v187 h) fun v188 h =>
  B.al c1 (B.gd h v188 true (fun K => K .undef h) fun _ h =>
  B.gd h v188 true (fun K => B.pv (V.zd 10 c1) fun v => K v h) fun v190 h =>
  B.gd h v188 true (fun K => B.pv (V.zi v190) fun v => K v h) fun v191 h =>
  B.gd h v188 true (fun K => B.pv (V.bin .eql v191 (.int .i64 0)) fun v => K v h) fun v192 h =>
  B.gd h v183 false (fun K => B.pick v188 v192 (.bool false) fun v => K v h) fun v193 h =>
  B.pick v183 (.bool true) v193 fun v194 =>
  Q v194 h)))))))))))))))))))))))))))))))))))
@[simp] def zd1.cps (C : CSem) (N : Nat → Nat) (v0 : AVal) (h : za) (Q : AVal → za → Prop) : Prop :=
 zd1.k1 C N Q v0 h
def zd1.Imp (C : CSem) (N : Nat → Nat) : Prop := ∀ (v0 : AVal) (h : za) (Q : AVal → za → Prop), zd1.cps C N v0 h (dn Q) → C (N 474) [v0] h Q
@[simp] def zz.k1 (C : CSem) (N : Nat → Nat) (Q : AVal → za → Prop) (v4 v23 : AVal) (h : za) : Prop :=
 B.cond v23
  (Q (.tup [(.str [110]), (.bool true)]) h)
  (B.pv (V.bin .eql v4 (.int .u8 12)) fun v28 =>
  B.cond v28
  (Q (.tup [(.str []), (.bool true)]) h)
  (B.pv (V.bin .eql v4 (.int .u8 15)) fun v30 =>
  B.cond v30
  (Q (.tup [(.str [105]), (.bool true)]) h)
  (Q (.tup [(.str []), (.bool false)]) h)))
@[simp] def zz.k2 (C : CSem) (N : Nat → Nat) (Q : AVal → za → Prop) (v4 : AVal) (h : za) : Prop :=
 B.pv (V.bin .eql v4 (.int .u8 10)) fun v24 =>
  B.cond v24
  (zz.k1 C N Q v4 v24 h)
  (B.pv (V.bin .eql v4 (.int .u8 11)) fun v25 =>
  B.cond v25
  (zz.k1 C N Q v4 v25 h)
  (B.pv (V.bin .eql v4 (.int .u8 14)) fun v26 =>
  zz.k1 C N Q v4 v26 h))
@[simp] def zz.k3 (C : CSem) (N : Nat → Nat) (Q : AVal → za → Prop) (v4 : AVal) (h : za) : Prop :=
 B.pv (V.bin .eql v4 (.int .u8 7)) fun v19 =>
  B.cond v19
  (B.cond v19 (Q (.tup [(.str [116]), (.bool true)]) h) (B.pv (V.bin .eql v4 (.int .u8 9)) fun v22 =>
  B.cond v22 (Q (.tup [(.str [105, 113, 100, 114]), (.bool true)]) h) (zz.k2 C N Q v4 h)))
  (B.pv (V.bin .eql v4 (.int .u8 8)) fun v20 =>
  B.cond v20 (Q (.tup [(.str [116]), (.bool true)]) h) (B.pv (V.bin .eql v4 (.int .u8 9)) fun v22 =>
  B.cond v22 (Q (.tup [(.str [105, 113, 100, 114]), (.bool true)]) h) (zz.k2 C N Q v4 h)))
@[simp] def zz.k4 (C : CSem) (N : Nat → Nat) (Q : AVal → za → Prop) (v4 : AVal) (h : za) : Prop :=
 B.pv (V.bin .eql v4 (.int .u8 5)) fun v14 =>
  B.cond v14
  (B.cond v14 (Q (.tup [(.str [105, 113, 100]), (.bool true)]) h) (B.pv (V.bin .eql v4 (.int .u8 6)) fun v17 =>
  B.cond v17 (Q (.tup [(.str [116, 100]), (.bool true)]) h) (zz.k3 C N Q v4 h)))
  (B.pv (V.bin .eql v4 (.int .u8 13)) fun v15 =>
  B.cond v15 (Q (.tup [(.str [105, 113, 100]), (.bool true)]) h) (B.pv (V.bin .eql v4 (.int .u8 6)) fun v17 =>
  B.cond v17 (Q (.tup [(.str [116, 100]), (.bool true)]) h) (zz.k3 C N Q v4 h)))
@[simp] def zz.k5 (C : CSem) (N : Nat → Nat) (Q : AVal → za → Prop) (v4 : AVal) (h : za) : Prop :=
 B.pv (V.bin .eql v4 (.int .u8 3)) fun v10 =>
  B.cond v10 (Q (.tup [(.str [105, 111]), (.bool true)]) h) (B.pv (V.bin .eql v4 (.int .u8 4)) fun v12 =>
  B.cond v12 (Q (.tup [(.str [105, 113]), (.bool true)]) h) (zz.k4 C N Q v4 h))
@[simp] def zz.k6 (C : CSem) (N : Nat → Nat) (Q : AVal → za → Prop) (v4 : AVal) (h : za) : Prop :=
 B.pv (V.bin .eql v4 (.int .u8 1)) fun v6 =>
  B.cond v6 (Q (.tup [(.str [105, 108]), (.bool true)]) h) (B.pv (V.bin .eql v4 (.int .u8 2)) fun v8 =>
  B.cond v8 (Q (.tup [(.str [105, 112]), (.bool true)]) h) (zz.k5 C N Q v4 h))
@[simp] def zz.cps (C : CSem) (N : Nat → Nat) (v0 : AVal) (h : za) (Q : AVal → za → Prop) : Prop :=
 zz.k6 C N Q v0 h
def zz.Imp (C : CSem) (N : Nat → Nat) : Prop := ∀ (v0 : AVal) (h : za) (Q : AVal → za → Prop), zz.cps C N v0 h (dn Q) → C (N 476) [v0] h Q
@[simp] def zdv.k1 (C : CSem) (N : Nat → Nat) (Q : AVal → za → Prop) (Y1 : List AVal → za → Prop) (v0 v1 v5 : AVal) (h : za) : Prop :=
 B.pv (V.zki v0) fun v8 =>
  B.pv (V.bin .lss v5 v8) fun v9 =>
  B.cond v9
  (B.pv (V.zja v0 v5) fun v14 =>
  B.pv (V.bin .eql v14 v1) fun v16 =>
  B.cond v16
  (Q (.bool true) h)
  (B.pv (V.bin .add v5 (.int .i64 1)) fun v11 =>
  Y1 [v11] h))
  (Q (.bool false) h)
@[simp] def zdv.l2 (C : CSem) (N : Nat → Nat) (Q : AVal → za → Prop) (v0 v1 : AVal) : List AVal → za → (List AVal → za → Prop) → Prop
 | [v5], h, Y1 => zdv.k1 C N Q Y1 v0 v1 v5 h
 | _, _, _ => False
@[simp] def zdv.cps (C : CSem) (N : Nat → Nat) (v0 v1 : AVal) (h : za) (Q : AVal → za → Prop) : Prop :=
 zg (zdv.l2 C N Q v0 v1) [(.int .i64 0)] h
def zdv.Imp (C : CSem) (N : Nat → Nat) : Prop := ∀ (v0 v1 : AVal) (h : za) (Q : AVal → za → Prop), zdv.cps C N v0 v1 h (dn Q) → C (N 477) [v0, v1] h Q
@[simp] def zbj.k1 (C : CSem) (N : Nat → Nat) (Q : AVal → za → Prop) (v0 : AVal) (h : za) : Prop :=
 B.pv (V.zi v0) fun v51 =>
  B.pv (V.bin .geq v51 (.int .i64 1)) fun v52 =>
  B.gd h v52 true (fun K => K v0 h) fun v54 h =>
  B.gd h v52 true (fun K => B.pv (V.zi v54) fun v => K v h) fun v55 h =>
  B.gd h v52 true (fun K => B.pv (V.bin .leq v55 (.int .i64 8)) fun v => K v h) fun v56 h =>
  B.pick v52 v56 (.bool false) fun v57 =>
  Q v57 h
@[simp] def zbj.k2 (C : CSem) (N : Nat → Nat) (Q : AVal → za → Prop) (Y1 : List AVal → za → Prop) (Y2 : List AVal → za → Prop) (v0 v3 v4 : AVal) (h : za) : Prop :=
 B.pv (V.bin .lss v4 v3) fun v36 =>
  B.cond v36
  (B.pv (V.idxS 2 v0 v4) fun v41 =>
  B.pv (V.fieldAddr 0 v41) fun v42 =>
  B.ld h v42 fun v43 =>
  B.pv (V.idxS 2 v0 v3) fun v46 =>
  B.pv (V.fieldAddr 0 v46) fun v47 =>
  B.ld h v47 fun v48 =>
  B.pv (V.bin .eql v43 v48) fun v49 =>
  B.cond v49
  (Q (.bool false) h)
  (B.pv (V.bin .add v4 (.int .i64 1)) fun v38 =>
  Y2 [v38] h))
  (B.pv (V.bin .add v3 (.int .i64 1)) fun v10 =>
  Y1 [v10] h)
@[simp] def zbj.l3 (C : CSem) (N : Nat → Nat) (Q : AVal → za → Prop) (Y1 : List AVal → za → Prop) (v0 v3 : AVal) : List AVal → za → (List AVal → za → Prop) → Prop
 | [v4], h, Y2 => zbj.k2 C N Q Y1 Y2 v0 v3 v4 h
 | _, _, _ => False
@[simp] def zbj.k4 (C : CSem) (N : Nat → Nat) (Q : AVal → za → Prop) (Y1 : List AVal → za → Prop) (v0 v3 : AVal) (h : za) : Prop :=
 B.pv (V.idxS 2 v0 v3) fun v13 =>
  B.pv (V.fieldAddr 0 v13) fun v14 =>
  B.ld h v14 fun v15 =>
  B.call C (N 61) [v15] h fun v16 h =>
  B.pv (V.un .not v16) fun v17 =>
  B.gd h v17 false (fun K => K v0 h) fun v19 h =>
  B.gd h v17 false (fun K => K v3 h) fun v20 h =>
  B.gd h v17 false (fun K => B.pv (V.idxS 2 v19 v20) fun v => K v h) fun v21 h =>
  B.gd h v17 false (fun K => B.pv (V.fieldAddr 1 v21) fun v => K v h) fun v22 h =>
  B.gd h v17 false (fun K => B.ld h v22 fun v => K v h) fun v23 h =>
  B.gd h v17 false (fun K => B.pv (V.bin .lss v23 (.int .i64 1)) fun v => K v h) fun v24 h =>
  B.pick v17 (.bool true) v24 fun v25 =>
  B.gd h v25 false (fun K => K v0 h) fun v27 h =>
  B.gd h v25 false (fun K => K v3 h) fun v28 h =>
  B.gd h v25 false (fun K => B.pv (V.idxS 2 v27 v28) fun v => K v h) fun v29 h =>
  B.gd h v25 false (fun K => B.pv (V.fieldAddr 1 v29) fun v => K v h) fun v30 h =>
  B.gd h v25 false (fun K => B.ld h v30 fun v => K v h) fun v31 h =>
  B.gd h v25 false (fun K => B.pv (V.bin .gtr v31 (.int .i64 1073741824)) fun v => K v h) fun v32 h =>
  B.pick v25 (.bool true) v32 fun v33 =>
  B.cond v33
  (Q (.bool false) h)
  (zg (zbj.l3 C N Q Y1 v0 v3) [(.int .i64 0)] h)
@[simp] def zbj.l5 (C : CSem) (N : Nat → Nat) (Q : AVal → za → Prop) (v0 : AVal) : List AVal → za → (List AVal → za → Prop) → Prop
 | [v3], h, Y1 => B.pv (V.zi v0) fun v7 =>
  B.pv (V.bin .lss v3 v7) fun v8 =>
  B.cond v8
  (zbj.k4 C N Q Y1 v0 v3 h)
  (zbj.k1 C N Q v0 h)
 | _, _, _ => False
@[simp] def zbj.cps (C : CSem) (N : Nat → Nat) (v0 : AVal) (h : za) (Q : AVal → za → Prop) : Prop :=
 zg (zbj.l5 C N Q v0) [(.int .i64 0)] h
def zbj.Imp (C : CSem) (N : Nat → Nat) : Prop := ∀ (v0 : AVal) (h : za) (Q : AVal → za → Prop), zbj.cps C N v0 h (dn Q) → C (N 478) [v0] h Q
@[simp] def zbf.k1 (C : CSem) (N : Nat → Nat) (Q : AVal → za → Prop) (Y1 : List AVal → za → Prop) (Y2 : List AVal → za → Prop) (v0 v1 v5 v6 : AVal) (h : za) : Prop :=
 B.pv (V.bin .lss v6 v5) fun v29 =>
  B.cond v29
  (B.pv (V.idxS 1 v0 v6) fun v34 =>
  B.ld h v34 fun v35 =>
  B.pv (V.idxS 1 v0 v5) fun v38 =>
  B.ld h v38 fun v39 =>
  B.pv (V.bin .eql v35 v39) fun v40 =>
  B.cond v40
  (Q (.bool false) h)
  (B.pv (V.bin .add v6 (.int .i64 1)) fun v31 =>
  Y2 [v31] h))
  (B.pv (V.bin .add v5 (.int .i64 1)) fun v12 =>
  Y1 [v12] h)
@[simp] def zbf.l2 (C : CSem) (N : Nat → Nat) (Q : AVal → za → Prop) (Y1 : List AVal → za → Prop) (v0 v1 v5 : AVal) : List AVal → za → (List AVal → za → Prop) → Prop
 | [v6], h, Y2 => zbf.k1 C N Q Y1 Y2 v0 v1 v5 v6 h
 | _, _, _ => False
@[simp] def zbf.k3 (C : CSem) (N : Nat → Nat) (Q : AVal → za → Prop) (Y1 : List AVal → za → Prop) (v0 v1 v5 : AVal) (h : za) : Prop :=
 B.pv (V.idxS 1 v0 v5) fun v15 =>
  B.ld h v15 fun v16 =>
  B.call C (N 61) [v16] h fun v17 h =>
  B.pv (V.un .not v17) fun v18 =>
  B.gd h v18 false (fun K => K v0 h) fun v20 h =>
  B.gd h v18 false (fun K => K v5 h) fun v21 h =>
  B.gd h v18 false (fun K => B.pv (V.idxS 1 v20 v21) fun v => K v h) fun v22 h =>
  B.gd h v18 false (fun K => B.ld h v22 fun v => K v h) fun v23 h =>
  B.gd h v18 false (fun K => K v1 h) fun v24 h =>
  B.gd h v18 false (fun K => B.pv (V.bin .eql v23 v24) fun v => K v h) fun v25 h =>
  B.pick v18 (.bool true) v25 fun v26 =>
  B.cond v26
  (Q (.bool false) h)
  (zg (zbf.l2 C N Q Y1 v0 v1 v5) [(.int .i64 0)] h)
@[simp] def zbf.k4 (C : CSem) (N : Nat → Nat) (Q : AVal → za → Prop) (Y1 : List AVal → za → Prop) (v0 v1 v5 : AVal) (h : za) : Prop :=
 B.pv (V.zi v0) fun v9 =>
  B.pv (V.bin .lss v5 v9) fun v10 =>
  B.cond v10
  (zbf.k3 C N Q Y1 v0 v1 v5 h)
  (B.pv (V.zi v0) fun v42 =>
  B.pv (V.bin .leq v42 (.int .i64 4)) fun v43 =>
  Q v43 h)
@[simp] def zbf.l5 (C : CSem) (N : Nat → Nat) (Q : AVal → za → Prop) (v0 v1 : AVal) : List AVal → za → (List AVal → za → Prop) → Prop
 | [v5], h, Y1 => zbf.k4 C N Q Y1 v0 v1 v5 h
 | _, _, _ => False
@[simp] def zbf.cps (C : CSem) (N : Nat → Nat) (v0 v1 : AVal) (h : za) (Q : AVal → za → Prop) : Prop :=
 zg (zbf.l5 C N Q v0 v1) [(.int .i64 0)] h
def zbf.Imp (C : CSem) (N : Nat → Nat) : Prop := ∀ (v0 v1 : AVal) (h : za) (Q : AVal → za → Prop), zbf.cps C N v0 v1 h (dn Q) → C (N 479) [v0, v1] h Q
@[simp] def zbm.k1 (C : CSem) (N : Nat → Nat) (Q : AVal → za → Prop) (Y1 : List AVal → za → Prop) (v3 v6 c1 : AVal) (h : za) : Prop :=
 B.al c1 (B.pv (V.zd 5 c1) fun v63 =>
  B.pv (V.zi v63) fun v64 =>
  B.pv (V.bin .lss v6 v64) fun v65 =>
  B.cond v65
  (B.al c1 (B.pv (V.zd 5 c1) fun v70 =>
  B.pv (V.idxS 8 v70 v6) fun v72 =>
  B.ldn h v72 8 fun v73 =>
  B.call C (N 463) [v73] h fun v74 h =>
  B.newO h (zc7 [(0, some 2, v74)] (repL 1 [.nils, .nils])) fun i75 h =>
  B.appW h 2 48 v3 (.sl i75 0 0 1 2 1) fun v76 h =>
  B.pv (V.bin .add v6 (.int .i64 1)) fun v67 =>
  Y1 [v76, v67] h))
  (Q v3 h))
@[simp] def zbm.l2 (C : CSem) (N : Nat → Nat) (Q : AVal → za → Prop) (c1 : AVal) : List AVal → za → (List AVal → za → Prop) → Prop
 | [v3, v6], h, Y1 => zbm.k1 C N Q Y1 v3 v6 c1 h
 | _, _, _ => False
@[simp] def zbm.k3 (C : CSem) (N : Nat → Nat) (Q : AVal → za → Prop) (Y2 : List AVal → za → Prop) (v3 v5 c1 : AVal) (h : za) : Prop :=
 B.al c1 (B.pv (V.zd 4 c1) fun v47 =>
  B.pv (V.zi v47) fun v48 =>
  B.pv (V.bin .lss v5 v48) fun v49 =>
  B.cond v49
  (B.al c1 (B.pv (V.zd 4 c1) fun v54 =>
  B.pv (V.idxS 6 v54 v5) fun v56 =>
  B.ldn h v56 6 fun v57 =>
  B.call C (N 464) [v57] h fun v58 h =>
  B.newO h (zc7 [(0, some 2, v58)] (repL 1 [.nils, .nils])) fun i59 h =>
  B.appW h 2 48 v3 (.sl i59 0 0 1 2 1) fun v60 h =>
  B.pv (V.bin .add v5 (.int .i64 1)) fun v51 =>
  Y2 [v60, v51] h))
  (zg (zbm.l2 C N Q c1) [v3, (.int .i64 0)] h))
@[simp] def zbm.l4 (C : CSem) (N : Nat → Nat) (Q : AVal → za → Prop) (c1 : AVal) : List AVal → za → (List AVal → za → Prop) → Prop
 | [v3, v5], h, Y2 => zbm.k3 C N Q Y2 v3 v5 c1 h
 | _, _, _ => False
@[simp] def zbm.k5 (C : CSem) (N : Nat → Nat) (Q : AVal → za → Prop) (Y3 : List AVal → za → Prop) (v3 v4 c1 : AVal) (h : za) : Prop :=
 B.al c1 (B.pv (V.zd 3 c1) fun v31 =>
  B.pv (V.zi v31) fun v32 =>
  B.pv (V.bin .lss v4 v32) fun v33 =>
  B.cond v33
  (B.al c1 (B.pv (V.zd 3 c1) fun v38 =>
  B.pv (V.idxS 4 v38 v4) fun v40 =>
  B.ldn h v40 4 fun v41 =>
  B.call C (N 465) [v41] h fun v42 h =>
  B.newO h (zc7 [(0, some 2, v42)] (repL 1 [.nils, .nils])) fun i43 h =>
  B.appW h 2 48 v3 (.sl i43 0 0 1 2 1) fun v44 h =>
  B.pv (V.bin .add v4 (.int .i64 1)) fun v35 =>
  Y3 [v44, v35] h))
  (zg (zbm.l4 C N Q c1) [v3, (.int .i64 0)] h))
@[simp] def zbm.l6 (C : CSem) (N : Nat → Nat) (Q : AVal → za → Prop) (c1 : AVal) : List AVal → za → (List AVal → za → Prop) → Prop
 | [v3, v4], h, Y3 => zbm.k5 C N Q Y3 v3 v4 c1 h
 | _, _, _ => False
@[simp] def zbm.k7 (C : CSem) (N : Nat → Nat) (Q : AVal → za → Prop) (c1 : AVal) (h : za) : Prop :=
 B.al c1 (B.pv (V.zd 0 c1) fun v13 =>
  B.al c1 (B.pv (V.zd 2 c1) fun v19 =>
  B.al c1 (B.pv (V.zd 1 c1) fun v25 =>
  B.call C (N 466) [v13, (.int .i64 2)] h fun v14 h =>
  B.call C (N 466) [v19, (.int .i64 8)] h fun v20 h =>
  B.call C (N 466) [v25, (.int .i64 8)] h fun v26 h =>
  B.newO h (zc7 [(0, none, (.int .u8 42)), (1, none, (.int .u8 100)), (2, none, (.int .u8 97)), (3, none, (.int .u8 121))] (repL 4 [.int .u8 0])) fun i10 h =>
  B.conv h (.sl i10 0 0 4 1 4) fun v11 =>
  B.pv (A.bld [(0, none, v11), (1, none, v14)] [.nils, .nils]) fun v15 =>
  B.newO h (zc7 [(0, none, (.int .u8 42)), (1, none, (.int .u8 108)), (2, none, (.int .u8 105)), (3, none, (.int .u8 110)), (4, none, (.int .u8 101))] (repL 5 [.int .u8 0])) fun i16 h =>
  B.conv h (.sl i16 0 0 5 1 5) fun v17 =>
  B.pv (A.bld [(0, none, v17), (1, none, v20)] [.nils, .nils]) fun v21 =>
  B.newO h (zc7 [(0, none, (.int .u8 42)), (1, none, (.int .u8 108)), (2, none, (.int .u8 111)), (3, none, (.int .u8 116))] (repL 4 [.int .u8 0])) fun i22 h =>
  B.conv h (.sl i22 0 0 4 1 4) fun v23 =>
  B.pv (A.bld [(0, none, v23), (1, none, v26)] [.nils, .nils]) fun v27 =>
  B.newO h (zc7 [(0, some 2, v15), (2, some 2, v21), (4, some 2, v27)] (repL 3 [.nils, .nils])) fun i28 h =>
  zg (zbm.l6 C N Q c1) [(.sl i28 0 0 3 2 3), (.int .i64 0)] h)))
@[simp] def zbm.k8 (C : CSem) (N : Nat → Nat) (Q : AVal → za → Prop) (c1 : AVal) (h : za) : Prop :=
 B.pv (V.zb4 0 6 c1) fun v7 =>
  B.call C (N 467) [v7] h fun v8 h =>
  B.pv (V.un .not v8) fun v9 =>
  B.cond v9
  (Q .nils h)
  (zbm.k7 C N Q c1 h)
@[simp] def zbm.cps (C : CSem) (N : Nat → Nat) (v0 : AVal) (h : za) (Q : AVal → za → Prop) : Prop :=
 B.pv (A.boxN 6 v0) fun c1 =>
  zbm.k8 C N Q c1 h
def zbm.Imp (C : CSem) (N : Nat → Nat) : Prop := ∀ (v0 : AVal) (h : za) (Q : AVal → za → Prop), zbm.cps C N v0 h (dn Q) → C (N 449) [v0] h Q
@[simp] def zdg.k1 (C : CSem) (N : Nat → Nat) (Q : AVal → za → Prop) (v0 : AVal) (h : za) : Prop :=
 B.pv (A.boxN 8 v0) fun c1 =>
  B.al c1 (B.pv (V.zd 1 c1) fun v5 =>
  B.al c1 (B.pv (V.zd 2 c1) fun v8 =>
  B.al c1 (B.pv (V.zd 3 c1) fun v11 =>
  B.al c1 (B.pv (V.zd 4 c1) fun v14 =>
  B.pv (V.toInt .u8 v14) fun v15 =>
  B.al c1 (B.pv (V.zd 5 c1) fun v17 =>
  B.al c1 (B.pv (V.zd 6 c1) fun v20 =>
  B.pv (V.bin .add v20 (.int .i64 1)) fun v21 =>
  B.al c1 (B.pv (V.zd 7 c1) fun v24 =>
  B.call C (N 59) [v5] h fun v6 h =>
  B.call C (N 466) [v8, (.int .i64 4)] h fun v9 h =>
  B.call C (N 466) [v11, (.int .i64 2)] h fun v12 h =>
  B.call C (N 466) [v21, (.int .i64 2)] h fun v22 h =>
  B.call C (N 59) [v24] h fun v25 h =>
  B.newO h (zc7 [(0, none, v15), (1, none, v17)] (repL 2 [.int .u8 0])) fun i18 h =>
  B.newO h (zc7 [(0, none, v6), (1, none, v9), (2, none, v12), (3, none, (.sl i18 0 0 2 1 2)), (4, none, v22), (5, none, v25)] (repL 6 [.nils])) fun i26 h =>
  B.call C (N 471) [(.sl i26 0 0 6 1 6)] h fun v27 h =>
  B.newO h (zc7 [(0, none, (.int .u8 111))] (repL 1 [.int .u8 0])) fun i28 h =>
  B.conv h (.sl i28 0 0 1 1 1) fun v29 =>
  B.al c1 (B.pv (V.zd 0 c1) fun v31 =>
  B.call C (N 466) [v31, (.int .i64 8)] h fun v32 h =>
  B.appW h 1 1 v29 v32 fun v33 h =>
  B.pv (A.bld [(0, none, v33), (1, none, v27)] [.nils, .nils]) fun v35 =>
  B.pv (V.setN 0 2 v35 (.agg [.nils, .nils])) fun c2 =>
  B.pv (oneOf (zfq (V.zb4 0 2 c2) (some []))) fun v => Q v h))))))))
@[simp] def zdg.cps (C : CSem) (N : Nat → Nat) (v0 : AVal) (h : za) (Q : AVal → za → Prop) : Prop :=
 zdg.k1 C N Q v0 h
def zdg.Imp (C : CSem) (N : Nat → Nat) : Prop := ∀ (v0 : AVal) (h : za) (Q : AVal → za → Prop), zdg.cps C N v0 h (dn Q) → C (N 463) [v0] h Q
@[simp] def zbt.k1 (C : CSem) (N : Nat → Nat) (Q : AVal → za → Prop) (v3 c1 c2 : AVal) (h : za) : Prop :=
 B.al c1 (B.pv (V.zd 1 c1) fun v8 =>
  B.al c1 (B.al c1 (B.pv (V.zd 2 c1) fun v12 =>
  B.al c1 (B.al c1 (B.pv (V.zd 3 c1) fun v16 =>
  B.al c1 (B.pv (V.zd 4 c1) fun v19 =>
  B.call C (N 59) [v8] h fun v9 h =>
  B.call C (N 466) [v12, (.int .i64 2)] h fun v13 h =>
  B.call C (N 466) [v16, (.int .i64 2)] h fun v17 h =>
  B.call C (N 466) [v19, (.int .i64 4)] h fun v20 h =>
  B.newO h (zc7 [(0, none, v3)] (repL 1 [.int .u8 0])) fun i22 h =>
  B.newO h (zc7 [(0, none, v9), (1, none, v13), (2, none, v17), (3, none, v20), (4, none, (.sl i22 0 0 1 1 1))] (repL 5 [.nils])) fun i23 h =>
  B.call C (N 471) [(.sl i23 0 0 5 1 5)] h fun v24 h =>
  B.newO h (zc7 [(0, none, (.int .u8 108))] (repL 1 [.int .u8 0])) fun i25 h =>
  B.conv h (.sl i25 0 0 1 1 1) fun v26 =>
  B.al c1 (B.pv (V.zd 0 c1) fun v28 =>
  B.call C (N 466) [v28, (.int .i64 8)] h fun v29 h =>
  B.appW h 1 1 v26 v29 fun v30 h =>
  B.pv (A.bld [(0, none, v30), (1, none, v24)] [.nils, .nils]) fun v32 =>
  B.pv (V.setN 0 2 v32 c2) fun c2 =>
  B.pv (oneOf (zfq (V.zb4 0 2 c2) (some []))) fun v => Q v h)))))))
@[simp] def zbt.k2 (C : CSem) (N : Nat → Nat) (Q : AVal → za → Prop) (v0 : AVal) (h : za) : Prop :=
 B.pv (A.boxN 6 v0) fun c1 =>
  B.al c1 (B.pv (V.zd 5 c1) fun v6 =>
  B.cond v6
  (zbt.k1 C N Q (.int .u8 1) c1 (.agg [.nils, .nils]) h)
  (zbt.k1 C N Q (.int .u8 0) c1 (.agg [.nils, .nils]) h))
@[simp] def zbt.cps (C : CSem) (N : Nat → Nat) (v0 : AVal) (h : za) (Q : AVal → za → Prop) : Prop :=
 zbt.k2 C N Q v0 h
def zbt.Imp (C : CSem) (N : Nat → Nat) : Prop := ∀ (v0 : AVal) (h : za) (Q : AVal → za → Prop), zbt.cps C N v0 h (dn Q) → C (N 464) [v0] h Q
@[simp] def zy.k1 (C : CSem) (N : Nat → Nat) (Q : AVal → za → Prop) (v3 c1 c2 : AVal) (h : za) : Prop :=
 B.al c1 (B.pv (V.zd 0 c1) fun v63 =>
  B.pv (V.bin .add (.str [105]) v63) fun v64 =>
  B.zgk h v64 fun v65 h =>
  B.pv (A.bld [(0, none, v65), (1, none, v3)] [.nils, .nils]) fun v67 =>
  B.pv (V.setN 0 2 v67 c2) fun c2 =>
  B.pv (oneOf (zfq (V.zb4 0 2 c2) (some []))) fun v => Q v h)
@[simp] def zy.k2 (C : CSem) (N : Nat → Nat) (Q : AVal → za → Prop) (Y1 : List AVal → za → Prop) (v3 v5 c1 c2 : AVal) (h : za) : Prop :=
 B.al c1 (B.pv (V.zd 3 c1) fun v49 =>
  B.pv (V.zi v49) fun v50 =>
  B.pv (V.bin .lss v5 v50) fun v51 =>
  B.cond v51
  (B.al c1 (B.pv (V.zd 3 c1) fun v56 =>
  B.pv (V.idxS 1 v56 v5) fun v58 =>
  B.ld h v58 fun v59 =>
  B.call C (N 59) [v59] h fun v60 h =>
  B.appW h 1 1 v3 v60 fun v61 h =>
  B.pv (V.bin .add v5 (.int .i64 1)) fun v53 =>
  Y1 [v61, v53] h))
  (zy.k1 C N Q v3 c1 c2 h))
@[simp] def zy.l3 (C : CSem) (N : Nat → Nat) (Q : AVal → za → Prop) (c1 c2 : AVal) : List AVal → za → (List AVal → za → Prop) → Prop
 | [v3, v5], h, Y1 => zy.k2 C N Q Y1 v3 v5 c1 c2 h
 | _, _, _ => False
@[simp] def zy.k4 (C : CSem) (N : Nat → Nat) (Q : AVal → za → Prop) (v3 c1 c2 : AVal) (h : za) : Prop :=
 B.al c1 (B.pv (V.zd 3 c1) fun v42 =>
  B.pv (V.zi v42) fun v43 =>
  B.pv (V.toInt .u8 v43) fun v44 =>
  B.newO h (zc7 [(0, none, v44)] (repL 1 [.int .u8 0])) fun i45 h =>
  B.appW h 1 1 v3 (.sl i45 0 0 1 1 1) fun v46 h =>
  zg (zy.l3 C N Q c1 c2) [v46, (.int .i64 0)] h)
@[simp] def zy.k5 (C : CSem) (N : Nat → Nat) (Q : AVal → za → Prop) (Y2 : List AVal → za → Prop) (v3 v4 c1 c2 : AVal) (h : za) : Prop :=
 B.al c1 (B.pv (V.zd 2 c1) fun v17 =>
  B.pv (V.zi v17) fun v18 =>
  B.pv (V.bin .lss v4 v18) fun v19 =>
  B.cond v19
  (B.al c1 (B.pv (V.zd 2 c1) fun v24 =>
  B.pv (V.idxS 2 v24 v4) fun v26 =>
  B.pv (V.fieldAddr 0 v26) fun v27 =>
  B.ld h v27 fun v28 =>
  B.call C (N 59) [v28] h fun v29 h =>
  B.appW h 1 1 v3 v29 fun v30 h =>
  B.al c1 (B.pv (V.zd 2 c1) fun v33 =>
  B.pv (V.idxS 2 v33 v4) fun v35 =>
  B.pv (V.fieldAddr 1 v35) fun v36 =>
  B.ld h v36 fun v37 =>
  B.call C (N 466) [v37, (.int .i64 4)] h fun v38 h =>
  B.appW h 1 1 v30 v38 fun v39 h =>
  B.pv (V.bin .add v4 (.int .i64 1)) fun v21 =>
  Y2 [v39, v21] h)))
  (zy.k4 C N Q v3 c1 c2 h))
@[simp] def zy.l6 (C : CSem) (N : Nat → Nat) (Q : AVal → za → Prop) (c1 c2 : AVal) : List AVal → za → (List AVal → za → Prop) → Prop
 | [v3, v4], h, Y2 => zy.k5 C N Q Y2 v3 v4 c1 c2 h
 | _, _, _ => False
@[simp] def zy.k7 (C : CSem) (N : Nat → Nat) (Q : AVal → za → Prop) (c1 c2 : AVal) (h : za) : Prop :=
 B.al c1 (B.pv (V.zd 1 c1) fun v7 =>
  B.al c1 (B.pv (V.zd 2 c1) fun v10 =>
  B.pv (V.zi v10) fun v11 =>
  B.pv (V.toInt .u8 v11) fun v12 =>
  B.call C (N 466) [v7, (.int .i64 2)] h fun v8 h =>
  B.newO h (zc7 [(0, none, v12)] (repL 1 [.int .u8 0])) fun i13 h =>
  B.appW h 1 1 v8 (.sl i13 0 0 1 1 1) fun v14 h =>
  zg (zy.l6 C N Q c1 c2) [v14, (.int .i64 0)] h))
@[simp] def zy.cps (C : CSem) (N : Nat → Nat) (v0 : AVal) (h : za) (Q : AVal → za → Prop) : Prop :=
 B.pv (A.boxN 4 v0) fun c1 =>
  zy.k7 C N Q c1 (.agg [.nils, .nils]) h
def zy.Imp (C : CSem) (N : Nat → Nat) : Prop := ∀ (v0 : AVal) (h : za) (Q : AVal → za → Prop), zy.cps C N v0 h (dn Q) → C (N 465) [v0] h Q
@[simp] def zbr.k1 (C : CSem) (N : Nat → Nat) (Q : AVal → za → Prop) (Y1 : List AVal → za → Prop) (v0 v5 v6 : AVal) (h : za) : Prop :=
 B.pv (V.bin .geq v6 (.int .i64 0)) fun v10 =>
  B.cond v10
  (B.pv (V.toInt .u64 v0) fun v15 =>
  B.pv (V.bin .mul (.int .i64 8) v6) fun v17 =>
  B.pv (V.toInt .u64 v17) fun v18 =>
  B.pv (V.bin .shr v15 v18) fun v19 =>
  B.pv (V.toInt .u8 v19) fun v20 =>
  B.newO h (zc7 [(0, none, v20)] (repL 1 [.int .u8 0])) fun i21 h =>
  B.appW h 1 1 v5 (.sl i21 0 0 1 1 1) fun v22 h =>
  B.pv (V.bin .sub v6 (.int .i64 1)) fun v12 =>
  Y1 [v22, v12] h)
  (Q v5 h)
@[simp] def zbr.l2 (C : CSem) (N : Nat → Nat) (Q : AVal → za → Prop) (v0 : AVal) : List AVal → za → (List AVal → za → Prop) → Prop
 | [v5, v6], h, Y1 => zbr.k1 C N Q Y1 v0 v5 v6 h
 | _, _, _ => False
@[simp] def zbr.cps (C : CSem) (N : Nat → Nat) (v0 v1 : AVal) (h : za) (Q : AVal → za → Prop) : Prop :=
 B.pv (V.bin .sub v1 (.int .i64 1)) fun v8 =>
  zg (zbr.l2 C N Q v0) [.nils, v8] h
def zbr.Imp (C : CSem) (N : Nat → Nat) : Prop := ∀ (v0 v1 : AVal) (h : za) (Q : AVal → za → Prop), zbr.cps C N v0 v1 h (dn Q) → C (N 466) [v0, v1] h Q
@[simp] def z9.k1 (C : CSem) (N : Nat → Nat) (Q : AVal → za → Prop) (Y1 : List AVal → za → Prop) (v5 c1 : AVal) (h : za) : Prop :=
 B.al c1 (B.pv (V.zd 5 c1) fun v104 =>
  B.pv (V.zi v104) fun v105 =>
  B.pv (V.bin .lss v5 v105) fun v106 =>
  B.cond v106
  (B.al c1 (B.pv (V.zd 5 c1) fun v110 =>
  B.pv (V.idxS 8 v110 v5) fun v112 =>
  B.ldn h v112 8 fun v113 =>
  B.call C (N 180) [v113] h fun v114 h =>
  B.pv (V.un .not v114) fun v115 =>
  B.gd h v115 false (fun K => K v5 h) fun v117 h =>
  B.gd h v115 false (fun K => B.pv (V.bin .gtr v117 (.int .i64 0)) fun v => K v h) fun v118 h =>
  B.gd h v115 false (fun K => K v118 h) fun v119 h =>
  B.al c1 (B.gd h v119 true (fun K => K .undef h) fun _ h =>
  B.gd h v119 true (fun K => B.pv (V.zd 5 c1) fun v => K v h) fun v121 h =>
  B.gd h v119 true (fun K => K v5 h) fun v122 h =>
  B.gd h v119 true (fun K => B.pv (V.bin .sub v122 (.int .i64 1)) fun v => K v h) fun v123 h =>
  B.gd h v119 true (fun K => B.pv (V.idxS 8 v121 v123) fun v => K v h) fun v124 h =>
  B.gd h v119 true (fun K => B.pv (V.fieldAddr 0 v124) fun v => K v h) fun v125 h =>
  B.gd h v119 true (fun K => B.ld h v125 fun v => K v h) fun v126 h =>
  B.al c1 (B.gd h v119 true (fun K => K .undef h) fun _ h =>
  B.gd h v119 true (fun K => B.pv (V.zd 5 c1) fun v => K v h) fun v128 h =>
  B.gd h v119 true (fun K => K v5 h) fun v129 h =>
  B.gd h v119 true (fun K => B.pv (V.idxS 8 v128 v129) fun v => K v h) fun v130 h =>
  B.gd h v119 true (fun K => B.pv (V.fieldAddr 0 v130) fun v => K v h) fun v131 h =>
  B.gd h v119 true (fun K => B.ld h v131 fun v => K v h) fun v132 h =>
  B.gd h v119 true (fun K => B.pv (V.bin .geq v126 v132) fun v => K v h) fun v133 h =>
  B.gd h v115 false (fun K => B.pick v119 v133 (.bool false) fun v => K v h) fun v134 h =>
  B.pick v115 (.bool true) v134 fun v135 =>
  B.cond v135
  (Q (.bool false) h)
  (B.pv (V.bin .add v5 (.int .i64 1)) fun v108 =>
  Y1 [v108] h)))))
  (Q (.bool true) h))
@[simp] def z9.l2 (C : CSem) (N : Nat → Nat) (Q : AVal → za → Prop) (c1 : AVal) : List AVal → za → (List AVal → za → Prop) → Prop
 | [v5], h, Y1 => z9.k1 C N Q Y1 v5 c1 h
 | _, _, _ => False
@[simp] def z9.k3 (C : CSem) (N : Nat → Nat) (Q : AVal → za → Prop) (Y2 : List AVal → za → Prop) (v4 c1 : AVal) (h : za) : Prop :=
 B.al c1 (B.pv (V.zd 4 c1) fun v70 =>
  B.pv (V.zi v70) fun v71 =>
  B.pv (V.bin .lss v4 v71) fun v72 =>
  B.cond v72
  (B.al c1 (B.pv (V.zd 4 c1) fun v76 =>
  B.pv (V.idxS 6 v76 v4) fun v78 =>
  B.ldn h v78 6 fun v79 =>
  B.call C (N 60) [v79] h fun v80 h =>
  B.pv (V.un .not v80) fun v81 =>
  B.gd h v81 false (fun K => K v4 h) fun v83 h =>
  B.gd h v81 false (fun K => B.pv (V.bin .gtr v83 (.int .i64 0)) fun v => K v h) fun v84 h =>
  B.gd h v81 false (fun K => K v84 h) fun v85 h =>
  B.al c1 (B.gd h v85 true (fun K => K .undef h) fun _ h =>
  B.gd h v85 true (fun K => B.pv (V.zd 4 c1) fun v => K v h) fun v87 h =>
  B.gd h v85 true (fun K => K v4 h) fun v88 h =>
  B.gd h v85 true (fun K => B.pv (V.bin .sub v88 (.int .i64 1)) fun v => K v h) fun v89 h =>
  B.gd h v85 true (fun K => B.pv (V.idxS 6 v87 v89) fun v => K v h) fun v90 h =>
  B.gd h v85 true (fun K => B.pv (V.fieldAddr 0 v90) fun v => K v h) fun v91 h =>
  B.gd h v85 true (fun K => B.ld h v91 fun v => K v h) fun v92 h =>
  B.al c1 (B.gd h v85 true (fun K => K .undef h) fun _ h =>
  B.gd h v85 true (fun K => B.pv (V.zd 4 c1) fun v => K v h) fun v94 h =>
  B.gd h v85 true (fun K => K v4 h) fun v95 h =>
  B.gd h v85 true (fun K => B.pv (V.idxS 6 v94 v95) fun v => K v h) fun v96 h =>
  B.gd h v85 true (fun K => B.pv (V.fieldAddr 0 v96) fun v => K v h) fun v97 h =>
  B.gd h v85 true (fun K => B.ld h v97 fun v => K v h) fun v98 h =>
  B.gd h v85 true (fun K => B.pv (V.bin .geq v92 v98) fun v => K v h) fun v99 h =>
  B.gd h v81 false (fun K => B.pick v85 v99 (.bool false) fun v => K v h) fun v100 h =>
  B.pick v81 (.bool true) v100 fun v101 =>
  B.cond v101
  (Q (.bool false) h)
  (B.pv (V.bin .add v4 (.int .i64 1)) fun v74 =>
  Y2 [v74] h)))))
  (zg (z9.l2 C N Q c1) [(.int .i64 0)] h))
@[simp] def z9.l4 (C : CSem) (N : Nat → Nat) (Q : AVal → za → Prop) (c1 : AVal) : List AVal → za → (List AVal → za → Prop) → Prop
 | [v4], h, Y2 => z9.k3 C N Q Y2 v4 c1 h
 | _, _, _ => False
@[simp] def z9.k5 (C : CSem) (N : Nat → Nat) (Q : AVal → za → Prop) (Y3 : List AVal → za → Prop) (v3 c1 : AVal) (h : za) : Prop :=
 B.al c1 (B.pv (V.zd 3 c1) fun v36 =>
  B.pv (V.zi v36) fun v37 =>
  B.pv (V.bin .lss v3 v37) fun v38 =>
  B.cond v38
  (B.al c1 (B.pv (V.zd 3 c1) fun v42 =>
  B.pv (V.idxS 4 v42 v3) fun v44 =>
  B.ldn h v44 4 fun v45 =>
  B.call C (N 472) [v45] h fun v46 h =>
  B.pv (V.un .not v46) fun v47 =>
  B.gd h v47 false (fun K => K v3 h) fun v49 h =>
  B.gd h v47 false (fun K => B.pv (V.bin .gtr v49 (.int .i64 0)) fun v => K v h) fun v50 h =>
  B.gd h v47 false (fun K => K v50 h) fun v51 h =>
  B.al c1 (B.gd h v51 true (fun K => K .undef h) fun _ h =>
  B.gd h v51 true (fun K => B.pv (V.zd 3 c1) fun v => K v h) fun v53 h =>
  B.gd h v51 true (fun K => K v3 h) fun v54 h =>
  B.gd h v51 true (fun K => B.pv (V.bin .sub v54 (.int .i64 1)) fun v => K v h) fun v55 h =>
  B.gd h v51 true (fun K => B.pv (V.idxS 4 v53 v55) fun v => K v h) fun v56 h =>
  B.gd h v51 true (fun K => B.pv (V.fieldAddr 0 v56) fun v => K v h) fun v57 h =>
  B.gd h v51 true (fun K => B.ld h v57 fun v => K v h) fun v58 h =>
  B.al c1 (B.gd h v51 true (fun K => K .undef h) fun _ h =>
  B.gd h v51 true (fun K => B.pv (V.zd 3 c1) fun v => K v h) fun v60 h =>
  B.gd h v51 true (fun K => K v3 h) fun v61 h =>
  B.gd h v51 true (fun K => B.pv (V.idxS 4 v60 v61) fun v => K v h) fun v62 h =>
  B.gd h v51 true (fun K => B.pv (V.fieldAddr 0 v62) fun v => K v h) fun v63 h =>
  B.gd h v51 true (fun K => B.ld h v63 fun v => K v h) fun v64 h =>
  B.gd h v51 true (fun K => B.pv (V.bin .geq v58 v64) fun v => K v h) fun v65 h =>
  B.gd h v47 false (fun K => B.pick v51 v65 (.bool false) fun v => K v h) fun v66 h =>
  B.pick v47 (.bool true) v66 fun v67 =>
  B.cond v67
  (Q (.bool false) h)
  (B.pv (V.bin .add v3 (.int .i64 1)) fun v40 =>
  Y3 [v40] h)))))
  (zg (z9.l4 C N Q c1) [(.int .i64 0)] h))
@[simp] def z9.l6 (C : CSem) (N : Nat → Nat) (Q : AVal → za → Prop) (c1 : AVal) : List AVal → za → (List AVal → za → Prop) → Prop
 | [v3], h, Y3 => z9.k5 C N Q Y3 v3 c1 h
 | _, _, _ => False
@[simp] def z9.k7 (C : CSem) (N : Nat → Nat) (Q : AVal → za → Prop) (c1 : AVal) (h : za) : Prop :=
 B.al c1 (B.pv (V.zd 0 c1) fun v7 =>
  B.pv (V.bin .lss v7 (.int .i64 0)) fun v8 =>
  B.al c1 (B.gd h v8 false (fun K => K .undef h) fun _ h =>
  B.gd h v8 false (fun K => B.pv (V.zd 0 c1) fun v => K v h) fun v11 h =>
  B.gd h v8 false (fun K => B.pv (V.bin .gtr v11 (.int .i64 4000)) fun v => K v h) fun v12 h =>
  B.pick v8 (.bool true) v12 fun v13 =>
  B.al c1 (B.gd h v13 false (fun K => K .undef h) fun _ h =>
  B.gd h v13 false (fun K => B.pv (V.zd 1 c1) fun v => K v h) fun v16 h =>
  B.gd h v13 false (fun K => B.pv (V.bin .lss v16 (.int .i64 1)) fun v => K v h) fun v17 h =>
  B.pick v13 (.bool true) v17 fun v18 =>
  B.al c1 (B.gd h v18 false (fun K => K .undef h) fun _ h =>
  B.gd h v18 false (fun K => B.pv (V.zd 1 c1) fun v => K v h) fun v21 h =>
  B.gd h v18 false (fun K => B.pv (V.bin .gtr v21 (.int .i64 4611686018427387904)) fun v => K v h) fun v22 h =>
  B.pick v18 (.bool true) v22 fun v23 =>
  B.al c1 (B.gd h v23 false (fun K => K .undef h) fun _ h =>
  B.gd h v23 false (fun K => B.pv (V.zd 2 c1) fun v => K v h) fun v26 h =>
  B.gd h v23 false (fun K => B.pv (V.bin .lss v26 (.int .i64 1)) fun v => K v h) fun v27 h =>
  B.pick v23 (.bool true) v27 fun v28 =>
  B.al c1 (B.gd h v28 false (fun K => K .undef h) fun _ h =>
  B.gd h v28 false (fun K => B.pv (V.zd 2 c1) fun v => K v h) fun v31 h =>
  B.gd h v28 false (fun K => B.pv (V.bin .gtr v31 (.int .i64 4611686018427387904)) fun v => K v h) fun v32 h =>
  B.pick v28 (.bool true) v32 fun v33 =>
  B.cond v33
  (Q (.bool false) h)
  (zg (z9.l6 C N Q c1) [(.int .i64 0)] h)))))))
@[simp] def z9.cps (C : CSem) (N : Nat → Nat) (v0 : AVal) (h : za) (Q : AVal → za → Prop) : Prop :=
 B.pv (A.boxN 6 v0) fun c1 =>
  z9.k7 C N Q c1 h
def z9.Imp (C : CSem) (N : Nat → Nat) : Prop := ∀ (v0 : AVal) (h : za) (Q : AVal → za → Prop), z9.cps C N v0 h (dn Q) → C (N 467) [v0] h Q
@[simp] def zbz.k1 (C : CSem) (N : Nat → Nat) (Q : AVal → za → Prop) (Y1 : List AVal → za → Prop) (v0 v3 v4 : AVal) (h : za) : Prop :=
 B.pv (V.zi v0) fun v7 =>
  B.pv (V.bin .lss v4 v7) fun v8 =>
  B.cond v8
  (B.pv (V.idxS 1 v0 v4) fun v14 =>
  B.ld h v14 fun v15 =>
  B.appW h 1 1 v3 v15 fun v16 h =>
  B.pv (V.bin .add v4 (.int .i64 1)) fun v10 =>
  Y1 [v16, v10] h)
  (Q v3 h)
@[simp] def zbz.l2 (C : CSem) (N : Nat → Nat) (Q : AVal → za → Prop) (v0 : AVal) : List AVal → za → (List AVal → za → Prop) → Prop
 | [v3, v4], h, Y1 => zbz.k1 C N Q Y1 v0 v3 v4 h
 | _, _, _ => False
@[simp] def zbz.cps (C : CSem) (N : Nat → Nat) (v0 : AVal) (h : za) (Q : AVal → za → Prop) : Prop :=
 zg (zbz.l2 C N Q v0) [.nils, (.int .i64 0)] h
def zbz.Imp (C : CSem) (N : Nat → Nat) : Prop := ∀ (v0 : AVal) (h : za) (Q : AVal → za → Prop), zbz.cps C N v0 h (dn Q) → C (N 471) [v0] h Q
@[simp] def zef.k1 (C : CSem) (N : Nat → Nat) (Q : AVal → za → Prop) (v0 : AVal) (h : za) : Prop :=
 B.pv (A.boxN 4 v0) fun c1 =>
  B.al c1 (B.pv (V.zd 0 c1) fun v4 =>
  B.call C (N 61) [v4] h fun v5 h =>
  B.pv (V.un .not v5) fun v6 =>
  B.al c1 (B.gd h v6 false (fun K => K .undef h) fun _ h =>
  B.gd h v6 false (fun K => B.pv (V.zd 0 c1) fun v => K v h) fun v9 h =>
  B.al c1 (B.gd h v6 false (fun K => K .undef h) fun _ h =>
  B.gd h v6 false (fun K => B.pv (V.zd 3 c1) fun v => K v h) fun v11 h =>
  B.gd h v6 false (fun K => B.pv (A.bld [(0, none, (.int .u8 3)), (2, none, v9), (10, none, v11)] [.int .u8 0, .int .i64 0, .str [], .int .i64 0, .int .i64 0, .int .i64 0, .int .i64 0, .int .i64 0, .int .i64 0, .nils, .nils]) fun v => K v h) fun v12 h =>
  B.gd h v6 false (fun K => B.call C (N 474) [v12] h K) fun v13 h =>
  B.gd h v6 false (fun K => B.pv (V.un .not v13) fun v => K v h) fun v14 h =>
  B.pick v6 (.bool true) v14 fun v15 =>
  B.cond v15
  (Q (.bool false) h)
  (B.al c1 (B.pv (V.zd 2 c1) fun v17 =>
  B.pv (V.zi v17) fun v18 =>
  B.pv (V.bin .eql v18 (.int .i64 0)) fun v19 =>
  B.cond v19
  (B.al c1 (B.pv (V.zd 1 c1) fun v21 =>
  B.pv (V.bin .geq v21 (.int .i64 1)) fun v22 =>
  B.al c1 (B.gd h v22 true (fun K => K .undef h) fun _ h =>
  B.gd h v22 true (fun K => B.pv (V.zd 1 c1) fun v => K v h) fun v25 h =>
  B.gd h v22 true (fun K => B.pv (V.bin .leq v25 (.int .i64 2000)) fun v => K v h) fun v26 h =>
  B.pick v22 v26 (.bool false) fun v27 =>
  Q v27 h)))
  (B.al c1 (B.pv (V.zd 1 c1) fun v29 =>
  B.pv (V.bin .eql v29 (.int .i64 0)) fun v30 =>
  B.al c1 (B.gd h v30 true (fun K => K .undef h) fun _ h =>
  B.gd h v30 true (fun K => B.pv (V.zd 0 c1) fun v => K v h) fun v33 h =>
  B.al c1 (B.gd h v30 true (fun K => K .undef h) fun _ h =>
  B.gd h v30 true (fun K => B.pv (V.zd 2 c1) fun v => K v h) fun v35 h =>
  B.gd h v30 true (fun K => B.pv (A.bld [(0, none, (.int .u8 2)), (2, none, v33), (9, none, v35)] [.int .u8 0, .int .i64 0, .str [], .int .i64 0, .int .i64 0, .int .i64 0, .int .i64 0, .int .i64 0, .int .i64 0, .nils, .nils]) fun v => K v h) fun v36 h =>
  B.gd h v30 true (fun K => B.call C (N 474) [v36] h K) fun v37 h =>
  B.pick v30 v37 (.bool false) fun v38 =>
  Q v38 h)))))))))
@[simp] def zef.cps (C : CSem) (N : Nat → Nat) (v0 : AVal) (h : za) (Q : AVal → za → Prop) : Prop :=
 zef.k1 C N Q v0 h
def zef.Imp (C : CSem) (N : Nat → Nat) : Prop := ∀ (v0 : AVal) (h : za) (Q : AVal → za → Prop), zef.cps C N v0 h (dn Q) → C (N 472) [v0] h Q
end Go.Ab
